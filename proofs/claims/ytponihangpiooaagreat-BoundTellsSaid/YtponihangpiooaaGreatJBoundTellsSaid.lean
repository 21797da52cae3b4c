/-
  BoundTells holds: what any call of any object costs alone at most, and of which kind of object it is a call, is the document's, without conditions.
-/
import Derived.Test.YtponihangpiooaaGreatJBoundTellsSaid6
import Derived.Laws.AppendOwn
import Derived.Deep.Slices
namespace Go.Proofs.YtponihangpiooaaGreat
open Go.RowKit Kv
def obVals (o:Ob):List Value:=(obA o).toList
def thgVals (t:Thg):List Value:=(thgA t).toList
theorem info_obj:(Tryz.prog.info? 61).map (fun i=>(i.zero,i.size,i.bytes))=some (some (.agg #[.int .i64 0,.int .i64 0,.int .i64 0,.int .i64 0,.int .i64 0,.int .i64 0,.int .i64 0,.int .i64 0,.int .i64 0,.int .i64 0,.int .i64 0,.int .i64 0,.int .i64 0,.int .i64 0,.int .i64 0,.int .i64 0,.int .i64 0,.int .i64 0,.int .i64 0,.int .i64 0,.int .i64 0,.int .i64 0,.int .i64 0]),23,184):=by kernel_rfl
theorem bslice_obj (x0 x1 x2 x3 x4 x5 x6 x7 x8 x9 x10 x11 x12 x13 x14 x15 x16 x17 x18 x19 x20 x21 x22:Int)(w:World):(Instr.buildSlice 52 1 #[(0,.agg #[.int .i64 x0,.int .i64 x1,.int .i64 x2,.int .i64 x3,.int .i64 x4,.int .i64 x5,.int .i64 x6,.int .i64 x7,.int .i64 x8,.int .i64 x9,.int .i64 x10,.int .i64 x11,.int .i64 x12,.int .i64 x13,.int .i64 x14,.int .i64 x15,.int .i64 x16,.int .i64 x17,.int .i64 x18,.int .i64 x19,.int .i64 x20,.int .i64 x21,.int .i64 x22])]).run Tryz.prog w=.ok (.slice (some ⟨w.heap.size,0,none⟩) 1 1) (w.alloc (.cells #[.int .i64 x0,.int .i64 x1,.int .i64 x2,.int .i64 x3,.int .i64 x4,.int .i64 x5,.int .i64 x6,.int .i64 x7,.int .i64 x8,.int .i64 x9,.int .i64 x10,.int .i64 x11,.int .i64 x12,.int .i64 x13,.int .i64 x14,.int .i64 x15,.int .i64 x16,.int .i64 x17,.int .i64 x18,.int .i64 x19,.int .i64 x20,.int .i64 x21,.int .i64 x22] 61)):=by kernel_rfl
theorem bslice_ob (o:Ob)(w:World):(Instr.buildSlice 52 1 #[(0,.agg (obA o))]).run Tryz.prog w=.ok (.slice (some ⟨w.heap.size,0,none⟩) 1 1) (w.alloc (.cells (obA o) 61)) :=
 bslice_obj o.t.k o.t.alg o.t.mode o.t.room o.t.arg o.t.wt o.t.rt o.t.top o.la o.ln o.lm o.lb o.ll o.lr o.r.kind o.r.base o.r.loc o.r.n o.r.wr o.r.rd o.r.top o.ba o.lo w
theorem slice_ob {ops:Array Oper}{rest:List Oper}{op:Oper}{a:Act}{w:World}{Q:Exit->Act->World->Prop}(ob:Ob)(hgd:op.guard=none)(x:Operand)(ho:op.op=.buildSlice 52 1 #[(0,x)])(hx:a.eval x=.agg (obA ob))
  (hK:wpList Tryz.prog ops Q rest (a.put op.dst (.slice (some ⟨w.heap.size,0,none⟩) 1 1)) (w.alloc (.cells (obA ob) 61))):wpList Tryz.prog ops Q (op :: rest) a w:=by
 have hr:(execOp a.eval op).run Tryz.prog w=.ok (.value (.slice (some ⟨w.heap.size,0,none⟩) 1 1)) (w.alloc (.cells (obA ob) 61)):=by
  unfold execOp
  rw [ho]
  simp only [List.map_toArray,List.map_cons,List.map_nil,hx,Sem.run_bind,bslice_ob,Result.andThen_ok,Sem.run_pure]
 refine wpList_plain hgd fun _ hK'=>?_
 unfold Oper.wp
 rw [hr]
 exact hK' _ _ hK
theorem append_ob {ops:Array Oper}{rest:List Oper}{o:Oper}{a:Act}{Q:Exit->Act->World->Prop}{w0 w:World}(ob:Ob)
  (hgd:o.guard=none)(s x:Operand)(ho:o.op=.call { callee:=.builtin .append,args:=#[s,x],argTypes:=#[52,52] })
  (v:Value)(n:Nat)(xs:List Value)(bz:Nat)(hX:Ext w0 w)(hown:w.ownsRow w0.heap.size 61 23 v n xs)(hs:a.eval s=v)(hx:a.eval x=.slice (some ⟨bz,0,none⟩) 1 1)
  (hnews:Blk w bz (.cells (obA ob) 61))(hlen:n<1000000000)
  (h:∀ v' w',w'.ownsRow w0.heap.size 61 23 v' (n+1) (xs++obVals ob)->Ext w0 w'->wpList Tryz.prog ops Q rest (a.put o.dst v') w') :
  wpList Tryz.prog ops Q (o :: rest) a w:=by
 obtain⟨i0,hi,hz0,hz1,hz2⟩:=info_parts info_obj
 refine wpList_append_own_at _ hgd s x 52 ho w0.heap.size 61 i0 _ 23 184 Tryz.underlying52 hi hz0 hz1 hz2 rfl (by decide) v n xs hs hown ⟨bz,0,none⟩ 1 1 (obVals ob) hx rfl (fun j u hu=>?_) (fun u hu=>?_) (by unfold maxLen;omega) (by omega) hX.size fun v' w' h2 h3 _ _=>?_
 · rw [Addr.add_lit,Nat.zero_add,hnews.cells,<- hu]
   exact (Array.getElem?_toList ..).symm
 · have:(obVals ob).all (·.oneCell')=true:=by kernel_rfl
   exact List.all_eq_true.1 this u hu
 · refine h v' w' h2 (Below.grown hX h3 hX.size fun k hk=>?_)
   rcases hown.2 with⟨rfl,_⟩ | ⟨g,cap,cur,rfl,hgb,_⟩
   · simp [Value.ownBlock] at hk
   · simp [Value.ownBlock] at hk
     omega
inductive ObsOk (N:Nat):Int->Int->List Thg->List Ob->Int->Int->Prop
 | nil (c l:Int):ObsOk N c l [] [] c l
 | cons {c l:Int} {t:Thg} {ts:List Thg} {ob:Ob} {obs:List Ob} {cs ls c2 l2:Int} (h:ObOk N c l t ob cs ls) (g:ObsOk N (c+cs) (l+ls) ts obs c2 l2):ObsOk N c l (t :: ts) (ob :: obs) c2 l2
theorem ObsOk.snoc {N:Nat}{c l:Int}{ts:List Thg}{obs:List Ob}{c2 l2:Int}(g:ObsOk N c l ts obs c2 l2){t:Thg}{ob:Ob}{cs ls:Int}(h:ObOk N c2 l2 t ob cs ls):ObsOk N c l (ts++[t]) (obs++[ob]) (c2+cs) (l2+ls):=by
 induction g with
 | nil c l=>exact .cons h (.nil _ _)
 | cons h1 _ ih=>exact .cons h1 (ih h)
theorem ObsOk.len {N:Nat}{c l:Int}{ts:List Thg}{obs:List Ob}{c2 l2:Int}(g:ObsOk N c l ts obs c2 l2):obs.length=ts.length:=by
 induction g with
 | nil c l=>rfl
 | cons h1 _ ih=>simp [ih]
theorem ObOk.uniq {N:Nat}{c l:Int}{t:Thg}{o1 o2:Ob}{c1 l1 c2 l2:Int}(h:ObOk N c l t o1 c1 l1)(g:ObOk N c l t o2 c2 l2):o1=o2/\c1=c2/\l1=l2:=by
 cases h with
 | lock rs hk hL _ _ _ =>
   cases g with
   | lock rs' _ hL' _ _ _ =>
     have e12:lkC t.alg N rs'=lkC t.alg N rs/\lkL t.alg rs'=lkL t.alg rs:=by
      by_cases ha:2<t.alg
      · have e1:=hL'.hlay (by omega)
        rw [hL.hlay (by omega)] at e1
        obtain rfl:rs=rs':=by simpa using e1
        exact⟨rfl,rfl⟩
      · exact lkC_two ha hL.halg.1 N rs' rs
     rw [e12.1,e12.2]
     exact⟨rfl,rfl,rfl⟩
   | reg hk7 _ _=>omega
   | name _ hk8 _ _ _=>omega
 | reg hk _ _ =>
   cases g with
   | lock rs' hk2 _ _ _ _=>omega
   | reg hk7 _ _=>exact⟨rfl,rfl,rfl⟩
   | name _ hk8 _ _ _=>omega
 | name rs hk hr _ _ =>
   cases g with
   | lock rs' hk2 _ _ _ _=>omega
   | reg hk7 _ _=>omega
   | name rs' hk8 hr' _ _ =>
     rw [hr] at hr'
     obtain rfl:rs=rs':=by simpa using hr'
     exact⟨rfl,rfl,rfl⟩
theorem own_bd {k:Int}(h:1<=k/\k<=6):(0<=ownC k/\ownC k<=4)/\0<=ownL k/\ownL k<=1:=by
 have:k=1∨k=2∨k=3∨k=4∨k=5∨k=6:=by omega
 rcases this with rfl | rfl | rfl | rfl | rfl | rfl <;> decide
theorem ObOk.bd {N:Nat}{c l:Int}{t:Thg}{o:Ob}{cs ls:Int}(h:ObOk N c l t o cs ls):0<=cs/\c+cs<=32768/\0<=ls/\l+ls<=32768:=by
 cases h with
 | lock rs hk hL _ hc hl =>
   have h1:=lk_pos hL
   have h2:=own_bd hk
   omega
 | reg hk hf _ =>
   have h1:=hf.cells
   have h2:=hf.locals
   have h3:=cells7_bd hf.fine.n
   simp only at h1 h2
   omega
 | name rs hk hr hc hl =>
   have hok:∀ r∈rs,r.ok:=fun r hr'=>(laid_all hr r hr').1
   have hbd:=sum_bd hok rs.length (Nat.le_refl _)
   rw [List.take_length] at hbd
   omega
theorem ObsOk.pre {N:Nat}:∀ (ts:List Thg) (us:List Thg) {c l:Int} {obs os:List Ob} {c2 l2 c3 l3:Int},ObsOk N c l ts obs c2 l2->ObsOk N c l (ts++us) os c3 l3->∃ os',ObsOk N c2 l2 us os' c3 l3
 | [],us,c,l,obs,os,c2,l2,c3,l3,h,g=>by
   cases h
   exact⟨os,g⟩
 | t :: ts,us,c,l,obs,os,c2,l2,c3,l3,h,g=>by
   cases h with
   | cons h1 h2 =>
     cases g with
     | cons g1 g2 =>
       obtain⟨rfl,rfl,rfl⟩:=h1.uniq g1
       exact ObsOk.pre ts us h2 g2
theorem size40_of {N:Nat}{c l:Int}{t:Thg}{o:Ob}{cs ls:Int}(h:ObOk N c l t o cs ls)(hN:1<=N/\N<=8)(hc:0<=c/\c<=32768)(hl0:0<=l/\l<=32768)(w:World):Calls Tryz.prog 82 #[.agg (obA o)] w fun e w'=>e=.returned (.tuple #[.int .i64 cs,.int .i64 ls])/\Ext w w':=by
 obtain⟨k,alg,mode,room,arg,wt,rt,top⟩:=t
 cases h with
 | lock rs hk hL _ q1 q2 =>
   have h1:=lk_pos hL
   have hcl1:=hL.hcells
   have hcl2:=hL.hlocals
   exact size40_lock k alg mode room arg wt rt top alg N mode c l room 0 0 0 0 0 0 0 _ _ _ _ w hk ⟨h1.1,by show lkC alg N rs<=_;simp only at hcl1;omega⟩ ⟨h1.2,by show lkL alg rs<=_;simp only at hcl2;omega⟩ fun w=>lksize_r alg N mode c l room rs w hL.halg hL.hn.1 hL.hn.2 hL.hlay
 | reg hk hf _ =>
   simp only at hk
   subst hk
   have hkk:=hf.fine.kind
   exact size40_reg alg mode room arg wt rt top 0 0 0 0 0 0 arg c l N wt rt top c l _ _ w (fun w=>cells17_r _ w (by show 1<=arg/\arg<=7;simp only at hkk;omega) hf.fine.n) (fun w=>locals17_r _ w (by show 1<=arg/\arg<=7;simp only at hkk;omega) hf.fine.n)
 | name rs hk hr q1 q2 =>
   simp only at hk
   subst hk
   have hF:=fun w=>regs32_r N mode c l w hN.1 hN.2 (by omega)
   rw [hr] at hF
   exact size40_name alg mode room arg wt rt top 0 N mode c l 0 0 0 0 0 0 0 0 _ _ rs w (fun r h=>(laid_all hr r h).1) (by rw [layM_len hr,renW_len];have:=(triN_le hN.1 hN.2).2;omega) (by omega) hF
def Lay40Post (w:World) (ts:List Thg) (n:Int) (e:Ending) (w':World):Prop:=Ext w w'/\∃ (v:Value) (x:Int),e=.returned (.tuple #[v,.int .i64 x]) /\
 ((x=0/\∃ (N:Nat) (obs:List Ob) (c2 l2:Int),n=N/\(1<=N/\N<=8)/\ts.length<=8/\ObsOk N 0 0 ts obs c2 l2/\Recs w' v obs.length (obs.flatMap obVals)) ∨
  (v=.slice none 0 0/\x≠0/\((∀ t∈ts,t.k<=6)->ts.length<=8->¬ ∃ (N:Nat) (obs:List Ob) (c2 l2:Int),n=N/\(1<=N/\N<=8)/\ObsOk N 0 0 ts obs c2 l2)))
theorem ObsOk.bd {N:Nat}{c l:Int}{ts:List Thg}{obs:List Ob}{c2 l2:Int}(g:ObsOk N c l ts obs c2 l2)(hc:0<=c/\c<=32768)(hl:0<=l/\l<=32768):(0<=c2/\c2<=32768)/\0<=l2/\l2<=32768:=by
 induction g with
 | nil c l=>exact⟨hc,hl⟩
 | cons h1 _ ih =>
   have:=h1.bd
   exact ih (by omega) (by omega)
def ThgsIn (w:World) (A:Option Addr) (l:List Thg):Prop:=l≠[]->∃ b off,A=some ⟨b,off,none⟩/\b<w.heap.size/\∀ (i:Nat) (t:Thg),l[i]?=some t ->
 w.cell? ⟨b,off+i*8,none⟩=some (.int .i64 t.k)/\w.cell? ⟨b,off+i*8+1,none⟩=some (.int .i64 t.alg)/\w.cell? ⟨b,off+i*8+2,none⟩=some (.int .i64 t.mode)/\w.cell? ⟨b,off+i*8+3,none⟩=some (.int .i64 t.room) /\
  w.cell? ⟨b,off+i*8+4,none⟩=some (.int .i64 t.arg)/\w.cell? ⟨b,off+i*8+5,none⟩=some (.int .i64 t.wt)/\w.cell? ⟨b,off+i*8+6,none⟩=some (.int .i64 t.rt)/\w.cell? ⟨b,off+i*8+7,none⟩=some (.int .i64 t.top)
theorem ThgsIn.ext {w w':World}{A:Option Addr}{l:List Thg}(h:ThgsIn w A l)(hx:Ext w w'):ThgsIn w' A l:=fun hl=>by
 obtain⟨b,off,e,hb,hc⟩:=h hl
 refine⟨b,off,e,Nat.lt_of_lt_of_le hb hx.size,fun i q hi=>?_⟩
 have hcell:∀ i u,w.cell? ⟨b,i,none⟩=some u->w'.cell? ⟨b,i,none⟩=some u:=fun i u hk=>by
  rw [<- hk]
  unfold World.cell?
  simp only
  rw [Below.block hx b hb]
 obtain⟨h0,h1,h2,h3,h4,h5,h6,h7⟩:=hc i q hi
 exact⟨hcell _ _ h0,hcell _ _ h1,hcell _ _ h2,hcell _ _ h3,hcell _ _ h4,hcell _ _ h5,hcell _ _ h6,hcell _ _ h7⟩
set_option maxRecDepth 100000 in
set_option maxHeartbeats 2000000 in
theorem lay40_r (A:Option Addr)(cc:Nat)(ts:List Thg)(n:Int)(w:World)(hv:ThgsIn w A ts):Calls Tryz.prog 25 #[.slice A ts.length cc,.int .i64 n] w (Lay40Post w ts n):=by
 by_cases hn:1<=n/\n<=8
 rotate_left
 · have hf:Lay40Post w ts n (.returned (.tuple #[.slice none 0 0,.int .i64 1])) w:=⟨Ext.refl _,_,_,rfl,.inr ⟨rfl,by decide,fun _ _ ⟨N,_,_,_,e,hN,_⟩=>by omega⟩⟩
   clear hv
   by_cases h1:n<1
   · have d1:decide (n<1)=true:=by rw [decide_eq_true_eq];exact h1
     clear hn h1
     go_enter Tryz.func25,Tryz.ntmps25
     go_wp2_with fail
     exact bodyPost_ret (v:=.tuple #[.slice none 0 0,.int .i64 1]) (by simp [results,Tryz.results25,go_sem]) rfl hf
   · have d1:decide (n<1)=false:=by rw [decide_eq_false_iff_not];exact h1
     have d2:decide (8<n)=true:=by rw [decide_eq_true_eq];omega
     clear hn h1
     go_enter Tryz.func25,Tryz.ntmps25
     go_wp2_with fail
     exact bodyPost_ret (v:=.tuple #[.slice none 0 0,.int .i64 1]) (by simp [results,Tryz.results25,go_sem]) rfl hf
 obtain⟨N,rfl⟩:∃ N:Nat,n=N:=⟨n.toNat,by omega⟩
 have d1:decide ((N:Int)<1)=false:=by rw [decide_eq_false_iff_not];omega
 have d2:decide (8<(N:Int))=false:=by rw [decide_eq_false_iff_not];omega
 by_cases h8:8<ts.length
 · have hf:Lay40Post w ts N (.returned (.tuple #[.slice none 0 0,.int .i64 5])) w:=⟨Ext.refl _,_,_,rfl,.inr ⟨rfl,by decide,fun _ h=>by omega⟩⟩
   have d3:decide (8<(ts.length:Int))=true:=by rw [decide_eq_true_eq];omega
   clear hv hn h8
   go_enter Tryz.func25,Tryz.ntmps25
   go_wp2_with fail
   exact bodyPost_ret (v:=.tuple #[.slice none 0 0,.int .i64 5]) (by simp [results,Tryz.results25,go_sem]) rfl hf
 have d3:decide (8<(ts.length:Int))=false:=by rw [decide_eq_false_iff_not];omega
 by_cases h0:ts=[]
 · subst h0
   have hf:Lay40Post w [] N (.returned (.tuple #[.slice none 0 0,.int .i64 0])) w:=⟨Ext.refl _,_,_,rfl,.inl ⟨rfl,N,[],0,0,rfl,by omega,by decide,.nil _ _,none,0,rfl,Nat.le_refl _,by omega,fun h=>absurd rfl h⟩⟩
   clear hv hn h8 d3
   go_enter Tryz.func25,Tryz.ntmps25
   go_wp2_with fail
   go_loopw [6,9] (fun v i wr=>v=.slice none 0 0/\i=.int .i64 0/\wr=w) (fun _ _ _=>0)
   case atStart=>exact⟨rfl,rfl,rfl⟩
   case round =>
    obtain⟨rfl,rfl,rfl⟩:=hrel
    go_wp2_with fail
    exact bodyPost_ret (v:=.tuple #[.slice none 0 0,.int .i64 0]) (by simp [results,Tryz.results25,go_sem]) rfl hf
 obtain⟨b,off,rfl,hb,hcells⟩:=hv h0
 have hC:=Lib.hid hcells
 clear hv hcells h0
 go_enter Tryz.func25,Tryz.ntmps25
 go_wp2_with fail
 go_loopw [6,7,8,9] (fun v c l i wr=>∃ (j:Nat) (obs:List Ob) (cj lj:Int),i=.int .i64 j/\c=.int .i64 cj/\l=.int .i64 lj/\j<=ts.length/\Ext w wr/\ObsOk N 0 0 (ts.take j) obs cj lj/\wr.ownsRow w.heap.size 61 23 v j (obs.flatMap obVals)) (fun _ _ _ i _=>ts.length-(intOf i).toNat)
 case atStart=>exact⟨0,[],0,0,rfl,rfl,rfl,by omega,Ext.refl _,.nil _ _,World.ownsRow_nil _ _ _ _⟩
 case round =>
  obtain⟨j,obs,cj,lj,rfl,rfl,rfl,hj,hX,hobs,hrow⟩:=hrel
  by_cases hlt:j<ts.length
  · have hat:ts[j]?=some ts[j]:=List.getElem?_eq_getElem hlt
    have hst:ts.take (j+1)=ts.take j++[ts[j]]:=by rw [List.take_add_one,hat];rfl
    have hdr:ts=ts.take j++ts[j] :: ts.drop (j+1):=by rw [<- List.drop_eq_getElem_cons hlt,List.take_append_drop]
    generalize ts[j]=t at hat hst hdr
    obtain⟨k0,k1,k2,k3,k4,k5,k6,k7⟩:=hC.out j t hat
    have hcell:∀ i u,w.cell? ⟨b,i,none⟩=some u->wr.cell? ⟨b,i,none⟩=some u:=fun i u hk=>by
     rw [<- hk]
     unfold World.cell?
     simp only
     rw [Below.block hX b hb]
    replace k0:=hcell _ _ k0
    replace k1:=hcell _ _ k1
    replace k2:=hcell _ _ k2
    replace k3:=hcell _ _ k3
    replace k4:=hcell _ _ k4
    replace k5:=hcell _ _ k5
    replace k6:=hcell _ _ k6
    replace k7:=hcell _ _ k7
    obtain⟨bc,bl⟩:=hobs.bd (by decide) (by decide)
    have h1:=fun w=>one40_r t N cj lj w (by omega) bc bl
    unfold thgA at h1
    have di:decide ((j:Int)<(ts.length:Int))=true:=by rw [decide_eq_true_eq];omega
    have di2:(j:Int)<(ts.length:Int):=by omega
    have di0:(0:Int)<=(j:Int):=by omega
    have hH:=Lib.hid (And.intro hst (And.intro hdr (And.intro hX (And.intro hobs (And.intro hrow (And.intro bc (And.intro bl hat)))))))
    clear hst hdr hX hobs hrow hcell hat bc bl
    go_wp2_with fail
    refine (h1 _).mono ?_
    rintro e w2 ⟨hx,o,bo,rfl,hon,ho1,hcase⟩
    clear k0 k1 k2 k3 k4 k5 k6 k7 h1
    obtain⟨hst,hdr,hX,hobs,hrow,bc,bl,hat⟩:=hH.out
    clear hH
    replace hX:=hX.trans hx
    replace hrow:=row_ext hrow hx
    clear hx
    rcases hcase with⟨rfl,hno⟩ | ⟨rfl,ob,cs,ls,rfl,hok⟩
    · have hf:=Lib.hid (show Lay40Post w ts N (.returned (.tuple #[.slice none 0 0,.int .i64 6])) (w2.alloc (.cells o 61)) from ⟨hX.alloc _,_,_,rfl,.inr ⟨rfl,by decide,fun hk _ ⟨N',os,c2,l2,e,_,hq⟩=>by
       obtain rfl:N=N':=by omega
       rw [hdr] at hq
       obtain⟨os',hq2⟩:=ObsOk.pre _ _ hobs hq
       cases hq2 with
       | cons g1 _=>exact hno (hk t (List.mem_of_getElem? hat)) ⟨_,_,_,g1⟩⟩⟩)
      clear hst hdr hX hobs hrow hno hat bc bl
      go_wp2_with (refine new_obj rfl rfl rfl _ _ rfl o rfl rfl hon ho1 ?_)
      exact bodyPost_ret (v:=.tuple #[.slice none 0 0,.int .i64 6]) (by simp [results,Tryz.results25,go_sem]) rfl hf.out
    · have hZ:=fun w=>size40_of hok (by omega) bc bl w
      have hbd:=hok.bd
      have hobs2:=hobs.snoc hok
      have hol:=hobs.len
      rw [<- hst] at hobs2
      have bo:=Blk.new w2 (.cells (obA ob) 61)
      have hX2:=hX.alloc (.cells (obA ob) 61)
      have hrow2:=row_ext hrow ((Ext.refl w2).alloc (.cells (obA ob) 61))
      have ws1:=IntWalk.i64_in (cj+cs) (by omega)
      have ws2:=IntWalk.i64_in (lj+ls) (by omega)
      have hH:=Lib.hid (And.intro hobs2 hol)
      clear hst hdr hX hobs hrow hat hok hobs2 hol bc bl hbd
      go_upto_region 14 with (refine new_obj rfl rfl rfl _ _ rfl (obA ob) rfl rfl hon ho1 ?_)
      generalize hzz:w2.heap.size=z at *
      generalize World.alloc w2 _=W at *
      go_wp2_with (refine load_objS rfl _ rfl z rfl bo rfl ?_)
      refine (hZ _).mono ?_
      rintro e w3 ⟨rfl,hx⟩
      replace bo:=bo.ext hx
      replace hX2:=hX2.trans hx
      replace hrow2:=row_ext hrow2 hx
      clear hx hZ
      have hX4:=hX2.alloc (.cells (obA ob) 61)
      have hrow4:=Lib.hid (row_ext hrow2 ((Ext.refl w3).alloc (.cells (obA ob) 61)))
      have b4:=Blk.new w3 (.cells (obA ob) 61)
      have hl9:j<1000000000:=by omega
      clear hX2 hrow2
      go_wp2_with (first | (refine load_objS rfl _ rfl z rfl bo rfl ?_) | (refine slice_ob ob rfl _ rfl rfl ?_) | (at_builtin;refine append_ob (w0:=w) ob rfl _ _ rfl _ j _ w3.heap.size hX4 hrow4.out rfl rfl b4 hl9 ?_;intro v' w' hown hx2;replace hown:=Lib.hid hown))
      refine⟨⟨j+1,obs++[ob],cj+cs,lj+ls,by first | rfl | go_num,rfl,rfl,by omega,hx2,hH.out.1,?_⟩,?_⟩
      · rw [List.flatMap_append]
        simpa using hown.out
      · simp [intOf];omega
  · obtain rfl:j=ts.length:=by omega
    rw [List.take_length] at hobs
    have hf:=Lib.hid (show ∀ v,wr.ownsRow w.heap.size 61 23 v ts.length (obs.flatMap obVals)->Lay40Post w ts N (.returned (.tuple #[v,.int .i64 0])) wr from fun v hr=>⟨hX,_,_,rfl,.inl ⟨rfl,N,obs,cj,lj,rfl,by omega,by omega,hobs,hobs.len▸Recs.of_row hr⟩⟩)
    have hrh:=Lib.hid hrow
    have di:decide ((ts.length:Int)<(ts.length:Int))=false:=by rw [decide_eq_false_iff_not];omega
    clear hX hobs hrow
    go_wp2_with fail
    exact bodyPost_ret (v:=.tuple #[u6,.int .i64 0]) (by simp [results,Tryz.results25,go_sem]) rfl (hf.out _ hrh.out)
end Go.Proofs.YtponihangpiooaaGreat
namespace Kv
theorem lk_bd {N:Nat}(hn:1<=N/\N<=8)(alg mode:Int):(0<=lkIn alg mode N/\lkIn alg mode N<=1000000000)/\(0<=lkOut alg mode N/\lkOut alg mode N<=1000000000):=by
 obtain⟨k1,k2,k3,k4⟩:=costs_bd8 hn.2 mode
 have l1:levels (N:Int)<=64:=levels_le _
 have l2:levels ((N:Int)*((N:Int)+1) / 2)<=64:=levels_le _
 unfold lkIn lkOut
 generalize cOwnW mode N=x1 at *
 generalize cOwnR mode N=x2 at *
 generalize cAllW mode N=x3 at *
 generalize cAllR mode N=x4 at *
 generalize levels (N:Int)=v1 at *
 generalize levels ((N:Int)*((N:Int)+1) / 2)=v2 at *
 have p3:=mulb (a:=3*((N:Int)-1)) (b:=x2) (A:=21) (B:=20000) (by omega) k2
 have p4a:=mulb (a:=(N:Int)-1) (b:=x2) (A:=7) (B:=20000) (by omega) k2
 have p4:=mulb (a:=(N:Int)-1) (b:=x1+x3+((N:Int)-1)*x2) (A:=7) (B:=180000) (by omega) (by omega)
 have p6:=mulb (a:=(v1:Int)) (b:=2*x3+x4) (A:=64) (B:=60000) (by omega) (by omega)
 have p6o:=mulb (a:=(v1:Int)) (b:=x3) (A:=64) (B:=20000) (by omega) k3
 have p7:=mulb (a:=(v1:Int)) (b:=2*x3+2*x4) (A:=64) (B:=80000) (by omega) (by omega)
 have p8:=mulb (a:=(N:Int)) (b:=2*x3+2*x4) (A:=8) (B:=80000) (by omega) (by omega)
 have p8b:=mulb (a:=(v2:Int)) (b:=2*x3+x4) (A:=64) (B:=60000) (by omega) (by omega)
 have p8o:=mulb (a:=(v2:Int)) (b:=x3) (A:=64) (B:=20000) (by omega) k3
 refine⟨?_,?_⟩ <;> (repeat' split) <;> omega
end Kv
namespace Go.Proofs.YtponihangpiooaaGreat
open Go.RowKit Kv
set_option maxRecDepth 100000 in
set_option maxHeartbeats 2000000 in
theorem alone_both {N:Nat}{c l:Int}{t:Thg}{o:Ob}{cs ls:Int}(h:ObOk N c l t o cs ls)(hN:1<=N/\N<=8)(op:Int):∃ x:Int,(∀ w,Calls Tryz.prog 26 #[.agg (obA o),.int .i64 op] w fun e w'=>e=.returned (.int .i64 x)/\Ext w w')/\∀ w,Calls Tryz.prog 27 #[.agg (obA o),.int .i64 op] w fun e w'=>e=.returned (.int .i64 x)/\Ext w w':=by
 have ho:o.t=t:=by cases h <;> rfl
 obtain⟨ot,la,ln,lm,lb,ll,lr,r,ba,lo⟩:=o
 simp only at ho
 subst ho
 by_cases hq:kindO op=0∨kindO op≠ot.k∨op=8
 · exact⟨-1,fun w=>aloneno_p ot.k _ _ _ _ _ _ _ _ _ _ _ _ _ _ _ _ _ _ _ _ _ _ op hq w,fun w=>aloneno_r ot.k _ _ _ _ _ _ _ _ _ _ _ _ _ _ _ _ _ _ _ _ _ _ op hq w⟩
 obtain⟨k,alg,mode,room,arg,wt,rt,top⟩:=ot
 simp only at hq
 rcases op_cases op with hop | hop
 rotate_left
 · exact absurd (.inl (kindO_out hop)) hq
 have hb:=lk_bd hN alg mode
 rcases hop with rfl | rfl | rfl | rfl | rfl | rfl | rfl | rfl | rfl | rfl | rfl | rfl | rfl | rfl | rfl | rfl | rfl
 · obtain rfl:k=1:=by
    have:kindO 1=1:=rfl
    omega
   cases h with
   | lock rs hk hL _ _ _=>exact⟨_,fun w=>balone1_p _ _ _ _ _ _ _ _ _ _ _ _ _ _ _ _ _ _ _ _ _ _ (lkIn alg mode N) (lkOut alg mode N) hb.1 hb.2 (fun w=>lalone_p alg N mode c l room rs w hL) w,fun w=>ralone1_r _ _ _ _ _ _ _ _ _ _ _ _ _ _ _ _ _ _ _ _ _ _ (lkIn alg mode N) (lkOut alg mode N) hb.1 hb.2 (fun w=>alone34_r alg N mode c l room w hN (by have:=hL.hmode;simp only at this;omega) hL.halg) w⟩
   | reg hk7 _ _=>exact absurd hk7 (by show ¬ (1:Int)=7;decide)
   | name _ hk8 _ _ _=>exact absurd hk8 (by show ¬ (1:Int)=8;decide)
 · obtain rfl:k=1:=by
    have:kindO 2=1:=rfl
    omega
   cases h with
   | lock rs hk hL _ _ _=>exact⟨_,fun w=>balone2_p _ _ _ _ _ _ _ _ _ _ _ _ _ _ _ _ _ _ _ _ _ _ (lkIn alg mode N) (lkOut alg mode N) hb.1 hb.2 (fun w=>lalone_p alg N mode c l room rs w hL) w,fun w=>ralone2_r _ _ _ _ _ _ _ _ _ _ _ _ _ _ _ _ _ _ _ _ _ _ (lkIn alg mode N) (lkOut alg mode N) hb.1 hb.2 (fun w=>alone34_r alg N mode c l room w hN (by have:=hL.hmode;simp only at this;omega) hL.halg) w⟩
   | reg hk7 _ _=>exact absurd hk7 (by show ¬ (1:Int)=7;decide)
   | name _ hk8 _ _ _=>exact absurd hk8 (by show ¬ (1:Int)=8;decide)
 · obtain rfl:k=2:=by
    have:kindO 3=2:=rfl
    omega
   cases h with
   | lock rs hk hL _ _ _=>exact⟨_,fun w=>balone3_p _ _ _ _ _ _ _ _ _ _ _ _ _ _ _ _ _ _ _ _ _ _ (lkIn alg mode N) (lkOut alg mode N) hb.1 hb.2 (fun w=>lalone_p alg N mode c l room rs w hL) w,fun w=>ralone3_r _ _ _ _ _ _ _ _ _ _ _ _ _ _ _ _ _ _ _ _ _ _ (lkIn alg mode N) (lkOut alg mode N) hb.1 hb.2 (fun w=>alone34_r alg N mode c l room w hN (by have:=hL.hmode;simp only at this;omega) hL.halg) w⟩
   | reg hk7 _ _=>exact absurd hk7 (by show ¬ (2:Int)=7;decide)
   | name _ hk8 _ _ _=>exact absurd hk8 (by show ¬ (2:Int)=8;decide)
 · obtain rfl:k=2:=by
    have:kindO 4=2:=rfl
    omega
   cases h with
   | lock rs hk hL _ _ _=>exact⟨_,fun w=>balone4_p _ _ _ _ _ _ _ _ _ _ _ _ _ _ _ _ _ _ _ _ _ _ (lkIn alg mode N) (lkOut alg mode N) hb.1 hb.2 (fun w=>lalone_p alg N mode c l room rs w hL) w,fun w=>ralone4_r _ _ _ _ _ _ _ _ _ _ _ _ _ _ _ _ _ _ _ _ _ _ (lkIn alg mode N) (lkOut alg mode N) hb.1 hb.2 (fun w=>alone34_r alg N mode c l room w hN (by have:=hL.hmode;simp only at this;omega) hL.halg) w⟩
   | reg hk7 _ _=>exact absurd hk7 (by show ¬ (2:Int)=7;decide)
   | name _ hk8 _ _ _=>exact absurd hk8 (by show ¬ (2:Int)=8;decide)
 · obtain rfl:k=2:=by
    have:kindO 5=2:=rfl
    omega
   cases h with
   | lock rs hk hL _ _ _=>exact⟨_,fun w=>balone5_p _ _ _ _ _ _ _ _ _ _ _ _ _ _ _ _ _ _ _ _ _ _ (lkIn alg mode N) (lkOut alg mode N) hb.1 hb.2 (fun w=>lalone_p alg N mode c l room rs w hL) w,fun w=>ralone5_r _ _ _ _ _ _ _ _ _ _ _ _ _ _ _ _ _ _ _ _ _ _ (lkIn alg mode N) (lkOut alg mode N) hb.1 hb.2 (fun w=>alone34_r alg N mode c l room w hN (by have:=hL.hmode;simp only at this;omega) hL.halg) w⟩
   | reg hk7 _ _=>exact absurd hk7 (by show ¬ (2:Int)=7;decide)
   | name _ hk8 _ _ _=>exact absurd hk8 (by show ¬ (2:Int)=8;decide)
 · obtain rfl:k=3:=by
    have:kindO 6=3:=rfl
    omega
   cases h with
   | lock rs hk hL _ _ _=>exact⟨_,fun w=>balone6_p _ _ _ _ _ _ _ _ _ _ _ _ _ _ _ _ _ _ _ _ _ _ (lkIn alg mode N) (lkOut alg mode N) hb.1 hb.2 (fun w=>lalone_p alg N mode c l room rs w hL) w,fun w=>ralone6_r _ _ _ _ _ _ _ _ _ _ _ _ _ _ _ _ _ _ _ _ _ _ (lkIn alg mode N) (lkOut alg mode N) hb.1 hb.2 (fun w=>alone34_r alg N mode c l room w hN (by have:=hL.hmode;simp only at this;omega) hL.halg) w⟩
   | reg hk7 _ _=>exact absurd hk7 (by show ¬ (3:Int)=7;decide)
   | name _ hk8 _ _ _=>exact absurd hk8 (by show ¬ (3:Int)=8;decide)
 · obtain rfl:k=3:=by
    have:kindO 7=3:=rfl
    omega
   cases h with
   | lock rs hk hL _ _ _=>exact⟨_,fun w=>balone7_p _ _ _ _ _ _ _ _ _ _ _ _ _ _ _ _ _ _ _ _ _ _ (lkIn alg mode N) (lkOut alg mode N) hb.1 hb.2 (fun w=>lalone_p alg N mode c l room rs w hL) w,fun w=>ralone7_r _ _ _ _ _ _ _ _ _ _ _ _ _ _ _ _ _ _ _ _ _ _ (lkIn alg mode N) (lkOut alg mode N) hb.1 hb.2 (fun w=>alone34_r alg N mode c l room w hN (by have:=hL.hmode;simp only at this;omega) hL.halg) w⟩
   | reg hk7 _ _=>exact absurd hk7 (by show ¬ (3:Int)=7;decide)
   | name _ hk8 _ _ _=>exact absurd hk8 (by show ¬ (3:Int)=8;decide)
 · exact absurd (.inr (.inr rfl)) hq
 · obtain rfl:k=5:=by
    have:kindO 9=5:=rfl
    omega
   cases h with
   | lock rs hk hL _ _ _=>exact⟨_,fun w=>balone9_p _ _ _ _ _ _ _ _ _ _ _ _ _ _ _ _ _ _ _ _ _ _ (lkIn alg mode N) (lkOut alg mode N) hb.1 hb.2 (fun w=>lalone_p alg N mode c l room rs w hL) w,fun w=>ralone9_r _ _ _ _ _ _ _ _ _ _ _ _ _ _ _ _ _ _ _ _ _ _ (lkIn alg mode N) (lkOut alg mode N) hb.1 hb.2 (fun w=>alone34_r alg N mode c l room w hN (by have:=hL.hmode;simp only at this;omega) hL.halg) w⟩
   | reg hk7 _ _=>exact absurd hk7 (by show ¬ (5:Int)=7;decide)
   | name _ hk8 _ _ _=>exact absurd hk8 (by show ¬ (5:Int)=8;decide)
 · obtain rfl:k=5:=by
    have:kindO 10=5:=rfl
    omega
   cases h with
   | lock rs hk hL _ _ _=>exact⟨_,fun w=>balone10_p _ _ _ _ _ _ _ _ _ _ _ _ _ _ _ _ _ _ _ _ _ _ (lkIn alg mode N) (lkOut alg mode N) hb.1 hb.2 (fun w=>lalone_p alg N mode c l room rs w hL) w,fun w=>ralone10_r _ _ _ _ _ _ _ _ _ _ _ _ _ _ _ _ _ _ _ _ _ _ (lkIn alg mode N) (lkOut alg mode N) hb.1 hb.2 (fun w=>alone34_r alg N mode c l room w hN (by have:=hL.hmode;simp only at this;omega) hL.halg) w⟩
   | reg hk7 _ _=>exact absurd hk7 (by show ¬ (5:Int)=7;decide)
   | name _ hk8 _ _ _=>exact absurd hk8 (by show ¬ (5:Int)=8;decide)
 · obtain rfl:k=5:=by
    have:kindO 11=5:=rfl
    omega
   cases h with
   | lock rs hk hL _ _ _=>exact⟨_,fun w=>balone11_p _ _ _ _ _ _ _ _ _ _ _ _ _ _ _ _ _ _ _ _ _ _ (lkIn alg mode N) (lkOut alg mode N) hb.1 hb.2 (fun w=>lalone_p alg N mode c l room rs w hL) w,fun w=>ralone11_r _ _ _ _ _ _ _ _ _ _ _ _ _ _ _ _ _ _ _ _ _ _ (lkIn alg mode N) (lkOut alg mode N) hb.1 hb.2 (fun w=>alone34_r alg N mode c l room w hN (by have:=hL.hmode;simp only at this;omega) hL.halg) w⟩
   | reg hk7 _ _=>exact absurd hk7 (by show ¬ (5:Int)=7;decide)
   | name _ hk8 _ _ _=>exact absurd hk8 (by show ¬ (5:Int)=8;decide)
 · obtain rfl:k=5:=by
    have:kindO 12=5:=rfl
    omega
   cases h with
   | lock rs hk hL _ _ _=>exact⟨_,fun w=>balone12_p _ _ _ _ _ _ _ _ _ _ _ _ _ _ _ _ _ _ _ _ _ _ (lkIn alg mode N) (lkOut alg mode N) hb.1 hb.2 (fun w=>lalone_p alg N mode c l room rs w hL) w,fun w=>ralone12_r _ _ _ _ _ _ _ _ _ _ _ _ _ _ _ _ _ _ _ _ _ _ (lkIn alg mode N) (lkOut alg mode N) hb.1 hb.2 (fun w=>alone34_r alg N mode c l room w hN (by have:=hL.hmode;simp only at this;omega) hL.halg) w⟩
   | reg hk7 _ _=>exact absurd hk7 (by show ¬ (5:Int)=7;decide)
   | name _ hk8 _ _ _=>exact absurd hk8 (by show ¬ (5:Int)=8;decide)
 · obtain rfl:k=6:=by
    have:kindO 13=6:=rfl
    omega
   cases h with
   | lock rs hk hL _ _ _=>exact⟨_,fun w=>balone13_p _ _ _ _ _ _ _ _ _ _ _ _ _ _ _ _ _ _ _ _ _ _ (lkIn alg mode N) (lkOut alg mode N) hb.1 hb.2 (fun w=>lalone_p alg N mode c l room rs w hL) w,fun w=>ralone13_r _ _ _ _ _ _ _ _ _ _ _ _ _ _ _ _ _ _ _ _ _ _ (lkIn alg mode N) (lkOut alg mode N) hb.1 hb.2 (fun w=>alone34_r alg N mode c l room w hN (by have:=hL.hmode;simp only at this;omega) hL.halg) w⟩
   | reg hk7 _ _=>exact absurd hk7 (by show ¬ (6:Int)=7;decide)
   | name _ hk8 _ _ _=>exact absurd hk8 (by show ¬ (6:Int)=8;decide)
 · obtain rfl:k=6:=by
    have:kindO 14=6:=rfl
    omega
   cases h with
   | lock rs hk hL _ _ _=>exact⟨_,fun w=>balone14_p _ _ _ _ _ _ _ _ _ _ _ _ _ _ _ _ _ _ _ _ _ _ (lkIn alg mode N) (lkOut alg mode N) hb.1 hb.2 (fun w=>lalone_p alg N mode c l room rs w hL) w,fun w=>ralone14_r _ _ _ _ _ _ _ _ _ _ _ _ _ _ _ _ _ _ _ _ _ _ (lkIn alg mode N) (lkOut alg mode N) hb.1 hb.2 (fun w=>alone34_r alg N mode c l room w hN (by have:=hL.hmode;simp only at this;omega) hL.halg) w⟩
   | reg hk7 _ _=>exact absurd hk7 (by show ¬ (6:Int)=7;decide)
   | name _ hk8 _ _ _=>exact absurd hk8 (by show ¬ (6:Int)=8;decide)
 · obtain rfl:k=7:=by
    have:kindO 15=7:=rfl
    omega
   cases h with
   | lock rs hk _ _ _ _=>exact absurd hk (by show ¬ ((1:Int)<=7/\(7:Int)<=6);decide)
   | reg hk7 hf _=>exact⟨_,fun w=>balone15_p _ _ _ _ _ _ _ _ _ _ _ _ _ _ _ _ _ _ _ _ _ _ _ _ (fun w=>costs_p _ w hf.fine) w,fun w=>ralone15_r _ _ _ _ _ _ _ _ _ _ _ _ _ _ _ _ _ _ _ _ _ _ _ _ (fun w=>costs17_r ⟨arg,c,l,N,wt,rt,top⟩ w hf.fine.kind hf.fine.n (fun e=>by
      have h9:=hf.top
      simp only at e h9
      subst e
      have:most7 3=255:=rfl
      show 0<=top/\top<=255
      omega)) w⟩
   | name _ hk8 _ _ _=>exact absurd hk8 (by show ¬ (7:Int)=8;decide)
 · obtain rfl:k=7:=by
    have:kindO 16=7:=rfl
    omega
   cases h with
   | lock rs hk _ _ _ _=>exact absurd hk (by show ¬ ((1:Int)<=7/\(7:Int)<=6);decide)
   | reg hk7 hf _=>exact⟨_,fun w=>balone16_p _ _ _ _ _ _ _ _ _ _ _ _ _ _ _ _ _ _ _ _ _ _ _ _ (fun w=>costs_p _ w hf.fine) w,fun w=>ralone16_r _ _ _ _ _ _ _ _ _ _ _ _ _ _ _ _ _ _ _ _ _ _ _ _ (fun w=>costs17_r ⟨arg,c,l,N,wt,rt,top⟩ w hf.fine.kind hf.fine.n (fun e=>by
      have h9:=hf.top
      simp only at e h9
      subst e
      have:most7 3=255:=rfl
      show 0<=top/\top<=255
      omega)) w⟩
   | name _ hk8 _ _ _=>exact absurd hk8 (by show ¬ (7:Int)=8;decide)
 · obtain rfl:k=8:=by
    have:kindO 17=8:=rfl
    omega
   cases h with
   | lock rs hk _ _ _ _=>exact absurd hk (by show ¬ ((1:Int)<=8/\(8:Int)<=6);decide)
   | reg hk7 _ _=>exact absurd hk7 (by show ¬ (8:Int)=7;decide)
   | name rs hk8 hr _ _ =>
     have hm:mode=1∨mode=2:=by
      obtain⟨⟨m1,m2,_⟩,_⟩:=layM_args hr
      simp only at m1 m2
      omega
     obtain⟨-,-,k3,k4⟩:=costs_bd8 hN.2 mode
     exact⟨_,fun w=>balone17_p _ _ _ _ _ _ _ _ _ _ _ _ _ _ _ _ _ _ _ _ _ _ (cAllW mode N) (cAllR mode N) (by omega) (by omega) (by omega) (fun w=>bshared_p 0 N mode c l 0 w hN hm) w,fun w=>ralone17_r _ _ _ _ _ _ _ _ _ _ _ _ _ _ _ _ _ _ _ _ _ _ (cOwnW mode N) (cOwnR mode N) (cAllW mode N) (cAllR mode N) (by omega) (by omega) (by omega) (fun w=>costs34_r 0 N mode c l 0 w hN hm) w⟩
theorem obj_runR {op:Oper}{a:Act}{w:World}{x:Operand}(ho:op.op=.load 61 x)(b o:Nat)(hx:a.eval x=.pointer (some ⟨b,o,none⟩))(ob:Ob)(h:w.rangeAt b o (obVals ob)):(execOp a.eval op).run Tryz.prog w=.ok (.value (.agg (obA ob))) w:=by
 have hv:=run_loadVar_mid (P:=Tryz.prog) w b o 61 (obVals ob) _ h Tryz.underlying61 rfl (by show _=some 23;kernel_rfl)
 unfold execOp
 simp only [ho,hx,Instr.loadAt,Instr.sureAddr,Sem.run_bind,Sem.run_pure,Result.andThen_ok,hv]
 rfl
theorem load_rangeS {ops:Array Oper}{rest:List Oper}{op:Oper}{a:Act}{w:World}{Q:Exit->Act->World->Prop}(hgd:Region.wanted op (yielded ops a.tmps)=true)(x:Operand)(ho:op.op=.load 61 x)(b o:Nat)(hx:a.eval x=.pointer (some ⟨b,o,none⟩))(ob:Ob)(h:w.rangeAt b o (obVals ob))
  (hK:wpList Tryz.prog ops Q rest (a.put op.dst (.agg (obA ob))) w):wpList Tryz.prog ops Q (op :: rest) a w:=by
 refine wpList_wanted hgd fun _ hK'=>?_
 unfold Oper.wp
 rw [obj_runR ho b o hx ob h]
 exact hK' _ _ hK
theorem objs_at {w:World}{v:Value}{obs:List Ob}(h:Recs w v obs.length (obs.flatMap obVals)):∃ A c,v=.slice A obs.length c/\(obs≠[]->∃ b,A=some ⟨b,0,none⟩/\b<w.heap.size/\∀ i ob,obs[i]?=some ob->w.rangeAt b (i*23) (obVals ob)):=by
 obtain⟨A,c,rfl,_,_,hv⟩:=h
 refine⟨A,c,rfl,fun h0=>?_⟩
 obtain⟨b,rfl,hb,hc⟩:=hv (fun e=>by
  obtain⟨o,l,rfl⟩:=List.exists_cons_of_ne_nil h0
  simp [obVals,obA] at e)
 refine⟨b,rfl,hb,fun i ob hi j u hj=>?_⟩
 have hlt:j<23:=by
  have:=(List.getElem?_eq_some_iff.1 hj).1
  have e:(obVals ob).length=23:=rfl
  omega
 have f:=flat_at obVals 23 (fun _=>rfl) obs i j ob hi hlt
 rw [Nat.mul_comm i 23]
 exact hc _ _ (f.trans hj)
theorem rangeAt_ext {w w':World}{b o:Nat}{vs:List Value}(h:w.rangeAt b o vs)(hx:Ext w w')(hb:b<w.heap.size):w'.rangeAt b o vs:=fun j u hj=>by
 rw [<- h j u hj]
 unfold World.cell?
 simp only
 rw [Below.block hx b hb]
theorem fast_laid:∃ rs,LkOk 5 2 1 0 0 1 rs/\lkC 5 2 rs=4/\lkL 5 rs=0:=by
 have h:(layM (lkWants 5 2) 2 1 0 0).map (fun rs=>(sumC rs,sumL rs))=some (4,0):=by decide +kernel
 cases hl:layM (lkWants 5 2) 2 1 0 0 with
 | none=>rw [hl] at h;cases h
 | some rs =>
   rw [hl] at h
   simp only [Option.map_some,Option.some.injEq,Prod.mk.injEq] at h
   have hC:lkC 5 2 rs=4:=h.1
   have hL:lkL 5 rs=0:=h.2
   exact⟨rs,⟨by decide,by decide,by decide,by decide,by decide,by decide,fun _=>hl,by rw [hC];decide,by rw [hL];decide⟩,hC,hL⟩
set_option maxRecDepth 100000 in
set_option maxHeartbeats 2000000 in
theorem alive46_p (w:World):Calls Tryz.prog 24 #[] w fun e w'=>e=.returned (.bool true)/\Ext w w':=by
 have hb:∀ w,(Instr.build 57 #[(0,.int .i64 1),(1,.int .i64 5),(2,.int .i64 1),(3,.int .i64 1)]).run Tryz.prog w=.ok (.agg #[.int .i64 1,.int .i64 5,.int .i64 1,.int .i64 1,.int .i64 0,.int .i64 0,.int .i64 0,.int .i64 0]) w:=fun w=>run_build w 57 _ _ (by kernel_rfl)
 have b0:=Blk.new w (.cells #[.int .i64 1,.int .i64 5,.int .i64 1,.int .i64 1,.int .i64 0,.int .i64 0,.int .i64 0,.int .i64 0] 57)
 have hX:=(Ext.refl w).alloc (.cells #[.int .i64 1,.int .i64 5,.int .i64 1,.int .i64 1,.int .i64 0,.int .i64 0,.int .i64 0,.int .i64 0] 57)
 have hin:ThgsIn (w.alloc (.cells #[.int .i64 1,.int .i64 5,.int .i64 1,.int .i64 1,.int .i64 0,.int .i64 0,.int .i64 0,.int .i64 0] 57)) (some ⟨w.heap.size,0,none⟩) [⟨1,5,1,1,0,0,0,0⟩]:=fun _=>by
  refine⟨w.heap.size,0,rfl,b0.lt,fun i t hi=>?_⟩
  have hi0:i=0:=by
   have:=(List.getElem?_eq_some_iff.1 hi).1
   simp at this
   exact this
  subst hi0
  obtain rfl:(⟨1,5,1,1,0,0,0,0⟩:Thg)=t:=by simpa using hi
  exact⟨b0.cells 0,b0.cells 1,b0.cells 2,b0.cells 3,b0.cells 4,b0.cells 5,b0.cells 6,b0.cells 7⟩
 have hlay:=fun c=>lay40_r _ c [⟨1,5,1,1,0,0,0,0⟩] 2 _ hin
 clear hin b0
 go_enter Tryz.func24,Tryz.ntmps24
 go_wp2_with fail
 refine (hlay 1).mono ?_
 clear hlay hb
 rintro e w2 ⟨hx,v,x,rfl,hcase⟩
 replace hX:=hX.trans hx
 clear hx
 rcases hcase with⟨rfl,N,obs,c2,l2,hN,hN1,-,hobs,hrow⟩ | ⟨rfl,hx0,hno⟩
 rotate_left
 · obtain⟨rs,hL,hC,hLL⟩:=fast_laid
   exact absurd ⟨2,_,_,_,rfl,by decide,ObsOk.cons (ObOk.lock rs (by decide) hL (by decide) (by show (0:Int)+(lkC 5 2 rs+ownC 1)<=32768;rw [hC];decide) (by show (0:Int)+(lkL 5 rs+ownL 1)<=32768;rw [hLL];decide)) (.nil _ _)⟩ (hno (by simp) (by decide))
 obtain rfl:N=2:=by omega
 have hone:∃ ob,obs=[ob]/\(∀ w,Calls Tryz.prog 26 #[.agg (obA ob),.int .i64 1] w fun e w'=>e=.returned (.int .i64 5)/\Ext w w')/\(∀ w,Calls Tryz.prog 26 #[.agg (obA ob),.int .i64 2] w fun e w'=>e=.returned (.int .i64 2)/\Ext w w')/\(∀ w,Calls Tryz.prog 26 #[.agg (obA ob),.int .i64 8] w fun e w'=>e=.returned (.int .i64 (-1))/\Ext w w'):=by
  cases hobs with
  | cons h g =>
    cases g
    cases h with
    | lock rs hk hL _ _ _ =>
      have hb:=lk_bd (N:=2) (by decide) 5 1
      have e1:lkIn 5 1 2=5:=by decide +kernel
      have e2:lkOut 5 1 2=2:=by decide +kernel
      rw [e1,e2] at hb
      have hA:∀ w,Calls Tryz.prog 12 #[lockV 5 (2:Nat) 1 0 0 1] w fun e w'=>e=.returned (.tuple #[.int .i64 5,.int .i64 2])/\Ext w w':=fun w=>by
       have:=lalone_p 5 2 1 0 0 1 rs w hL
       rw [e1,e2] at this
       exact this
      refine⟨_,rfl,fun w=>?_,fun w=>?_,fun w=>?_⟩
      · exact balone1_p _ _ _ _ _ _ _ _ _ _ _ _ _ _ _ _ _ _ _ _ _ _ 5 2 hb.1 hb.2 hA w
      · exact balone2_p _ _ _ _ _ _ _ _ _ _ _ _ _ _ _ _ _ _ _ _ _ _ 5 2 hb.1 hb.2 hA w
      · exact aloneno_p 1 _ _ _ _ _ _ _ _ _ _ _ _ _ _ _ _ _ _ _ _ _ _ 8 (.inr (.inr rfl)) w
    | reg hk _ _=>exact absurd hk (by decide)
    | name _ hk _ _ _=>exact absurd hk (by decide)
 obtain⟨ob,rfl,h1,h2,h8⟩:=hone
 obtain⟨A,c,rfl,hA⟩:=objs_at hrow
 obtain⟨b,rfl,hbl,hr⟩:=hA (by simp)
 have hR:=fun W (hx:Ext w2 W)=>rangeAt_ext (hr 0 ob rfl) hx hbl
 have hE:=Ext.refl w2
 have hXh:=Lib.hid hX
 clear hr hobs hrow hN1 hN hA hX
 simp only [List.length_cons,List.length_nil,Nat.zero_add]
 go_wp2_with (refine load_rangeS (by first | rfl | kernel_rfl) _ rfl b 0 rfl ob (hR _ hE) ?_)
 refine (h1 _).mono ?_
 rintro e w3 ⟨rfl,hx⟩
 replace hE:=hE.trans hx
 clear hx h1
 go_wp2_with (refine load_rangeS (by first | rfl | kernel_rfl) _ rfl b 0 rfl ob (hR _ hE) ?_)
 refine (h2 _).mono ?_
 rintro e w4 ⟨rfl,hx⟩
 replace hE:=hE.trans hx
 clear hx h2
 go_wp2_with (refine load_rangeS (by first | rfl | kernel_rfl) _ rfl b 0 rfl ob (hR _ hE) ?_)
 refine (h8 _).mono ?_
 rintro e w5 ⟨rfl,hx⟩
 replace hE:=hE.trans hx
 clear hx h8 hR
 go_wp2_with fail
 refine (bfree_p 15 _).mono ?_
 rintro e w6 ⟨rfl,rfl⟩
 go_wp2_with fail
 refine (bfree_p 3 _).mono ?_
 rintro e w6 ⟨rfl,rfl⟩
 go_wp2_with fail
 refine (bkind_p 8 _).mono ?_
 rintro e w6 ⟨rfl,rfl⟩
 go_wp2_with fail
 refine (bkind_p 0 _).mono ?_
 rintro e w6 ⟨rfl,rfl⟩
 have hf:=hXh.out.trans hE
 clear hXh hE
 go_wp2_with fail
 go_ret
 exact⟨rfl,hf⟩
theorem ObsOk.mem {N:Nat}{c l:Int}{ts:List Thg}{obs:List Ob}{c2 l2:Int}(g:ObsOk N c l ts obs c2 l2):∀ ob∈obs,∃ c l t cs ls,ObOk N c l t ob cs ls:=by
 induction g with
 | nil c l=>intro ob h;cases h
 | cons h1 _ ih =>
   intro ob h
   rcases List.mem_cons.1 h with rfl | h
   · exact⟨_,_,_,_,_,h1⟩
   · exact ih ob h
set_option maxRecDepth 100000 in
set_option maxHeartbeats 20000000 in
theorem boundtells_walk (A:Option Addr)(cc:Nat)(ts:List Thg)(n op:Int)(w:World)(hv:ThgsIn w A ts) :
  Calls Tryz.prog 5 #[.slice A ts.length cc,.int .i64 n,.int .i64 op] w fun e w'=>e=.returned (.bool true)/\Ext w w':=by
 by_cases h20:20<ts.length
 · have d:decide ((20:Int)<(ts.length:Int))=true:=by rw [decide_eq_true_eq];omega
   clear hv h20
   go_enter Tryz.func5,Tryz.ntmps5
   go_wp2_with fail
   refine (alive46_p _).mono ?_
   rintro e w2 ⟨rfl,hx⟩
   go_wp2_with fail
   go_ret
   exact⟨rfl,hx⟩
 have d:decide ((20:Int)<(ts.length:Int))=false:=by rw [decide_eq_false_iff_not];omega
 have hl:=lay40_r A cc ts n w hv
 clear hv h20
 go_enter Tryz.func5,Tryz.ntmps5
 go_wp2_with fail
 refine hl.mono ?_
 clear hl d
 rintro e wl ⟨hX,v,x,rfl,hcase⟩
 obtain⟨Ao,co,obs,rfl,ho8,hA,hboth⟩:∃ Ao co,∃ obs:List Ob,v=.slice Ao obs.length co/\obs.length<=8/\(obs≠[]->∃ b,Ao=some ⟨b,0,none⟩/\b<wl.heap.size/\∀ i ob,obs[i]?=some ob->wl.rangeAt b (i*23) (obVals ob)) /\
   ∀ ob∈obs,∀ op:Int,∃ x:Int,(∀ w,Calls Tryz.prog 26 #[.agg (obA ob),.int .i64 op] w fun e w'=>e=.returned (.int .i64 x)/\Ext w w')/\∀ w,Calls Tryz.prog 27 #[.agg (obA ob),.int .i64 op] w fun e w'=>e=.returned (.int .i64 x)/\Ext w w':=by
  rcases hcase with⟨rfl,N,obs,c2,l2,hN,hN1,h8,hobs,hrow⟩ | ⟨rfl,hx0,hno⟩
  · obtain⟨A,c,e,h⟩:=objs_at hrow
    refine⟨A,c,obs,e,by rw [hobs.len];exact h8,h,fun ob ho op=>?_⟩
    obtain⟨c',l',t,cs,ls,hk⟩:=hobs.mem ob ho
    exact alone_both hk hN1 op
  · exact⟨none,0,[],rfl,by decide,fun h=>absurd rfl h,fun ob h=>by cases h⟩
 have hend:Hid (∀ W,Ext wl W->Ext w W):=Lib.hid fun W h=>hX.trans h
 clear hcase hX
 have hfree:=bfree_p op
 have hbk:=bkind_p op
 have hrk:=rkind_r op
 have hcases:(decide (15<=op)=false/\decide (15<=op/\op<=17)=false)∨(decide (15<=op)=true/\decide (op<=17)=false/\decide (15<=op/\op<=17)=false)∨(decide (15<=op)=true/\decide (op<=17)=true/\decide (15<=op/\op<=17)=true):=by
  simp only [decide_eq_true_eq,decide_eq_false_iff_not]
  omega
 generalize decide (15<=op/\op<=17)=bf at hfree hcases
 by_cases h0:obs=[]
 · subst h0
   clear hA hboth ho8
   go_wp2_with fail
   go_loopw [9] (fun i wr=>i=.int .i64 0/\wr=wl) (fun _ _=>0)
   case atStart=>exact⟨rfl,rfl⟩
   case round =>
    obtain⟨rfl,rfl⟩:=hrel
    have hX:=Ext.refl wr
    go_wp2_with fail
    refine (hbk _).mono ?_
    rintro e w' ⟨rfl,rfl⟩
    go_wp2_with fail
    refine (hrk _).mono ?_
    rintro e w6 ⟨rfl,hx⟩
    replace hX:=hX.trans hx
    clear hx hbk hrk
    rcases hcases with⟨o1,hf⟩ | ⟨o1,o2,hf⟩ | ⟨o1,o2,hf⟩
    all_goals
     rw [hf] at hfree
     clear hf
     go_wp2_with fail
     refine (hfree _).mono ?_
     rintro e w' ⟨rfl,rfl⟩
     clear hfree
     go_wp2_with fail
     refine (alive46_p _).mono ?_
     rintro e w7 ⟨rfl,hx⟩
     have hff:=hend.out _ (hX.trans hx)
     clear hend hX hx
     go_wp2_with fail
     go_ret
     exact⟨rfl,hff⟩
 obtain⟨b,rfl,hb,hr0⟩:=hA h0
 have hra0:=Lib.hid (fun i ob (hi:obs[i]?=some ob) W (hx:Ext wl W)=>rangeAt_ext (hr0 i ob hi) hx hb)
 replace hboth:=Lib.hid hboth
 clear hA h0 hr0 hb
 go_wp2_with fail
 go_loopw [9] (fun i wr=>∃ j:Nat,i=.int .i64 j/\j<=obs.length/\Ext wl wr) (fun i _=>obs.length-(intOf i).toNat)
 case atStart=>exact⟨0,rfl,by omega,Ext.refl _⟩
 case round =>
  obtain⟨j,rfl,hj,hX⟩:=hrel
  by_cases hlt:j<obs.length
  · have di:decide ((j:Int)<(obs.length:Int))=true:=by rw [decide_eq_true_eq];omega
    have di2:(j:Int)<(obs.length:Int):=by omega
    have di0:(0:Int)<=(j:Int):=by omega
    obtain⟨ob,hob⟩:∃ ob,obs[j]?=some ob:=⟨_,List.getElem?_eq_getElem hlt⟩
    have hmem:=List.mem_of_getElem? hob
    have hra:=hra0.out j ob hob
    go_wp2_with fail
    obtain⟨x,hp,hr⟩:=hboth.out ob hmem op
    have hS:=fun w' (hx:Ext wl w')=>hra w' hx
    replace hX:=hX.drew
    refine wp_region_held_drew (S:=fun w'=>w'.rangeAt b (j*23) (obVals ob)) rfl (hS _ hX) (fun hHeld=>?_)
    refine tkb 0 ?_
    iterate 3
     refine tkn (v:=?_) rfl (by kernel_rfl) (fun _ _ _ h=>h) (by assumption) ?_ ?_
     rotate_left
     · (intro w hSw;(try dsimp only at hSw);go_simp;try with_reducible rfl)
     try simp only [put_pack]
    refine tke ?_
    try simp only [put_pack]
    go_simp
    refine tk 3 rfl (by kernel_rfl) (fun _ _ _ h=>h) (by assumption) (fun w hw=>obj_runR rfl b (j*23) (by first | rfl | (simp;done) | go_simp) ob hw) ?_
    try simp only [put_pack]
    refine tk 4 (v:=?_) rfl (by kernel_rfl) (fun _ _ _ h=>h) (by assumption) ?_ ?_
    rotate_left
    · (intro w hSw;(try dsimp only at hSw);go_simp;try with_reducible rfl)
    try simp only [put_pack]
    refine tkb 6 ?_
    iterate 3
     refine tkn (v:=?_) rfl (by kernel_rfl) (fun _ _ _ h=>h) (by assumption) ?_ ?_
     rotate_left
     · (intro w hSw;(try dsimp only at hSw);go_simp;try with_reducible rfl)
     try simp only [put_pack]
    refine tke ?_
    refine tk 9 rfl (by kernel_rfl) (fun _ _ _ h=>h) (by assumption) (fun w hw=>obj_runR rfl b (j*23) (by first | rfl | (simp;done) | go_simp) ob hw) ?_
    try simp only [put_pack]
    refine tk 10 (v:=?_) rfl (by kernel_rfl) (fun _ _ _ h=>h) (by assumption) ?_ ?_
    rotate_left
    · (intro w hSw;(try dsimp only at hSw);go_simp;try with_reducible rfl)
    try simp only [put_pack]
    refine wpAnyH_ready (rs:=[5]) (by kernel_rfl) (by simp) ?_
    refine AllReadyH.cons rfl (fun K hKK=>?_) (AllReadyH.nil)
    go_simp
    refine (hp _).mono ?_
    rintro e wk ⟨rfl,hx⟩
    replace hX:=hX.trans hx
    clear hx
    refine hKK.out _ _ (hS _ hX) (fun hHeld=>?_)
    clear hKK K
    try dsimp only
    refine wpAnyH_ready (rs:=[11]) (by kernel_rfl) (by simp) ?_
    refine AllReadyH.cons rfl (fun K hKK=>?_) (AllReadyH.nil)
    go_simp
    refine (hr _).mono ?_
    rintro e wm ⟨rfl,hx⟩
    replace hX:=hX.trans hx
    clear hx
    refine hKK.out _ _ (hS _ hX) (fun hHeld=>?_)
    clear hKK K
    try dsimp only
    refine tk 12 (v:=?_) rfl (by kernel_rfl) (fun _ _ _ h=>h) (by assumption) ?_ ?_
    rotate_left
    · (intro w hSw;(try dsimp only at hSw);go_simp;try with_reducible rfl)
    try simp only [put_pack]
    refine wpAnyH_done (by kernel_rfl) ?_ _
    go_simp
    clear hHeld hS hp hr
    go_wp2_with fail
    go_loopw [10] (fun i wq=>∃ q:Nat,i=.int .i64 q/\q<=19/\Ext wl wq) (fun i _=>19-(intOf i).toNat)
    case atStart=>exact⟨0,rfl,by omega,hX⟩
    case round =>
     clear hX
     obtain⟨q,rfl,hq,hX⟩:=hrel
     by_cases hq9:q<19
     · have dq:decide ((q:Int)<19)=true:=by rw [decide_eq_true_eq];omega
       go_wp2_with fail
       obtain⟨x,hp,hr⟩:=hboth.out ob hmem (q:Int)
       have hS:=fun w' (hx:Ext wl w')=>hra w' hx
       replace hX:=hX.drew
       refine wp_region_held_drew (S:=fun w'=>w'.rangeAt b (j*23) (obVals ob)) rfl (hS _ hX) (fun hHeld=>?_)
       refine tkb 0 ?_
       iterate 3
        refine tkn (v:=?_) rfl (by kernel_rfl) (fun _ _ _ h=>h) (by assumption) ?_ ?_
        rotate_left
        · (intro w hSw;(try dsimp only at hSw);go_simp;try with_reducible rfl)
        try simp only [put_pack]
       refine tke ?_
       try simp only [put_pack]
       go_simp
       refine tk 3 rfl (by kernel_rfl) (fun _ _ _ h=>h) (by assumption) (fun w hw=>obj_runR rfl b (j*23) (by first | rfl | (simp;done) | go_simp) ob hw) ?_
       try simp only [put_pack]
       refine tk 4 (v:=?_) rfl (by kernel_rfl) (fun _ _ _ h=>h) (by assumption) ?_ ?_
       rotate_left
       · (intro w hSw;(try dsimp only at hSw);go_simp;try with_reducible rfl)
       try simp only [put_pack]
       refine tkb 6 ?_
       iterate 3
        refine tkn (v:=?_) rfl (by kernel_rfl) (fun _ _ _ h=>h) (by assumption) ?_ ?_
        rotate_left
        · (intro w hSw;(try dsimp only at hSw);go_simp;try with_reducible rfl)
        try simp only [put_pack]
       refine tke ?_
       refine tk 9 rfl (by kernel_rfl) (fun _ _ _ h=>h) (by assumption) (fun w hw=>obj_runR rfl b (j*23) (by first | rfl | (simp;done) | go_simp) ob hw) ?_
       try simp only [put_pack]
       refine tk 10 (v:=?_) rfl (by kernel_rfl) (fun _ _ _ h=>h) (by assumption) ?_ ?_
       rotate_left
       · (intro w hSw;(try dsimp only at hSw);go_simp;try with_reducible rfl)
       try simp only [put_pack]
       refine wpAnyH_ready (rs:=[5]) (by kernel_rfl) (by simp) ?_
       refine AllReadyH.cons rfl (fun K hKK=>?_) (AllReadyH.nil)
       go_simp
       refine (hp _).mono ?_
       rintro e wk ⟨rfl,hx⟩
       replace hX:=hX.trans hx
       clear hx
       refine hKK.out _ _ (hS _ hX) (fun hHeld=>?_)
       clear hKK K
       try dsimp only
       refine wpAnyH_ready (rs:=[11]) (by kernel_rfl) (by simp) ?_
       refine AllReadyH.cons rfl (fun K hKK=>?_) (AllReadyH.nil)
       go_simp
       refine (hr _).mono ?_
       rintro e wm ⟨rfl,hx⟩
       replace hX:=hX.trans hx
       clear hx
       refine hKK.out _ _ (hS _ hX) (fun hHeld=>?_)
       clear hKK K
       try dsimp only
       refine tk 12 (v:=?_) rfl (by kernel_rfl) (fun _ _ _ h=>h) (by assumption) ?_ ?_
       rotate_left
       · (intro w hSw;(try dsimp only at hSw);go_simp;try with_reducible rfl)
       try simp only [put_pack]
       refine wpAnyH_done (by kernel_rfl) ?_ _
       go_simp
       clear hHeld hS hp hr
       go_wp2_with fail
       exact⟨⟨q+1,by first | rfl | go_num,by omega,hX⟩,by simp [intOf];omega⟩
     · obtain rfl:q=19:=by omega
       go_wp2_with fail
       exact⟨⟨j+1,by first | rfl | go_num,by omega,hX⟩,by simp [intOf];omega⟩
  · obtain rfl:j=obs.length:=by omega
    have di:decide ((obs.length:Int)<(obs.length:Int))=false:=by rw [decide_eq_false_iff_not];omega
    clear hra0 hboth
    go_wp2_with fail
    refine (hbk _).mono ?_
    rintro e w' ⟨rfl,rfl⟩
    go_wp2_with fail
    refine (hrk _).mono ?_
    rintro e w6 ⟨rfl,hx⟩
    replace hX:=hX.trans hx
    clear hx hbk hrk
    rcases hcases with⟨o1,hf⟩ | ⟨o1,o2,hf⟩ | ⟨o1,o2,hf⟩
    all_goals
     rw [hf] at hfree
     clear hf
     go_wp2_with fail
     refine (hfree _).mono ?_
     rintro e w' ⟨rfl,rfl⟩
     clear hfree
     go_wp2_with fail
     refine (alive46_p _).mono ?_
     rintro e w7 ⟨rfl,hx⟩
     have hff:=hend.out _ (hX.trans hx)
     clear hend hX hx
     go_wp2_with fail
     go_ret
     exact⟨rfl,hff⟩
end Go.Proofs.YtponihangpiooaaGreat
namespace Go.Proofs.YtponihangpiooaaGreat
open Go.ChangeShapes Go.WideShapes Go.ChangeAt Go.RowKit Kv
theorem cellsThing:Tryz.prog.cellsOf 57=8:=by kernel_rfl
theorem cellsI8:Tryz.prog.cellsOf 3=1:=by kernel_rfl
instance:Inhabited Thg:=⟨⟨0,0,0,0,0,0,0,0⟩⟩
def _root_.Kv.Thg.I64s (t:Kv.Thg):Prop:=(-9223372036854775808<=t.k/\t.k<=9223372036854775807)/\(-9223372036854775808<=t.alg/\t.alg<=9223372036854775807)/\(-9223372036854775808<=t.mode/\t.mode<=9223372036854775807)/\(-9223372036854775808<=t.room/\t.room<=9223372036854775807)/\(-9223372036854775808<=t.arg/\t.arg<=9223372036854775807)/\(-9223372036854775808<=t.wt/\t.wt<=9223372036854775807)/\(-9223372036854775808<=t.rt/\t.rt<=9223372036854775807)/\(-9223372036854775808<=t.top/\t.top<=9223372036854775807)
set_option maxRecDepth 100000 in
theorem thing_cells {H:Type}{enc:TypeId × Value->H}{W:World}{base:Nat}{sp:Nat->Bool}{held:Bool}{fuel:Nat}{cs:List Value}{x:DataW H × List MemPlace}(h:DataW.trod enc Tryz.prog W base sp held fuel 57 cs=some x) :
  ∃ q:Thg,cs=thgVals q/\Thg.I64s q:=by
 obtain⟨xs,n,_,_,hlen,hxl,hf⟩:=DataW.trod_struct Tryz.underlying57 h
 rw [cellsThing] at hlen
 match cs,hlen with
 | [c0,c1,c2,c3,c4,c5,c6,c7],_ =>
   have g0:DataW.trod enc Tryz.prog W base sp held n 3 ((([c0,c1,c2,c3,c4,c5,c6,c7]:List Value).drop 0).take (Tryz.prog.cellsOf 3))=xs[0]?:=hf 0 _ rfl
   have g1:DataW.trod enc Tryz.prog W base sp held n 3 ((([c0,c1,c2,c3,c4,c5,c6,c7]:List Value).drop 1).take (Tryz.prog.cellsOf 3))=xs[1]?:=hf 1 _ rfl
   have g2:DataW.trod enc Tryz.prog W base sp held n 3 ((([c0,c1,c2,c3,c4,c5,c6,c7]:List Value).drop 2).take (Tryz.prog.cellsOf 3))=xs[2]?:=hf 2 _ rfl
   have g3:DataW.trod enc Tryz.prog W base sp held n 3 ((([c0,c1,c2,c3,c4,c5,c6,c7]:List Value).drop 3).take (Tryz.prog.cellsOf 3))=xs[3]?:=hf 3 _ rfl
   have g4:DataW.trod enc Tryz.prog W base sp held n 3 ((([c0,c1,c2,c3,c4,c5,c6,c7]:List Value).drop 4).take (Tryz.prog.cellsOf 3))=xs[4]?:=hf 4 _ rfl
   have g5:DataW.trod enc Tryz.prog W base sp held n 3 ((([c0,c1,c2,c3,c4,c5,c6,c7]:List Value).drop 5).take (Tryz.prog.cellsOf 3))=xs[5]?:=hf 5 _ rfl
   have g6:DataW.trod enc Tryz.prog W base sp held n 3 ((([c0,c1,c2,c3,c4,c5,c6,c7]:List Value).drop 6).take (Tryz.prog.cellsOf 3))=xs[6]?:=hf 6 _ rfl
   have g7:DataW.trod enc Tryz.prog W base sp held n 3 ((([c0,c1,c2,c3,c4,c5,c6,c7]:List Value).drop 7).take (Tryz.prog.cellsOf 3))=xs[7]?:=hf 7 _ rfl
   match xs,hxl with
   | [y0,y1,y2,y3,y4,y5,y6,y7],_ =>
     rw [cellsI8] at g0 g1 g2 g3 g4 g5 g6 g7
     simp only [List.drop,List.take,List.getElem?_cons_zero,List.getElem?_cons_succ] at g0 g1 g2 g3 g4 g5 g6 g7
     obtain⟨x0,e0,_,w0⟩:=DataW.trod_int Tryz.underlying3 g0
     obtain⟨x1,e1,_,w1⟩:=DataW.trod_int Tryz.underlying3 g1
     obtain⟨x2,e2,_,w2⟩:=DataW.trod_int Tryz.underlying3 g2
     obtain⟨x3,e3,_,w3⟩:=DataW.trod_int Tryz.underlying3 g3
     obtain⟨x4,e4,_,w4⟩:=DataW.trod_int Tryz.underlying3 g4
     obtain⟨x5,e5,_,w5⟩:=DataW.trod_int Tryz.underlying3 g5
     obtain⟨x6,e6,_,w6⟩:=DataW.trod_int Tryz.underlying3 g6
     obtain⟨x7,e7,_,w7⟩:=DataW.trod_int Tryz.underlying3 g7
     simp only [List.cons.injEq,and_true] at e0 e1 e2 e3 e4 e5 e6 e7
     subst e0 e1 e2 e3 e4 e5 e6 e7
     exact⟨⟨x0,x1,x2,x3,x4,x5,x6,x7⟩,rfl,bounds_i64 w0,bounds_i64 w1,bounds_i64 w2,bounds_i64 w3,bounds_i64 w4,bounds_i64 w5,bounds_i64 w6,bounds_i64 w7⟩
set_option maxRecDepth 100000 in
theorem things_arg {H:Type}{enc:TypeId × Value->H}{W:World}{b0:Nat}{r:Reach}{v:Value}{d:DataW H}{p:List MemPlace}
  (hv:Value.okWide Tryz.prog W r b0 40 v)(h:DataW.Trod enc Tryz.prog W 0 (fun _=>true) true 40 v d p) :
  ∃ l A c,v=.slice A (l:List Thg).length c/\ThgsIn W A l/\(∀ q∈l,Thg.I64s q)/\l.length<=9223372036854775807:=by
 obtain⟨a0,len,cap,rfl⟩:=okWide_slice Tryz.underlying40 hv
 obtain⟨fuel,hf⟩:=h
 rcases Deep.open_slice Tryz.underlying40 hf with⟨hcs,hx⟩ | ⟨a,len',cap',m,n,D,Pl,hcs,_,hl,hm,hmm,hx,hcell⟩
 · simp [Value.cells] at hcs
   obtain⟨rfl,rfl,rfl⟩:=hcs
   exact⟨[],none,0,rfl,fun h=>absurd rfl h,by simp,by simp⟩
 · simp [Value.cells] at hcs
   obtain⟨rfl,rfl,rfl⟩:=hcs
   simp only [if_true] at hmm
   have each:∀ i,i<len->∃ q:Thg,(W.cells? 0 (a.add (i*8)) 8=some (thgVals q))/\Thg.I64s q:=fun i hi=>by
    obtain⟨cs',h1,h2⟩:=hcell i (by omega)
    rw [cellsThing] at h1
    obtain⟨q,rfl,hq⟩:=thing_cells h2
    exact⟨q,h1,hq⟩
   obtain⟨f,hf2⟩:=Deep.choose_lt each
   refine⟨(List.range len).map f,some a,cap,by simp,fun hne=>?_,fun q hq=>?_,by simp;unfold maxLen at hm;omega⟩
   · have hpos:0<len:=by
      rcases Nat.eq_zero_or_pos len with h0 | h0
      · subst h0;simp at hne
      · exact h0
     obtain⟨b,off,spot⟩:=a
     have hcells:∀ i,i<len->∀ k,k<8->W.cell? ((⟨b,off,spot⟩:Addr).add (i*8+k))=(thgVals (f i))[k]?:=fun i hi k hk=>by
      have:=(World.cells?_some (hf2 i hi).1).2.2 k hk
      rw [Deep.add_add] at this
      exact this
     have hspot:spot=none:=by simpa [Addr.add] using World.cell?_spot (hcells 0 hpos 0 (by omega))
     subst hspot
     have hcl:=hcells 0 hpos 0 (by omega)
     rw [Go.WideShapes.add_plain] at hcl
     refine⟨b,off,rfl,cell_lt (a:=⟨b,off+(0*8+0),none⟩) hcl,fun i q hi=>?_⟩
     have hil:i<len:=by
      have:=(List.getElem?_eq_some_iff.1 hi).1
      simpa using this
     rw [List.getElem?_map,List.getElem?_range hil] at hi
     obtain rfl:f i=q:=by simpa using hi
     have q0:=hcells i hil 0 (by omega)
     have q1:=hcells i hil 1 (by omega)
     have q2:=hcells i hil 2 (by omega)
     have q3:=hcells i hil 3 (by omega)
     have q4:=hcells i hil 4 (by omega)
     have q5:=hcells i hil 5 (by omega)
     have q6:=hcells i hil 6 (by omega)
     have q7:=hcells i hil 7 (by omega)
     rw [Go.WideShapes.add_plain] at q0 q1 q2 q3 q4 q5 q6 q7
     exact⟨q0,q1,q2,q3,q4,q5,q6,q7⟩
   · obtain⟨i,hi,rfl⟩:=List.mem_map.1 hq
     exact (hf2 i (by simpa using hi)).2
end Go.Proofs.YtponihangpiooaaGreat
namespace Go.Proofs.YtponihangpiooaaGreat.boundTells
open Go.ChangeShapes Go.WideShapes Go.ChangeAt Go.RowKit Kv
set_option maxRecDepth 100000 in
theorem main (H:Type)(enc:TypeId × Value->H)(W:World)(base:Nat)(args:Array Value)(ds:List (DataW H))(p:List MemPlace)
  (hval:∀ (j:Nat) t v,Tryz.f5.params[j]?=some t->args[j]?=some v->Value.okWide Tryz.prog W .any base t v)
  (hA:DataW.TrodAll enc Tryz.prog W 0 (fun _=>true) true Tryz.f5.params.toList args.toList ds p)(_hL:laidMetH Tryz.prog Rows.boundTellsRow.laid W) :
  Calls Tryz.prog 5 args W fun e w'=>e=.returned (.bool true)/\Ext W w':=by
 rw [Tryz.params5] at hA hval
 obtain⟨v0,vs0,d0,ds0,p0,q0,hargs,rfl,rfl,h0,r0⟩:=trodAll_cons hA
 obtain⟨v1,vs1,d1,ds1,p1,q1,rfl,rfl,rfl,h1,r1⟩:=trodAll_cons r0
 obtain⟨v2,vs2,d2,ds2,p2,q2,rfl,rfl,rfl,h2,r2⟩:=trodAll_cons r1
 obtain⟨rfl,rfl,rfl⟩:=trodAll_nil r2
 obtain rfl:args=#[v0,v1,v2]:=by cases args;simp_all
 obtain⟨l,A,c,rfl,hl,_,_⟩:=things_arg (hval 0 40 v0 rfl rfl) h0
 obtain⟨n,rfl,rfl,rfl,-⟩:=open_int Tryz.underlying3 (hval 1 3 v1 rfl rfl) h1
 obtain⟨op,rfl,rfl,rfl,-⟩:=open_int Tryz.underlying3 (hval 2 3 v2 rfl rfl) h2
 exact boundtells_walk A c l n op W hl
end Go.Proofs.YtponihangpiooaaGreat.boundTells
namespace Go.Proofs.YtponihangpiooaaGreat.boundTells
open Go.ChangeShapes Go.WideShapes Go.ChangeAt Go.RowKit
theorem laidOut:laidOutB Tryz.prog=true:=by kernel_rfl
set_option maxRecDepth 100000 in
theorem contract (H:Type)(enc:TypeId × Value->H)(W:World)(base:Nat)(args:Array Value)(ds gs:List (DataW H))(before:List MemPlace)
  (hval:∀ (j:Nat) t v,Tryz.f5.params[j]?=some t->args[j]?=some v->Value.okWide Tryz.prog W .any base t v)
  (hW:DataW.Whole enc Tryz.prog Tryz.f5.params.toList Rows.boundTellsSpec.vars false W args.toList ds gs before)(hL:laidMetH Tryz.prog Rows.boundTellsRow.laid W) :
  Calls Tryz.prog 5 args W fun e W'=>∃ v,e=.returned v/\Rows.boundTellsSpec.post enc Tryz.prog Tryz.f5 false true false false W args v W':=by
 refine (main H enc W base args ds before hval (by obtain⟨p,q,hA,hV,hpq,_,_⟩:=hW;obtain⟨_,rfl⟩:=trodVars_none hV;rw [List.append_nil] at hpq;subst hpq;exact hA) hL).mono fun e W' ⟨he,hg⟩=>⟨_,he,?_⟩
 refine law_post (tb:=4) laidOut ?_ (by kernel_rfl) Tryz.underlying4 rfl ?_ hW hg
 · rw [Tryz.params5]
   intro t ht
   simp only [List.mem_cons,List.not_mem_nil,or_false] at ht
   rcases ht with rfl | rfl | rfl <;> exact⟨by kernel_rfl,of_decide_eq_true (by kernel_rfl)⟩
 · intro ds hl
   rw [Tryz.params5] at hl
   match ds,hl with
   | [d0,d1,d2],_=>rfl
set_option maxRecDepth 100000 in
theorem laid_met (os:Os):laidMet Tryz.prog Rows.boundTellsRow.laid (((World.holding Tryz.prog os ⟨#[],#[],[]⟩)).forCall (fun _ _=>0) ⟨#[],#[.slice none 0 0,.int .i64 0,.int .i64 0],[]⟩).memory :=
 laidMet_of_run' 8 (by kernel_rfl) (by kernel_rfl)
set_option maxRecDepth 100000 in
theorem reads (os:Os){H:Type}(enc:TypeId × Value->H):∃ places,DataW.whole enc Tryz.prog (((World.holding Tryz.prog os ⟨#[],#[],[]⟩)).forCall (fun _ _=>0) ⟨#[],#[.slice none 0 0,.int .i64 0,.int .i64 0],[]⟩).memory Tryz.f5.params.toList Rows.boundTellsSpec.vars false (#[.slice none 0 0,.int .i64 0,.int .i64 0]:Array Value).toList 8=some ([.nil,.lit (.int .i64 0),.lit (.int .i64 0)],[],places) :=
 ⟨[],by kernel_rfl⟩
set_option maxRecDepth 100000 in
theorem lifted (os:Os)(started:os.Started)(H:Type)(enc:TypeId × Value->H)(F:Stop.Interp) :
  ReturnsInHanded {} Tryz.checked os 5 .any ((OpenSpec.ofChange Rows.boundTellsSpec).preRow enc Tryz.prog Tryz.f5 Rows.boundTellsRow.domain false Rows.boundTellsRow.laid) (((OpenSpec.ofChange Rows.boundTellsSpec).at F).post enc Tryz.prog Tryz.f5 false true false false):=by
 obtain⟨places,hx⟩:=reads os enc
 refine returnsInHanded_of_row (C:=Tryz.checked) (s:=(OpenSpec.ofChange Rows.boundTellsSpec)) own started (by kernel_rfl) Tryz.func5
  (witness_row_at (enc:=enc) (C:=Tryz.checked) false (World.holding Tryz.prog os ⟨#[],#[],[]⟩) #[.slice none 0 0,.int .i64 0,.int .i64 0] rfl (by kernel_rfl) (by kernel_rfl) (by kernel_rfl)
    (OpenSpec.preRow_of_cond 8 hx (by kernel_rfl) (fun k hk=>by cases hk) (by kernel_rfl) (laid_met os))) ?_
 intro W base args ds gs before hval hW _ _ _ hL _ _
 exact contract H enc W base args ds gs before hval hW hL
theorem c1:(Rows.boundTellsRow.inPlace==Tryz.pinned.checked.prog.inPlace 5)=true:=by kernel_rfl
theorem c2:(Rows.boundTellsRow.unfollowed==Tryz.pinned.checked.prog.unfollowed 5)=true:=by kernel_rfl
theorem c3:(Rows.boundTellsRow.recurses==Tryz.pinned.checked.prog.recurses 5)=true:=by kernel_rfl
theorem c4:(Rows.boundTellsRow.named==Tryz.pinned.checked.prog.varsNamed 5)=true:=by kernel_rfl
theorem closed:joinedFacts Tryz.pinned.checked.prog 5 Tryz.f5 (OpenSpec.ofChange Rows.boundTellsSpec).bare Rows.boundTellsRow=true:=by
 unfold joinedFacts
 simp only [Bool.and_eq_true]
 repeat' refine And.intro ?_ ?_
 all_goals first | with_reducible exact c1 | with_reducible exact c2 | with_reducible exact c3 | with_reducible exact c4 | kernel_rfl
theorem said:Rows.BoundTellsSaid :=
 OpenClaim.holds_of_cond 5 Tryz.f5 rfl rfl rfl rfl rfl rfl rfl ⟨rfl,rfl,rfl,rfl,rfl⟩ rfl rfl rfl rfl rfl (by kernel_rfl) Tryz.func5 closed
  (of_decide_eq_true (by kernel_rfl)) (by unfold Func.isWrapper;first | (rw [if_pos (by decide +kernel)];kernel_rfl) | (rw [if_neg (by decide +kernel)];exact⟨rfl,rfl⟩))
  (fun os started H enc _ F=>by rw [OpenClaim.pre_eq_preRow];exact lifted os started H enc F)
end Go.Proofs.YtponihangpiooaaGreat.boundTells
