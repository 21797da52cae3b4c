/-
  OnceOneSaid: part 1 of its proof.
-/
import Derived.Test.YtmmmiplmiooioaaGreatJOnceOneSaid0
import Derived.Deep.RegionHeld3
import Derived.Laws.AppendOwnNone
import Derived.Deep.QuietTactic
import Derived.BigQuiet
import Derived.ProofKit
import Derived.OpenShut
import Derived.Deep.DeepHandedRow
import Derived.WideKeyArgs
import Derived.Carry
import Derived.ChangeSame
import Derived.Lib.SmallJoins
import Derived.Test.YtmmmiplmiooioaaGreatRows
import Derived.Deep.DeepCutAuto
import Derived.ScopeJumps
import Derived.WalkMore
import Derived.Deep.CutBlock
import Derived.Laws.MakeOwn
namespace Go.Proofs.YtmmmiplmiooioaaGreat
open Go.RowKit Kv
theorem row_base {w:World}{B B' e size n:Nat}{v:Value}{xs:List Value}(h:w.ownsRow B' e size v n xs)(hB:B<=B'):w.ownsRow B e size v n xs:=by
 obtain⟨h1,h2⟩:=h
 rcases h2 with h2 | ⟨g,cap,cur,rfl,hg,r⟩
 · exact⟨h1,.inl h2⟩
 · exact⟨h1,.inr ⟨g,cap,cur,rfl,Nat.le_trans hB hg,r⟩⟩
theorem four_boxes (w:World)(o1 o2 o3 o4:Obj):Ext w ((((w.alloc o1).alloc o2).alloc o3).alloc o4)/\((((w.alloc o1).alloc o2).alloc o3).alloc o4).heap[w.heap.size]?=some o1/\((((w.alloc o1).alloc o2).alloc o3).alloc o4).heap[w.heap.size+1]?=some o2 /\
  ((((w.alloc o1).alloc o2).alloc o3).alloc o4).heap[w.heap.size+1+1]?=some o3/\((((w.alloc o1).alloc o2).alloc o3).alloc o4).heap[w.heap.size+1+1+1]?=some o4:=by
 refine⟨((((Ext.refl w).alloc o1).alloc o2).alloc o3).alloc o4,?_,?_,?_,?_⟩
 · exact (Below.block ((((Ext.refl (w.alloc o1)).alloc o2).alloc o3).alloc o4) _ (by simp)).trans (heap_alloc_new w o1)
 · have:=heap_alloc_new (w.alloc o1) o2
   rw [World.size_alloc] at this
   exact (Below.block (((Ext.refl ((w.alloc o1).alloc o2)).alloc o3).alloc o4) _ (by simp)).trans this
 · have:=heap_alloc_new ((w.alloc o1).alloc o2) o3
   rw [World.size_alloc,World.size_alloc] at this
   exact (Below.block ((Ext.refl (((w.alloc o1).alloc o2).alloc o3)).alloc o4) _ (by simp)).trans this
 · have:=heap_alloc_new (((w.alloc o1).alloc o2).alloc o3) o4
   rw [World.size_alloc,World.size_alloc,World.size_alloc] at this
   exact this
structure SameW (w w':World):Prop where
 os:w'.os=w.os
 tape:w'.tape=w.tape
 output:w'.output=w.output
 size:w'.heap.size=w.heap.size
 blocks:∀ k:Nat,w'.heap[k]?=w.heap[k]?
theorem SameW.drew (w:World):SameW w w.drew:=⟨rfl,rfl,rfl,rfl,fun _=>rfl⟩
theorem SameW.drew2 {w w':World}(h:SameW w w'):SameW w w'.drew:=⟨h.os,h.tape,h.output,h.size,h.blocks⟩
theorem SameW.refl (w:World):SameW w w:=⟨rfl,rfl,rfl,rfl,fun _=>rfl⟩
theorem SameW.ext {w w':World}(h:SameW w w'):Ext w w':=⟨h.os,h.tape,h.output,Nat.le_of_eq h.size.symm,fun k _=>h.blocks k⟩
theorem SameW.set {w w':World}{b:Nat}{cs:Array Value}{t:TypeId}(h:SameW w w')(g:w.heap[b]?=some (.cells cs t (0,0))){i:Nat}{v:Value}(hv:cs[i]?=some v):SameW w (w'.setCell ⟨b,i,none⟩ v):=by
 refine⟨h.os,h.tape,h.output,by rw [<- h.size];simp,fun k=>?_⟩
 by_cases e:k=b
 · subst e
   rw [heap_setCell ((h.blocks k).trans g) v,g]
   congr 2
   apply Array.ext_getElem?
   intro j
   rw [Array.getElem?_setIfInBounds]
   split
   · rename_i e
     subst e
     rw [hv]
     split
     · rfl
     · rename_i h2
       rw [Array.getElem?_eq_none (by omega)] at hv
       cases hv
   · rfl
 · rw [heap_setCell_ne _ _ e]
   exact h.blocks k
theorem play_start {w W w':World}{p:Nat}{Aa:Option Addr}{ca:Nat}{ans L:List Int}{v':Value}(hx:Ext w W)(hp:w.heap.size<=p)(g:W.heap[p]?=some (.cells #[.int .i64 1,.slice Aa ans.length ca,.slice none 0 0,.slice none 0 0,.slice none 0 0] 87 (0,0)))
  (h2:Ext W w')(h1:IntRow w' W.heap.size v' L)(hl:L.length<=32768)(ha:Ints w (.slice Aa ans.length ca) ans)(hn:ans.length<=maxAns)(hb:∀ b,(Value.slice Aa ans.length ca).ownBlock=some b->b<w.heap.size) :
  Plays w.heap.size (w'.setCell ⟨p,2,none⟩ v') p (TS0 L ans)/\(∀ b o,W.heap[b]?=some o->b≠p->HeldP (w'.setCell ⟨p,2,none⟩ v') p b o)/\Ext w (w'.setCell ⟨p,2,none⟩ v'):=by
 have hlt:=(Array.getElem?_eq_some_iff.1 g).1
 have g':=heap_setCell (i:=2) ((Below.block h2 p hlt).trans g) v'
 have hv:∀ k,v'.ownBlock=some k->W.heap.size<=k:=fun k hk=>(h1.lt k hk).1
 have ha':=(ha.ext hx).ext h2
 refine⟨⟨Nat.zero_le _,.slice Aa ans.length ca,v',.slice none 0 0,.slice none 0 0,L,{ ge:=hp,heap:=g',ans:=ints_set ha' _ _ ?_,ansB:=hb,rowL:=row_base (row_set h1 ?_) hx.size,rowC:=World.ownsRow_nil _ _ _ _,rowN:=World.ownsRow_nil _ _ _ _,loc:=fun _=>rfl,locN:=hl,accN:=Nat.zero_le _,ansN:=hn,ntsN:=Nat.zero_le _ }⟩,?_,(hx.trans h2).setCell hp _⟩
 · intro k hk e
   have:=hb k hk
   simp only at e
   omega
 · intro e
   have:=hv p e
   omega
 · intro b o hb ho
   have hbl:=(Array.getElem?_eq_some_iff.1 hb).1
   refine⟨(heap_setCell_ne _ _ ho).trans ((Below.block h2 b hbl).trans hb),fun h'=>?_⟩
   rcases h' with e | ⟨i,hi,v,hv1,hv2⟩
   · exact ho e
   · rw [cell_of_heap g'] at hv1
     simp only [List.mem_cons,List.not_mem_nil,or_false] at hi
     rcases hi with rfl | rfl | rfl
     · obtain rfl:v'=v:=by simpa using hv1
       have:=hv b hv2
       omega
     · obtain rfl:Value.slice none 0 0=v:=by simpa using hv1
       simp [Value.ownBlock] at hv2
     · obtain rfl:Value.slice none 0 0=v:=by simpa using hv1
       simp [Value.ownBlock] at hv2
@[go_sem] theorem build_strip (a b c:Int) (w:World):(Instr.build 97 #[(0,.int .i64 a),(1,.int .i64 b),(2,.int .i64 c)]).run Tryz.prog w=.ok (.agg #[.int .i64 a,.int .i64 b,.int .i64 c]) w:=run_build w 97 _ _ (by kernel_rfl)
@[go_sem] theorem build_regw (a b c d e:Int) (w:World):(Instr.build 29 #[(0,.int .i64 a),(3,.int .i64 b),(4,.int .i64 c),(5,.int .i64 d),(6,.int .i64 e)]).run Tryz.prog w=.ok (.agg #[.int .i64 a,.int .i64 0,.int .i64 0,.int .i64 b,.int .i64 c,.int .i64 d,.int .i64 e]) w:=run_build w 29 _ _ (by kernel_rfl)
theorem RegsAt.ext {ix:List Nat}{p b:Nat}{w w':World}{l:List Reg}(h:RegsAt ix w p b l)(hx:Ext w w')(hp:p<w.heap.size):RegsAt ix w' p b l:=h.keep (B:=0) (Keep.of_ext hx hp (Nat.zero_le _))
end Go.Proofs.YtmmmiplmiooioaaGreat
namespace Go.Proofs.YtmmmiplmiooioaaGreat
open Go.RowKit Go.WideShapes Go.ChangeShapes
section
variable {H:Type} {enc:TypeId × Value->H} {P:Program}
theorem post_of_below {f:Func}{s:ChangeSpec}{apart fresh handsOn again:Bool}{W W':World}{args:Array Value}{v:Value}{ds gs:List (DataW H)}{before pa pv:List MemPlace}
  (hW:DataW.Whole enc P f.params.toList s.vars apart W args.toList ds gs before)
  (hres:∀ (b:Nat) (sp:Nat->Bool) (hd:Bool),DataW.TrodAll enc P W' b sp hd f.resultTypes.toList (v.resultList f.resultTypes.size) (s.fn H (ds++gs)).results [])
  (hargs:∀ sp:Nat->Bool,(∀ p∈before,sp p.block=true)->DataW.TrodAll enc P W' 0 sp true f.params.toList args.toList (s.fn H (ds++gs)).args pa)
  (hvars:∀ sp:Nat->Bool,(∀ p∈before,sp p.block=true)->DataW.TrodVars enc P W' sp s.vars (s.fn H (ds++gs)).vars pv)
  (hps:before=pa++pv)(hb:Below W.heap.size W W')
  (hok:∀ (j:Nat) (t:TypeId) (r:Value),f.resultTypes[j]?=some t->(v.resultList f.resultTypes.size)[j]?=some r->Value.okWide P W' .any 0 t r) :
  s.post enc P f apart fresh handsOn again W args v W':=by
 have hlt:∀ p∈before,p.block<W.heap.size:=fun p hp=>hW.lt p hp
 have hold:∀ p∈before,(fun b=>decide (b<W.heap.size)) p.block=true:=fun p hp=>by simpa using hlt p hp
 refine⟨ds,gs,before,[],pa,pv,hW,hres _ _ _,hargs _ hold,hvars _ hold,World.keptBut_mono (fun p hp=>⟨hp,?_⟩) (hb.frame (·∈before)),fun _=>?_⟩
 · rw [hps,List.mem_append] at hp
   exact Or.inr hp
 · obtain⟨_,_,_,_,_,hz,hn⟩:=hW
   refine⟨hok,_,_,([]++pa)++pv,⟨[]++pa,pv,trodAll_append (hargs _ (fun _ _=>rfl)) (hres _ _ _),hvars _ (fun _ _=>rfl),rfl,?_,?_⟩,?_⟩
   · intro b off hp
     have hin:MemPlace.cell b off∈before:=by rw [hps];simpa using hp
     rw [hb.frozen (hlt _ hin)]
     exact hz b off hin
   · intro ha
     have:=hn ha
     rw [hps] at this
     simpa using this
   · intro p hp _
     rw [hps]
     simpa using hp
end
section
variable {H:Type} {enc:TypeId × Value->H} {P:Program}
theorem trodAll_stays (hl:laidOutB P=true):∀ (ts:List TypeId),(∀ t∈ts,P.readableRec t=true/\t<P.types.size)->∀ {W W':World} {sp:Nat->Bool} {vs:List Value} {ds:List (DataW H)} {ps:List MemPlace},
  DataW.TrodAll enc P W 0 (fun _=>true) true ts vs ds ps->(∀ p∈ps,W.sameAt W' p)->(∀ p∈ps,sp p.block=true)->DataW.TrodAll enc P W' 0 sp true ts vs ds ps
 | [],_,W,W',sp,vs,ds,ps,h,_,_=>by
   cases vs <;> cases ds <;> simp_all [DataW.TrodAll]
 | t :: ts,ht,W,W',sp,vs,ds,ps,h,hs,hsp=>by
   obtain⟨v,vs',d,ds',p,q,rfl,rfl,rfl,hp,hq⟩:=trodAll_cons h
   have h1:=ht t (by simp)
   refine trodAll_cons_mk (WideElems.Trod_stays hl h1.1 h1.2 hp (fun x hx=>hs x (by simp [hx])) (fun x hx=>hsp x (by simp [hx]))) ?_
   exact trodAll_stays hl ts (fun t' h'=>ht t' (by simp [h'])) hq (fun x hx=>hs x (by simp [hx])) (fun x hx=>hsp x (by simp [hx]))
theorem trodAll_length:∀ (ts:List TypeId) {W:World} {b:Nat} {sp:Nat->Bool} {held:Bool} {vs:List Value} {ds:List (DataW H)} {ps:List MemPlace},DataW.TrodAll enc P W b sp held ts vs ds ps->ds.length=ts.length
 | [],W,b,sp,held,vs,ds,ps,h=>by cases vs <;> cases ds <;> simp_all [DataW.TrodAll]
 | t :: ts,W,b,sp,held,vs,ds,ps,h=>by
   obtain⟨v,vs',d,ds',p,q,rfl,rfl,rfl,hp,hq⟩:=trodAll_cons h
   simp [trodAll_length ts hq]
theorem law_post {f:Func}{s:ChangeSpec}{W W':World}{args:Array Value}{ds gs:List (DataW H)}{before:List MemPlace}{tb:TypeId}
  (hl:laidOutB P=true)(hr:∀ t∈f.params.toList,P.readableRec t=true/\t<P.types.size)(hres:f.resultTypes=#[tb])(htb:P.underlying tb=some .bool)
  (hvars:s.vars=[])(hspec:∀ ds:List (DataW H),ds.length=f.params.size->s.fn H ds={ results:=[.lit (.bool true)],args:=ds })
  (hW:DataW.Whole enc P f.params.toList s.vars false W args.toList ds gs before)(hx:Ext W W') :
  s.post enc P f false true false false W args (.bool true) W':=by
 have hWlt:∀ p∈before,p.block<W.heap.size:=fun p hp=>hW.lt p hp
 obtain⟨p,q,hA,hV,hpq,hfz,hnd⟩:=hW
 rw [hvars] at hV
 have hgs:gs=[]/\q=[]:=trodVars_none hV
 obtain⟨rfl,rfl⟩:=hgs
 have hlen:=trodAll_length _ hA
 have hsp:=hspec ds (by rw [hlen];simp)
 have hb:before=p:=by rw [hpq];simp
 subst hb
 have hn:f.resultTypes.size=1:=by rw [hres];rfl
 have hlo:(Value.bool true).resultList f.resultTypes.size=[Value.bool true]:=by rw [hn];rfl
 have e0:ds++([]:List (DataW H))=ds:=List.append_nil _
 refine post_of_below (pa:=before) (pv:=[]) (ds:=ds) (gs:=[]) ⟨before,[],hA,by rw [hvars];exact hV,hpq,hfz,hnd⟩ ?_ ?_ ?_ hpq hx ?_
 · intro b sp hd
   rw [e0,hsp,hlo,hres]
   exact trodAll_cons_mk (shut_bool htb _) trodAll_mk0
 · intro sp hsp'
   rw [e0,hsp]
   exact trodAll_stays hl _ hr hA (fun p hp=>Below.same hx (hWlt p hp)) hsp'
 · intro sp _
   rw [e0,hsp,hvars]
   rfl
 · intro j t r ht hr'
   rw [hres] at ht
   rw [hlo] at hr'
   cases j with
   | zero =>
     obtain rfl:tb=t:=by simpa using ht
     obtain rfl:Value.bool true=r:=by simpa using hr'
     exact okWide_bool_mk htb _
   | succ j=>simp at ht
end
end Go.Proofs.YtmmmiplmiooioaaGreat
namespace Go.Proofs.YtmmmiplmiooioaaGreat
open Go.ChangeShapes Go.WideShapes Go.ChangeAt Go.RowKit Kv
theorem cell_lt {w:World}{a:Addr}{v:Value}(h:w.cell? a=some v):a.block<w.heap.size:=by
 rcases Nat.lt_or_ge a.block w.heap.size with hlt | hge
 · exact hlt
 · simp [World.cell?,Array.getElem?_eq_none hge] at h
end Go.Proofs.YtmmmiplmiooioaaGreat
namespace Go.Proofs.YtmmmiplmiooioaaGreat
theorem own:ownKnob Tryz.prog.godebug=none:=by kernel_rfl
end Go.Proofs.YtmmmiplmiooioaaGreat
namespace Go.Proofs.YtmmmiplmiooioaaGreat
open Go.RowKit Kv
theorem ints_new (w:World)(l:List Int)(h:l.length<=9223372036854775807):Ints (w.alloc (.cells (l.map (Value.int .i64)).toArray 3)) (.slice (some ⟨w.heap.size,0,none⟩) l.length l.length) l:=by
 refine⟨_,_,rfl,Nat.le_refl _,h,fun _=>⟨w.heap.size,0,rfl,by simp,fun i x hi=>?_⟩⟩
 have hh:=World.alloc_heap_new w (.cells (l.map (Value.int .i64)).toArray 3)
 simp only [World.cell?,hh,Nat.zero_add]
 simp [hi]
def EndAtE (B:Nat) (w w':World) (bg bo:Nat) (v:Value) (d:Bool) (S:TS):Prop :=
 w'.heap[bg]?=some (.cells #[v] 37 (0,0))/\(∃ vC vN vs,w'.heap[bo]?=some (.cells #[.bool d,vC,vN,vs] 46 (0,0))/\Outs w' (.agg #[.bool d,vC,vN,vs]) d S/\(∀ b,vs.ownBlock=some b->B<=b))/\Below B w w'
set_option maxRecDepth 100000 in
set_option maxHeartbeats 1000000 in
theorem end_okE (B p:Nat)(S:TS)(bm bg bo:Nat)(v:Value)(w:World)(h:Plays B w p S)(hm:HeldP w p bm (.cells #[.pointer (some ⟨p,0,none⟩)] 36 (0,0)))(hg:HeldP w p bg (.cells #[v] 37 (0,0)))
  (ho:HeldP w p bo (.cells #[.bool false,.slice none 0 0,.slice none 0 0,.slice none 0 0] 46 (0,0)))(hB2:B<=bo) :
  CallsD Tryz.prog 82 #[.pointer (some ⟨bm,0,none⟩),.pointer (some ⟨bg,0,none⟩),.pointer (some ⟨bo,0,none⟩)] .returning w fun e u' w'=>e=.returned (.tuple #[])/\u'=.returning/\EndAtE B w w' bg bo v true S:=by
 obtain⟨h1,vA,vL,vC,vN,L,h⟩:=h
 have hc:=cell_of_heap h.heap
 have hfz:=frozen_of_heap h.heap
 have cm:=hm.cells
 refine callsD_of_wpS Tryz.func82 rfl fun c₀ cs hu=>?_
 simp only [Tryz.ntmps82,List.size_toArray,List.length_cons,List.length_nil,Nat.reduceAdd,Nat.reduceSub,Array.replicate_succ,Array.replicate_zero,List.push_toArray,List.append_toArray,List.nil_append,List.cons_append]
 apply wpS_seq
 refine wpS_of_wp ?_
 go_wp2_with fail
 simp only [Exit.thenS]
 apply wpS_seq
 refine wpS_of_wp ?_
 go_wp2_with fail
 simp only [Exit.thenS]
 obtain⟨HM,HK⟩:=h.state 0
 have hmh:=Lib.hid (hm.keep HK)
 have hgh:=Lib.hid (hg.keep HK).1
 have hoh:=Lib.hid (ho.keep HK)
 have hq:=cell_of_heap HM.heap
 have cm2:=hmh.out.cells
 have HMh:=Lib.hid HM
 have hbel:=Lib.hid HK.below
 clear HM HK hc hfz cm hm hg ho h
 generalize w.setCell ⟨p,0,none⟩ (.int .i64 0)=W at *
 apply wpS_seq
 apply wpS_seq
 apply wpS_region
 simp [wpOpsS,go_sem,recoverD,hu,Exit.thenS]
 refine wpS_of_wp ?_
 go_wp2_with fail
 simp only [Exit.thenS]
 refine wpS_of_wp ?_
 go_wp2_with fail
 have hI:Ints W vL L:=IntRow.ints HMh.out.rowL
 obtain⟨Al,cl,rfl,q1,q2⟩:=hI.slice
 have hIh:=Lib.hid hI
 obtain⟨Ac,cc,rfl,-,-,-⟩:=vals_row HMh.out.rowC
 obtain⟨An,cn,rfl,-,-,-⟩:=vals_row HMh.out.rowN
 have hlen:=HMh.out.locN
 have hplt:=HMh.out.lt
 have hmlt:=hmh.out.lt
 clear hI
 have hpo:p≠bo:=fun e=>hoh.out.2 (.inl e.symm)
 have hmo:bm≠bo:=fun e=>by
  have h1:=hmh.out.1
  rw [e,hoh.out.1] at h1
  injection h1 with h1
  injection h1 with _ h2
  cases h2
 have hlo:(Value.slice Al L.length cl).ownBlock≠some bo:=row_not HMh.out.rowL hoh.out.1 (by decide)
 have hS:∀ w',Near W bo 4 46 w'->((∀ i,w'.cell? ⟨p,i,none⟩=(#[.int .i64 0,vA,.slice Al L.length cl,.slice Ac S.acc.length cc,.slice An S.nts.length cn]:Array Value)[i]?)/\(∀ i,w'.cell? ⟨bm,i,none⟩=(#[.pointer (some ⟨p,0,none⟩)]:Array Value)[i]?)/\(∀ i,w'.cell? ⟨bo,i,none⟩=(#[cellD w' bo 0,cellD w' bo 1,cellD w' bo 2,cellD w' bo 3]:Array Value)[i]?)/\(∀ i,w'.frozen? ⟨bo,i,none⟩=false)/\Near W bo 4 46 w'):=fun w' hx =>
  ⟨fun i=>(hx.cell hplt hpo).trans (hq i),fun i=>(hx.cell hmlt hmo).trans (cm2 i),hx.four,hx.frozen,hx⟩
 have hN:Near W bo 4 46 W:=Near.new hoh.out.1 rfl
 go_region_held2 (fun w'=>(∀ i,w'.cell? ⟨p,i,none⟩=(#[.int .i64 0,vA,.slice Al L.length cl,.slice Ac S.acc.length cc,.slice An S.nts.length cn]:Array Value)[i]?)/\(∀ i,w'.cell? ⟨bm,i,none⟩=(#[.pointer (some ⟨p,0,none⟩)]:Array Value)[i]?)/\(∀ i,w'.cell? ⟨bo,i,none⟩=(#[cellD w' bo 0,cellD w' bo 1,cellD w' bo 2,cellD w' bo 3]:Array Value)[i]?)/\(∀ i,w'.frozen? ⟨bo,i,none⟩=false)/\Near W bo 4 46 w') (first | exact hS _ hN.drew | (refine hS _ ?_;(repeat refine Near.set ?_ _ _);exact hN.drew.ext h2))
  (first
    | (go_at_call 48
       refine (tshort_p Al cl L _ (hIh.out.ext (Ext.refl W).drew) q1 q2 (by omega)).mono ?_
       rintro e w' ⟨v',rfl,h1,h2⟩
       obtain⟨As,cs,rfl,hs1,hs2⟩:=h1.ints.slice))
 have f3:∀ b,(Value.slice As (shortL L).length cs).ownBlock=some b->B<=b:=fun b hb=>by
  have q1:=(h1.lt b hb).1
  have q2:=HMh.out.ge
  have q3:=HMh.out.lt
  rw [World.size_drew] at q1
  omega
 obtain⟨f1,f2⟩:=end_out (d:=true) HMh.out hoh.out.1 ((Ext.refl W).drew.trans h2) h1
 have fg:bg≠bo:=fun e=>by
  have h1:=hgh.out
  rw [e,hoh.out.1] at h1
  injection h1 with h1
  injection h1 with _ h2
  cases h2
 refine⟨rfl,FrameMode.returning,(by cases c₀;simp only at hu;subst hu;rfl),.tuple #[],(by simp [results,Tryz.results82,go_sem]),rfl,rfl,?_,⟨_,_,_,f1,f2,f3⟩,?_⟩
 · rw [heap_setCell_ne _ _ fg,heap_setCell_ne _ _ fg,heap_setCell_ne _ _ fg,heap_setCell_ne _ _ fg]
   exact (Below.block ((Ext.refl W).drew.trans h2) bg (Array.getElem?_eq_some_iff.1 hgh.out).1).trans hgh.out
 · exact ((((hN.drew.ext h2).set _ _).set _ _).set _ _ |>.set _ _).below hbel.out hB2 (by have:=HMh.out.ge;omega)
set_option maxRecDepth 100000 in
set_option maxHeartbeats 1000000 in
theorem end_stopE (B p:Nat)(S:TS)(bm bg bo:Nat)(v:Value)(older:List PanicEntry)(w:World)(h:Stops B w p S)(hm:HeldP w p bm (.cells #[.pointer (some ⟨p,0,none⟩)] 36 (0,0)))(hg:HeldP w p bg (.cells #[v] 37 (0,0)))
  (ho:HeldP w p bo (.cells #[.bool false,.slice none 0 0,.slice none 0 0,.slice none 0 0] 46 (0,0)))(hB1:B<=bg)(hB2:B<=bo) :
  CallsD Tryz.prog 82 #[.pointer (some ⟨bm,0,none⟩),.pointer (some ⟨bg,0,none⟩),.pointer (some ⟨bo,0,none⟩)] (.panicking ({ v:=.iface 90 (.agg #[.pointer (some ⟨p,0,none⟩)]),recovered:=false } :: older)) w fun e u' w' =>
   e=.returned (.tuple #[])/\u'=.panicking ({ v:=.iface 90 (.agg #[.pointer (some ⟨p,0,none⟩)]),recovered:=true } :: older)/\EndAtE B w w' bg bo (.int .i64 0) false S:=by
 obtain⟨vA,vL,vC,vN,L,h⟩:=h
 have hc:=cell_of_heap h.heap
 have hfz:=frozen_of_heap h.heap
 have cm:=hm.cells
 refine callsD_of_wpS Tryz.func82 rfl fun c₀ cs hu=>?_
 simp only [Tryz.ntmps82,List.size_toArray,List.length_cons,List.length_nil,Nat.reduceAdd,Nat.reduceSub,Array.replicate_succ,Array.replicate_zero,List.push_toArray,List.append_toArray,List.nil_append,List.cons_append]
 apply wpS_seq
 refine wpS_of_wp ?_
 go_wp2_with fail
 simp only [Exit.thenS]
 apply wpS_seq
 refine wpS_of_wp ?_
 go_wp2_with fail
 simp only [Exit.thenS]
 obtain⟨HM,HK⟩:=h.state 0
 have hm2:=hm.keep HK
 have hg2:=hg.keep HK
 have ho2:=ho.keep HK
 clear hc hfz cm hm hg ho h
 generalize w.setCell ⟨p,0,none⟩ (.int .i64 0)=W0 at *
 have hX:=(Ext.refl W0).alloc (.cells #[.agg #[.pointer (some ⟨p,0,none⟩)]] 90)
 have hq0:=cell_of_heap HM.heap
 have cm0:=hm2.cells
 have hqa:Hid (∀ O,∀ i,(W0.alloc O).cell? ⟨bm,i,none⟩=(#[.pointer (some ⟨p,0,none⟩)]:Array Value)[i]?):=Lib.hid fun O i=>(((Ext.refl W0).alloc O).cell (p:=⟨bm,i,none⟩) hm2.lt).trans (hm2.cells i)
 have cma:=hqa.out
 have fga:=frozen_of_heap hg2.1
 have cg0:=hg2.cells
 have W0lt:=hg2.lt
 have fgb:Hid (∀ O i,(W0.alloc O).frozen? ⟨bg,i,none⟩=false):=Lib.hid fun O i=>frozen_of_heap ((Below.block ((Ext.refl W0).alloc O) bg hg2.lt).trans hg2.1) i
 have cgb:Hid (∀ O i,(W0.alloc O).cell? ⟨bg,i,none⟩=(#[v]:Array Value)[i]?):=Lib.hid fun O i=>(((Ext.refl W0).alloc O).cell (p:=⟨bg,i,none⟩) hg2.lt).trans (hg2.cells i)
 have fgb':=fgb.out
 have cgb':=cgb.out
 have HMh0:=Lib.hid HM
 have HKh:=Lib.hid HK
 have hmh0:=Lib.hid hm2
 have hgh0:=Lib.hid hg2
 have hoh0:=Lib.hid ho2
 clear HM HK hm2 hg2 ho2
 apply wpS_seq
 apply wpS_seq
 apply wpS_region
 simp [wpOpsS,go_sem,recoverD,hu,Exit.thenS]
 refine wpS_of_wp ?_
 go_wp2_with fail
 simp only [Exit.thenS]
 refine wpS_of_wp ?_
 go_wp2_with fail
 have hgp:=hgh0.out.2
 have hmg:bm≠bg:=fun e=>by
  have h1:=hmh0.out.1
  rw [e,hgh0.out.1] at h1
  injection h1 with h1
  injection h1 with _ h2
  cases h2
 have hog:bo≠bg:=fun e=>by
  have h1:=hoh0.out.1
  rw [e,hgh0.out.1] at h1
  injection h1 with h1
  injection h1 with _ h2
  cases h2
 have HM1:=HMh0.out.setO hgp hB1 0 (.int .i64 0)
 have hm1:=hmh0.out.setO hmg hgp 0 (.int .i64 0)
 have ho1:=hoh0.out.setO hog hgp 0 (.int .i64 0)
 have hg1:=heap_setCell (i:=0) hgh0.out.1 (.int .i64 0)
 have hb1:Below B w (W0.setCell ⟨bg,0,none⟩ (.int .i64 0)):=Below.setCell HKh.out.below (by show B<=bg;exact hB1) _
 have HMh:=Lib.hid (HM1.ext ((Ext.refl _).alloc (.cells #[.pointer (some ⟨p,0,none⟩)] 90)))
 have hmh:=Lib.hid (hm1.alloc (.cells #[.pointer (some ⟨p,0,none⟩)] 90) HM1.lt)
 have hoh:=Lib.hid (ho1.alloc (.cells #[.pointer (some ⟨p,0,none⟩)] 90) HM1.lt)
 have hgh:=Lib.hid ((Below.block ((Ext.refl _).alloc (.cells #[.pointer (some ⟨p,0,none⟩)] 90)) bg (Array.getElem?_eq_some_iff.1 hg1).1).trans hg1)
 have hbel:=Lib.hid (Below.alloc hb1 (by have:=HM1.ge;have:=HM1.lt;omega) (.cells #[.pointer (some ⟨p,0,none⟩)] 90))
 clear hX hq0 cm0 hqa cma fga cg0 fgb cgb fgb' cgb' HMh0 hmh0 hgh0 hoh0 HKh HM1 hm1 ho1 hg1 hb1 hgp W0lt
 generalize (World.alloc (W0.setCell ⟨bg,0,none⟩ (.int .i64 0)) (.cells #[.pointer (some ⟨p,0,none⟩)] 90))=W at *
 have hq:=cell_of_heap HMh.out.heap
 have cm2:=hmh.out.cells
 have hI:Ints W vL L:=IntRow.ints HMh.out.rowL
 obtain⟨Al,cl,rfl,q1,q2⟩:=hI.slice
 have hIh:=Lib.hid hI
 obtain⟨Ac,cc,rfl,-,-,-⟩:=vals_row HMh.out.rowC
 obtain⟨An,cn,rfl,-,-,-⟩:=vals_row HMh.out.rowN
 have hlen:=HMh.out.locN
 have hplt:=HMh.out.lt
 have hmlt:=hmh.out.lt
 clear hI
 have hpo:p≠bo:=fun e=>hoh.out.2 (.inl e.symm)
 have hmo:bm≠bo:=fun e=>by
  have h1:=hmh.out.1
  rw [e,hoh.out.1] at h1
  injection h1 with h1
  injection h1 with _ h2
  cases h2
 have hlo:(Value.slice Al L.length cl).ownBlock≠some bo:=row_not HMh.out.rowL hoh.out.1 (by decide)
 have hS:∀ w',Near W bo 4 46 w'->((∀ i,w'.cell? ⟨p,i,none⟩=(#[.int .i64 0,vA,.slice Al L.length cl,.slice Ac S.acc.length cc,.slice An S.nts.length cn]:Array Value)[i]?)/\(∀ i,w'.cell? ⟨bm,i,none⟩=(#[.pointer (some ⟨p,0,none⟩)]:Array Value)[i]?)/\(∀ i,w'.cell? ⟨bo,i,none⟩=(#[cellD w' bo 0,cellD w' bo 1,cellD w' bo 2,cellD w' bo 3]:Array Value)[i]?)/\(∀ i,w'.frozen? ⟨bo,i,none⟩=false)/\Near W bo 4 46 w'):=fun w' hx =>
  ⟨fun i=>(hx.cell hplt hpo).trans (hq i),fun i=>(hx.cell hmlt hmo).trans (cm2 i),hx.four,hx.frozen,hx⟩
 have hN:Near W bo 4 46 W:=Near.new hoh.out.1 rfl
 go_region_held2 (fun w'=>(∀ i,w'.cell? ⟨p,i,none⟩=(#[.int .i64 0,vA,.slice Al L.length cl,.slice Ac S.acc.length cc,.slice An S.nts.length cn]:Array Value)[i]?)/\(∀ i,w'.cell? ⟨bm,i,none⟩=(#[.pointer (some ⟨p,0,none⟩)]:Array Value)[i]?)/\(∀ i,w'.cell? ⟨bo,i,none⟩=(#[cellD w' bo 0,cellD w' bo 1,cellD w' bo 2,cellD w' bo 3]:Array Value)[i]?)/\(∀ i,w'.frozen? ⟨bo,i,none⟩=false)/\Near W bo 4 46 w') (first | exact hS _ hN.drew | (refine hS _ ?_;(repeat refine Near.set ?_ _ _);exact hN.drew.ext h2))
  (first
    | (go_at_call 48
       refine (tshort_p Al cl L _ (hIh.out.ext (Ext.refl W).drew) q1 q2 (by omega)).mono ?_
       rintro e w' ⟨v',rfl,h1,h2⟩
       obtain⟨As,cs,rfl,hs1,hs2⟩:=h1.ints.slice))
 have f3:∀ b,(Value.slice As (shortL L).length cs).ownBlock=some b->B<=b:=fun b hb=>by
  have q1:=(h1.lt b hb).1
  have q2:=HMh.out.ge
  have q3:=HMh.out.lt
  rw [World.size_drew] at q1
  omega
 obtain⟨f1,f2⟩:=end_out (d:=false) HMh.out hoh.out.1 ((Ext.refl W).drew.trans h2) h1
 have fg:bg≠bo:=fun e=>by
  have h1:=hgh.out
  rw [e,hoh.out.1] at h1
  injection h1 with h1
  injection h1 with _ h2
  cases h2
 refine⟨rfl,FrameMode.panicking ({ v:=.iface 90 (.agg #[.pointer (some ⟨p,0,none⟩)]),recovered:=true } :: older),(by cases c₀;simp only at hu;subst hu;rfl),.tuple #[],(by simp [results,Tryz.results82,go_sem]),rfl,rfl,?_,⟨_,_,_,f1,f2,f3⟩,?_⟩
 · rw [heap_setCell_ne _ _ fg,heap_setCell_ne _ _ fg,heap_setCell_ne _ _ fg,heap_setCell_ne _ _ fg]
   exact (Below.block ((Ext.refl W).drew.trans h2) bg (Array.getElem?_eq_some_iff.1 hgh.out).1).trans hgh.out
 · exact ((((hN.drew.ext h2).set _ _).set _ _).set _ _ |>.set _ _).below hbel.out hB2 (by have:=HMh.out.ge;omega)
set_option maxRecDepth 100000 in
set_option maxHeartbeats 1000000 in
theorem play_errB (f:FuncId)(cap:Array Value)(T:Prog Int)(Al:Option Addr)(cl:Nat)(L:List Int)(Aa:Option Addr)(ca:Nat)(ans:List Int)(w:World)(h:Ints w (.slice Al L.length cl) L)(hl:L.length<=32768)(ha:Ints w (.slice Aa ans.length ca) ans)(hn:ans.length<=maxAns)
  (hb:∀ b,(Value.slice Aa ans.length ca).ownBlock=some b->b<w.heap.size)
  (hcf:∀ (args:Array Value) (w:World),(callFunc f args).run Tryz.prog w=.ok (.enter f args) w)
  (hdo:∀ w1 p,Ext w w1->Plays w.heap.size w1 p (TS0 L ans)->Calls Tryz.prog f (#[.pointer (some ⟨p,0,none⟩)]++cap) w1 (Post encI w.heap.size p w1 (T.run (TS0 L ans)))) :
  Calls Tryz.prog 34 #[.func (.func f) #[] cap,.slice Al L.length cl,.slice Aa ans.length ca] w fun e w'=>∃ v,e=.returned (.tuple #[.int .i64 ((T.run (TS0 L ans)).1.getD 0),v])/\Outs w' v (T.run (TS0 L ans)).1.isSome (T.run (TS0 L ans)).2/\(∃ d vC vN vs,v=.agg #[.bool d,vC,vN,vs]/\∀ b,vs.ownBlock=some b->w.heap.size<=b)/\Ext w w':=by
 obtain⟨q1,q2⟩:L.length<=cl/\cl<=9223372036854775807:=by
  obtain⟨A',c',he,q1,q2,_⟩:=h
  injection he with e1 e2 e3
  subst e3
  exact⟨q1,q2⟩
 generalize hR:(fun e w'=>∃ v,e=Ending.returned (.tuple #[.int .i64 ((T.run (TS0 L ans)).1.getD 0),v])/\Outs w' v (T.run (TS0 L ans)).1.isSome (T.run (TS0 L ans)).2/\(∃ d vC vN vs,v=.agg #[.bool d,vC,vN,vs]/\∀ b,vs.ownBlock=some b->w.heap.size<=b)/\Ext w w')=R
 have hfin:∀ v w',Outs w' v (T.run (TS0 L ans)).1.isSome (T.run (TS0 L ans)).2->(∃ d vC vN vs,v=.agg #[.bool d,vC,vN,vs]/\∀ b,vs.ownBlock=some b->w.heap.size<=b)->Ext w w'->R (.returned (.tuple #[.int .i64 ((T.run (TS0 L ans)).1.getD 0),v])) w':=fun v w' h1 h3 h2=>hR▸⟨v,rfl,h1,h3,h2⟩
 clear hR
 have hmf:∀ (fn:Fn) (first cap:Array Value) (w:World),(Instr.makeFunc fn first cap).run Tryz.prog w=.ok (.func fn first cap) w:=fun _ _ _ _=>rfl
 go_enter_defers Tryz.func34,Tryz.ntmps34
 go_wp2_with fail
 obtain⟨hx,g1,g2,g3,g4⟩:=four_boxes w (.cells #[.int .i64 0] 37) (.cells #[.bool false,.slice none 0 0,.slice none 0 0,.slice none 0 0] 46) (.cells #[.int .i64 1,.slice Aa ans.length ca,.slice none 0 0,.slice none 0 0,.slice none 0 0] 87) (.cells #[.pointer (some ⟨w.heap.size+1+1,0,none⟩)] 36)
 generalize hW:World.alloc (World.alloc (World.alloc (World.alloc w _) _) _) _=W at *
 clear hW
 have hI:=h.ext hx
 have cm:=cell_of_heap g4
 have hN:Near W (w.heap.size+1+1) 5 87 W:=Near.new g3 rfl
 have hmlt:=(Array.getElem?_eq_some_iff.1 g4).1
 have hmin:min (L.length:Int) 32768=(L.length:Int):=by omega
 have hS:∀ w',Near W (w.heap.size+1+1) 5 87 w'->((∀ i,w'.cell? ⟨w.heap.size+1+1+1,i,none⟩=(#[.pointer (some ⟨w.heap.size+1+1,0,none⟩)]:Array Value)[i]?)/\(∀ i,w'.cell? ⟨w.heap.size+1+1,i,none⟩=(#[cellD w' (w.heap.size+1+1) 0,cellD w' (w.heap.size+1+1) 1,cellD w' (w.heap.size+1+1) 2,cellD w' (w.heap.size+1+1) 3,cellD w' (w.heap.size+1+1) 4]:Array Value)[i]?)/\(∀ i,w'.frozen? ⟨w.heap.size+1+1,i,none⟩=false)):=fun w' hx =>
  ⟨fun i=>(hx.cell hmlt (by omega)).trans (cm i),hx.five,hx.frozen⟩
 go_region_held3 (fun w'=>(∀ i,w'.cell? ⟨w.heap.size+1+1+1,i,none⟩=(#[.pointer (some ⟨w.heap.size+1+1,0,none⟩)]:Array Value)[i]?)/\(∀ i,w'.cell? ⟨w.heap.size+1+1,i,none⟩=(#[cellD w' (w.heap.size+1+1) 0,cellD w' (w.heap.size+1+1) 1,cellD w' (w.heap.size+1+1) 2,cellD w' (w.heap.size+1+1) 3,cellD w' (w.heap.size+1+1) 4]:Array Value)[i]?)/\(∀ i,w'.frozen? ⟨w.heap.size+1+1,i,none⟩=false)) (first | exact hS _ hN.drew | (refine hS _ ?_;(repeat refine Near.set ?_ _ _);exact hN.drew.ext h2))
  (first
    | (go_at_call 46
       refine (clone_any Al cl L _ (hI.ext (Ext.refl W).drew) (by omega)).mono ?_
       rintro e w' ⟨v',rfl,h1,h2⟩
       obtain⟨As,cs,rfl,hs1,hs2⟩:=h1.ints.slice))
 obtain⟨hP,hH,hE⟩:=play_start (p:=w.heap.size+1+1) hx (by omega) g3 ((Ext.refl W).drew.trans h2) h1 hl ha hn hb
 have hbg:=hH _ _ g1 (by omega)
 have hbo:=hH _ _ g2 (by omega)
 have hbm:=hH _ _ g4 (by omega)
 clear hH g1 g2 g3 g4 hS hN h1 h2 hI cm hmin hmlt
 rename_i hh
 clear hh
 have hT:=hdo _ _ hE hP
 clear hdo
 generalize World.setCell _ _ _=W2 at *
 have cbm:=hbm.cells
 have hnf:(binOp .neq 78 (.func (.func f) #[] cap) .nilFunc).run Tryz.prog W2=.ok (.bool true) W2:=by kernel_rfl
 go_wp2_with fail
 generalize hr:T.run (TS0 L ans)=r at hT hfin
 obtain⟨o,S⟩:=r
 clear hr
 cases o with
 | some a =>
   refine hT.mono ?_
   rintro e w3 ⟨rfl,hP3,hK3⟩
   have hbg3:=hbg.keep hK3
   have hbo3:=hbo.keep hK3
   have hbm3:=hbm.keep hK3
   have hE3:Ext w w3:=Below.trans hE hK3.below
   clear hbg hbo hbm hE hK3 hT hP cbm hnf
   have cbg:=hbg3.cells
   have fbg:=frozen_of_heap hbg3.1
   have cbo:=hbo3.cells
   have fbo:=frozen_of_heap hbo3.1
   go_wp2_with fail
   have fgo:w.heap.size≠w.heap.size+1:=by omega
   have hg4:=heap_setCell (i:=0) hbg3.1 (.int .i64 a)
   have hP4:Plays w.heap.size (w3.setCell ⟨w.heap.size,0,none⟩ (.int .i64 a)) (w.heap.size+1+1) S:=by
    obtain⟨q,vA,vL,vC,vN,L',hM⟩:=hP3
    exact⟨q,vA,vL,vC,vN,L',hM.setO hbg3.2 (Nat.le_refl _) _ _⟩
   have hbm4:=hbm3.setO (b:=w.heap.size) (by omega) hbg3.2 0 (.int .i64 a)
   have hbo4:=hbo3.setO (b:=w.heap.size) (by omega) hbg3.2 0 (.int .i64 a)
   have hbg4:HeldP (w3.setCell ⟨w.heap.size,0,none⟩ (.int .i64 a)) (w.heap.size+1+1) w.heap.size (.cells #[.int .i64 a] 37 (0,0)):=⟨hg4,fun h'=>hbg3.2 ((ownR_same (heap_setCell_ne _ _ (by omega)) _).1 h')⟩
   have hE4:Ext w (w3.setCell ⟨w.heap.size,0,none⟩ (.int .i64 a)):=hE3.setCell (Nat.le_refl _) _
   clear hP3 hbg3 hbo3 hbm3 hE3 cbg fbg cbo fbo hg4
   generalize World.setCell _ _ _=w4 at *
   generalize hbq:w.heap.size+1=bo at hbm4 hbo4 hP4 ⊢
   have fgo1:w.heap.size≠bo:=by omega
   have fgo2:bo≠w.heap.size:=by omega
   clear fgo
   have cbg:=hbg4.cells
   have fbg:=frozen_of_heap hbg4.1
   have cbo:=hbo4.cells
   have fbo:=frozen_of_heap hbo4.1
   go_region
   all_goals
    generalize hW5:World.drew _=W5
    have hsm:SameW w4 W5:=by
     rw [<- hW5]
     repeat first | with_reducible exact SameW.refl _ | with_reducible refine SameW.drew2 ?_ | refine SameW.set ?_ hbg4.1 rfl | refine SameW.set ?_ hbo4.1 rfl
    clear hW5 cbg fbg cbo fbo
    have hP5:=hP4.ext hsm.ext
    have hbm5:=hbm4.ext hsm.ext hP4.lt
    have hbg5:=hbg4.ext hsm.ext (by rw [hbq];exact hP4.lt)
    have hbo5:=hbo4.ext hsm.ext hP4.lt
    have hE5:Ext w W5:=hE4.trans hsm.ext
    clear hP4 hbm4 hbg4 hbo4 hE4 hsm
    go_wp2_with fail
    refine leaves_cons (f:=82) (args:=#[.pointer (some ⟨bo+1+1,0,none⟩),.pointer (some ⟨w.heap.size,0,none⟩),.pointer (some ⟨bo,0,none⟩)]) (by simp) (by simp [go_sem]) ?_
    refine (end_okE w.heap.size _ S _ _ _ _ _ hP5 hbm5 (by rw [<- hbq];exact hbg5) hbo5 (by omega)).mono ?_
    rintro e u' w4 ⟨rfl,rfl,hg,⟨vC,vN,vs,ho,hO,hvs⟩,hB⟩
    have cg:=cell_of_heap hg
    have co:=cell_of_heap ho
    have cg0:=cg 0
    have co0:=co 0
    have co1:=co 1
    have co2:=co 2
    have co3:=co 3
    refine⟨.tuple #[.int .i64 a,.agg #[.bool true,vC,vN,vs]],?_,hfin _ _ hO ⟨_,vC,vN,vs,rfl,hvs⟩ (Below.trans hE5 hB)⟩
    simp [results,Tryz.results34,go_sem,cg0,co0,co1,co2,co3]
 | none =>
   refine hT.mono ?_
   rintro e w3 ⟨rfl,hP3,hK3⟩
   have hbg3:=hbg.keep hK3
   have hbo3:=hbo.keep hK3
   have hbm3:=hbm.keep hK3
   have hE3:Ext w w3:=Below.trans hE hK3.below
   clear hbg hbo hbm hE hK3 hT hP cbm hnf
   refine leaves_cons (f:=82) (args:=#[.pointer (some ⟨w.heap.size+1+1+1,0,none⟩),.pointer (some ⟨w.heap.size,0,none⟩),.pointer (some ⟨w.heap.size+1,0,none⟩)]) (by simp) (by simp [go_sem]) ?_
   refine (end_stopE w.heap.size _ S _ _ _ _ [] _ hP3 hbm3 hbg3 hbo3 (Nat.le_refl _) (by omega)).mono ?_
   rintro e u' w4 ⟨rfl,rfl,hg,⟨vC,vN,vs,ho,hO,hvs⟩,hB⟩
   have cg:=cell_of_heap hg
   have co:=cell_of_heap ho
   have cg0:=cg 0
   have co0:=co 0
   have co1:=co 1
   have co2:=co 2
   have co3:=co 3
   refine⟨.tuple #[.int .i64 0,.agg #[.bool false,vC,vN,vs]],?_,hfin _ _ hO ⟨_,vC,vN,vs,rfl,hvs⟩ (Below.trans hE3 hB)⟩
   simp [results,Tryz.results34,go_sem,cg0,co0,co1,co2,co3]
theorem play_err (f:FuncId)(cap:Array Value)(T:Prog Int)(Al:Option Addr)(cl:Nat)(L:List Int)(Aa:Option Addr)(ca:Nat)(ans:List Int)(w:World)(h:Ints w (.slice Al L.length cl) L)(hl:L.length<=32768)(ha:Ints w (.slice Aa ans.length ca) ans)(hn:ans.length<=maxAns)
  (hb:∀ b,(Value.slice Aa ans.length ca).ownBlock=some b->b<w.heap.size)
  (hcf:∀ (args:Array Value) (w:World),(callFunc f args).run Tryz.prog w=.ok (.enter f args) w)
  (hdo:∀ w1 p,Ext w w1->Plays w.heap.size w1 p (TS0 L ans)->Calls Tryz.prog f (#[.pointer (some ⟨p,0,none⟩)]++cap) w1 (Post encI w.heap.size p w1 (T.run (TS0 L ans)))) :
  Calls Tryz.prog 34 #[.func (.func f) #[] cap,.slice Al L.length cl,.slice Aa ans.length ca] w fun e w'=>∃ v,e=.returned (.tuple #[.int .i64 ((T.run (TS0 L ans)).1.getD 0),v])/\Outs w' v (T.run (TS0 L ans)).1.isSome (T.run (TS0 L ans)).2/\Ext w w' :=
 (play_errB f cap T Al cl L Aa ca ans w h hl ha hn hb hcf hdo).mono fun _ _ ⟨v,he,ho,_,hx⟩=>⟨v,he,ho,hx⟩
end Go.Proofs.YtmmmiplmiooioaaGreat
namespace Kv
def TameA (S:TS):Prop:=∀ v∈S.ans,0<=v/\v<=1048576
theorem TameA.run {α:Type}{S S':TS}{p:Prog α}{a:Option α}(h:TameA S)(hr:p.run S=(a,S')):TameA S':=by
 have:=Prog.run_ans p S
 rw [hr] at this
 unfold TameA
 rw [this]
 exact h
def zeroC (c:Int):Nat->Prog Unit
 | 0=>.ret ()
 | n+1=>(rd c).bind fun x=>if x=0 then .ret () else zeroC c n
theorem zeroC_bind {β:Type}(c:Int)(n:Nat)(f:Unit->Prog β):(zeroC c (n+1)).bind f=(rd c).bind fun x=>if x=0 then f () else (zeroC c n).bind f:=by
 rw [show zeroC c (n+1)=(rd c).bind fun x=>if x=0 then .ret () else zeroC c n from rfl,Prog.bind_assoc]
 congr 1
 funext x
 split <;> rfl
theorem notes_zeroC (c:Int):∀ n:Nat,(zeroC c n).Notes 0
 | 0=>.ret _ _
 | n+1=>by
   rw [show zeroC c (n+1)=(rd c).bind fun x=>if x=0 then .ret () else zeroC c n from rfl]
   refine (notes_rd _).bind0 fun x=>?_
   split
   · exact .ret _ _
   · exact notes_zeroC c n
def oneUp (D:Nat) (base:Int) (me:Nat):Nat->Nat->Prog Unit
 | 0,_=>.ret ()
 | f+1,j=>if j<me then (rd (base+j)).bind fun x=>if x=0 then oneUp D base me f (j+1) else
    (wr (base+me) 0).bind fun _=>(zeroC (base+j) D).bind fun _=>(wr (base+me) 1).bind fun _=>oneUp D base me f 0
   else .ret ()
def oneA (D:Nat) (base:Int) (n me:Nat):Prog Int :=
 (nt 1).bind fun _=>(wr (base+me) 1).bind fun _=>(oneUp D base me D 0).bind fun _=>(nt 2).bind fun _ =>
   (forP (fun j _=>zeroC (base+j) D) (ranksFrom (-1) (n-1-me) ((me:Int)+1)) ()).bind fun _=>(nt 3).bind fun _=>.ret 0
def oneR (base me:Int):Prog Unit:=(nt 5).bind fun _=>wr (base+me) 0
theorem oneUp_lt {β:Type}(D:Nat)(base:Int)(me f j:Nat)(h:j<me)(F:Unit->Prog β):(oneUp D base me (f+1) j).bind F=(rd (base+j)).bind fun x=>if x=0 then (oneUp D base me f (j+1)).bind F else
  (wr (base+me) 0).bind fun _=>(zeroC (base+j) D).bind fun _=>(wr (base+me) 1).bind fun _=>(oneUp D base me f 0).bind F:=by
 rw [show oneUp D base me (f+1) j=if j<me then (rd (base+j)).bind fun x=>if x=0 then oneUp D base me f (j+1) else
   (wr (base+me) 0).bind fun _=>(zeroC (base+j) D).bind fun _=>(wr (base+me) 1).bind fun _=>oneUp D base me f 0
  else .ret () from rfl,if_pos h,Prog.bind_assoc]
 congr 1
 funext x
 split
 · rfl
 · simp only [Prog.bind_assoc]
theorem oneUp_ge {β:Type}(D:Nat)(base:Int)(me f:Nat)(F:Unit->Prog β):(oneUp D base me f me).bind F=F ():=by
 cases f with
 | zero=>rfl
 | succ f =>
   rw [show oneUp D base me (f+1) me=if me<me then (rd (base+me)).bind fun x=>if x=0 then oneUp D base me f (me+1) else
    (wr (base+me) 0).bind fun _=>(zeroC (base+me) D).bind fun _=>(wr (base+me) 1).bind fun _=>oneUp D base me f 0
   else .ret () from rfl,if_neg (Nat.lt_irrefl _)]
   rfl
end Kv
namespace Kv
open Go
def Fr:Nat->(List Value->Prop)->Prop
 | 0,G=>G []
 | n+1,G=>∀ u:Value,Fr n fun l=>G (u :: l)
theorem fr_list:∀ (n:Nat) (G:List Value->Prop),Fr n G->∀ l:List Value,l.length=n->G l
 | 0,G,h,[],_=>h
 | n+1,G,h,u :: l,hl=>fr_list n (fun l=>G (u :: l)) (h u) l (by simpa using hl)
theorem fr_act (n:Nat)(G:Act->Prop)(h:Fr n fun l=>G ⟨l.toArray,[]⟩)(a:Act)(hd:a.defers=[])(hs:a.tmps.size=n):G a:=by
 obtain⟨⟨l⟩,d⟩:=a
 obtain rfl:d=[]:=hd
 exact fr_list n (fun l=>G ⟨l.toArray,[]⟩) h l (by simpa using hs)
def Jumps (J:Nat->Act->World->Prop) (Q:Exit->Act->World->Prop):Exit->Act->World->Prop
 | .goto l,a,w=>J l a w
 | e,a,w=>Q e a w
section
variable {P:Program} {a:Act} {w:World} {J:Nat->Act->World->Prop} {Q:Exit->Act->World->Prop}
@[go_sem] theorem jumps_normal:Jumps J Q .normal a w=Q .normal a w:=rfl
@[go_sem] theorem jumps_exit (id:Nat):Jumps J Q (.exit id) a w=Q (.exit id) a w:=rfl
@[go_sem] theorem jumps_ret:Jumps J Q .ret a w=Q .ret a w:=rfl
@[go_sem] theorem jumps_panic (c:List PanicEntry):Jumps J Q (.panic c) a w=Q (.panic c) a w:=rfl
@[go_sem] theorem jumps_goto (l:Nat):Jumps J Q (.goto l) a w=J l a w:=rfl
theorem wp_scope_labels {c:Code}(J:Nat->Act->World->Prop)(μ:Nat->Act->World->Nat)(first:c.wp P (Jumps J Q) a w)
  (pass:∀ l a w,J l a w->∃ rest,findLabel c l=some rest/\rest.wp P (Jumps (fun l' a' w'=>J l' a' w'/\μ l' a' w'<μ l a w) Q) a w):(Code.scope c).wp P Q a w:=by
 intro b k cs
 have key:∀ n l a w rest,findLabel c l=some rest->μ l a w=n->J l a w->∃ e a' w',Q e a' w'/\Arrives P (lone (b.at a (.code rest :: .inScope c :: k)) cs w) b k cs e a' w':=by
  intro n
  induction n using Nat.strongRecOn with
  | _ n ih =>
    intro l a w rest hf hn hJ
    obtain⟨rest',hf',hp⟩:=pass l a w hJ
    obtain rfl:rest=rest':=by rw [hf] at hf';injection hf'
    obtain⟨e,a₁,w₁,hq,harr⟩:=hp b (.inScope c :: k) cs
    cases e with
    | normal=>exact⟨.normal,a₁,w₁,hq,Steps.trans harr (.one step_inScope)⟩
    | exit id=>exact⟨.exit id,a₁,w₁,hq,fun k' hk=>harr k' (by simp [exitTo,hk])⟩
    | goto l' =>
      obtain⟨hJ',hlt⟩:=hq
      obtain⟨rest2,hf2,_⟩:=pass l' a₁ w₁ hJ'
      have hg:gotoIn l' (.inScope c :: k)=some (.code rest2 :: .inScope c :: k):=by simp [gotoIn,hf2]
      obtain⟨e₂,a₂,w₂,hq₂,harr₂⟩:=ih _ (by omega) l' a₁ w₁ rest2 hf2 rfl hJ'
      exact⟨e₂,a₂,w₂,hq₂,.of_steps (harr _ hg) harr₂⟩
    | ret=>exact⟨_,a₁,w₁,hq,harr⟩
    | panic ch=>exact⟨_,a₁,w₁,hq,harr⟩
    | outgrown=>exact⟨_,a₁,w₁,hq,harr⟩
 obtain⟨e,a₁,w₁,hq,harr⟩:=first b (.inScope c :: k) cs
 cases e with
 | normal=>exact⟨.normal,a₁,w₁,hq,.head step_scope (Steps.trans harr (.one step_inScope))⟩
 | exit id=>exact⟨.exit id,a₁,w₁,hq,fun k' hk=>.head step_scope (harr k' (by simp [exitTo,hk]))⟩
 | goto l' =>
   obtain⟨rest2,hf2,_⟩:=pass l' a₁ w₁ hq
   have hg:gotoIn l' (.inScope c :: k)=some (.code rest2 :: .inScope c :: k):=by simp [gotoIn,hf2]
   obtain⟨e₂,a₂,w₂,hq₂,harr₂⟩:=key _ l' a₁ w₁ rest2 hf2 rfl hq
   exact⟨e₂,a₂,w₂,hq₂,.of_steps (.head step_scope (harr _ hg)) harr₂⟩
 | ret=>exact⟨_,a₁,w₁,hq,.of_steps (.one step_scope) harr⟩
 | panic ch=>exact⟨_,a₁,w₁,hq,.of_steps (.one step_scope) harr⟩
 | outgrown=>exact⟨_,a₁,w₁,hq,.of_steps (.one step_scope) harr⟩
theorem wp_scope_fall {c:Code}(J:Nat->Act->World->Prop)(μ:Nat->Act->World->Nat)
  (pass:∀ l a w,J l a w->∃ rest,findLabel c l=some (.seq .skip rest)/\rest.wp P (Jumps (fun l' a' w'=>J l' a' w'/\μ l' a' w'<μ l a w) Q) a w)
  (first:(∀ l rest a w,findLabel c l=some (.seq .skip rest)->J l a w->rest.wp P (Jumps J Q) a w)->c.wp P (Jumps J Q) a w):(Code.scope c).wp P Q a w:=by
 refine wp_scope_labels J μ (first fun l rest a w hf hJ=>?_) fun l a w hJ=>?_
 · obtain⟨rest',hf',hp⟩:=pass l a w hJ
   obtain rfl:rest=rest':=by rw [hf] at hf';simpa using hf'
   refine Code.wp_mono (fun e a2 w2 hq=>?_) hp
   cases e with
   | goto l'=>exact hq.1
   | normal=>exact hq
   | exit id=>exact hq
   | ret=>exact hq
   | panic ch=>exact hq
   | outgrown=>exact hq
 · obtain⟨rest,hf,hp⟩:=pass l a w hJ
   exact⟨_,hf,wp_seq (wp_skip hp)⟩
end
end Kv
namespace Kv
end Kv
namespace Go.Proofs.YtmmmiplmiooioaaGreat
open Go.RowKit Kv
theorem tstepA {α β:Type}{B p:Nat}{w0 w:World}{S:TS}{R:Ending->World->Prop}{P:Program}{f:FuncId}{args:Array Value}{K:Ending->World->Prop}{enc:α->Value}{enc':β->Value}{T:Prog α}{g:α->Prog β}{k:Nat}(hN:T.Notes k)
  (hO:Owes R enc' B p w0 ((T.bind g).run S))(hB:KeepP B p w0 w)(h:Calls P f args w (Post enc B p w (T.run S)))(hp:∀ w',R (stopE p) w'->K (stopE p) w')
  (hk:∀ v S1 w1,T.run S=(some v,S1)->S1.left<=S.left->(T.Asks->S1.left<S.left)->S1.nts.length<=S.nts.length+k->Plays B w1 p S1->KeepP B p w w1->KeepP B p w0 w1->Owes R enc' B p w0 ((g v).run S1)->K (.returned (enc v)) w1):Calls P f args w K:=by
 refine tstep hO hB h hp fun v S1 w1 hr hP hk1 hk2 hO1=>hk v S1 w1 hr ?_ (fun ha=>ha.left hr hP.1) ?_ hP hk1 hk2 hO1
 · have:=Prog.run_left T S
   rw [hr] at this
   exact this
 · have:=hN.run S
   rw [hr] at this
   exact this
theorem onethr_p (alg N mode base loc room:Int)(w:World)(h1:1<=N/\N<=8) :
  Calls Tryz.prog 277 #[.agg #[.int .i64 alg,.int .i64 N,.int .i64 mode,.int .i64 base,.int .i64 loc,.int .i64 room]] w fun e w'=>e=.returned (.int .i64 N)/\Ext w w':=by
 have e1:min (max N 1) 8=N:=by omega
 have hX:=Ext.refl w
 have b1:=Blk.new w (.cells #[.int .i64 alg,.int .i64 N,.int .i64 mode,.int .i64 base,.int .i64 loc,.int .i64 room] 27)
 replace hX:=hX.alloc (.cells #[.int .i64 alg,.int .i64 N,.int .i64 mode,.int .i64 base,.int .i64 loc,.int .i64 room] 27)
 have c_b1:=b1.cells
 go_enter Tryz.func277,Tryz.ntmps277
 go_wp2_with fail
 first | go_ret2 | go_ret
 exact⟨rfl,hX⟩
set_option maxRecDepth 100000 in
set_option maxHeartbeats 4000000 in
theorem oneacq_p (B p N D:Nat)(S:TS)(alg mode base loc room:Int)(m:Nat)(w:World)(h:Plays B w p S)(h1:1<=N)(h2:N<=8)(hm1:m<N)(hba:0<=base/\base<=32768)
  (hD:S.left<D)(hn0:S.nts.length<=100000) :
  Calls Tryz.prog 274 #[.pointer (some ⟨p,0,none⟩),.agg #[.int .i64 alg,.int .i64 N,.int .i64 mode,.int .i64 base,.int .i64 loc,.int .i64 room],.int .i64 m] w (Post encI B p w ((oneA D base N m).run S)):=by
 generalize hR:Post encI B p w ((oneA D base N m).run S)=R
 have hO:Owes R encI B p w ((oneA D base N m).run S):=hR▸owes _ _ _ _ _
 clear hR
 obtain⟨b1,hK,hP⟩:=h.entry (.cells #[.int .i64 alg,.int .i64 N,.int .i64 mode,.int .i64 base,.int .i64 loc,.int .i64 room] 27)
 have c_b1:=b1.cells
 clear h
 unfold oneA at hO
 have hth:=fun w=>onethr_p alg N mode base loc room w (by omega)
 have hw2:=IntWalk.i64_in (base+(m:Int)) (by omega)
 have hOh:=Lib.hid hO
 clear hO
 go_enter Tryz.func274,Tryz.ntmps274
 obtain⟨F,hF⟩:∃ F:Unit->Prog Int,F=fun _=>(nt 2).bind fun _=>(forP (fun j _=>zeroC (base+j) D) (ranksFrom (-1) (N-1-m) ((m:Int)+1)) ()).bind fun _=>(nt 3).bind fun _=>.ret 0:=⟨_,rfl⟩
 have hFh:=Lib.hid hF
 have hOh2:Hid (Owes R encI B p w (((nt 1).bind fun _=>(wr (base+m) 1).bind fun _=>(oneUp D base m D 0).bind F).run S)):=by rw [hF];exact hOh
 clear hF hOh
 have hOh:=hOh2
 clear hOh2
 go_wp2_with fail
 generalize w.heap.size=z at *
 obtain⟨J0,hJ0⟩:∃ J0:World->Prop,∀ wr',J0 wr'↔∃ (k:Nat) (S2:TS),Plays B wr' p S2/\KeepP B p w wr'/\HeldP wr' p z (.cells #[.int .i64 alg,.int .i64 N,.int .i64 mode,.int .i64 base,.int .i64 loc,.int .i64 room] 27)/\S2.left<D/\S2.nts.length<=100001/\S2.left<k/\Hid (Owes R encI B p w (((wr (base+m) 1).bind fun _=>(oneUp D base m k 0).bind F).run S2)):=⟨_,fun _=>Iff.rfl⟩
 refine wp_scope_fall (fun l a wr=>a.defers=[]/\a.tmps.size=68/\a.tmps[0]?=some (.pointer (some ⟨p,0,none⟩))/\a.tmps[2]?=some (.int .i64 m)/\a.tmps[4]?=some (.pointer (some ⟨z,0,none⟩))/\a.tmps[7]?=some (.int .i64 N)/\l=0/\J0 wr) (fun _ _ wr=>leftW 1 3 wr p) ?pass ?first
 case first =>
  intro hfall
  refine (fun (hfall:Hid _)=>?_) (Lib.hid hfall)
  go_wp2_with fail
  refine (hth _).mono ?_
  rintro e w1 ⟨rfl,hx⟩
  replace hK:=hK.trans (Keep.of_ext hx hP.lt hP.le)
  replace b1:=b1.ext hx hP.lt
  replace hP:=hP.ext hx
  clear hx c_b1 hth
  go_wp2_with fail
  refine tstepA (notes_nt 1) hOh.out hK (noteO hP (by unfold maxAns;omega)) (fun _ h=>⟨rfl,h⟩) ?_
  clear hOh hK hP
  intro u S1 wn hrun hlf hla hnn hP hk hK hO
  replace hD:=Nat.lt_of_le_of_lt hlf hD
  replace hn0:S1.nts.length<=100001:=by omega
  replace b1:=b1.keep hk
  clear hk hnn hrun
  clear hla hlf
  have hOh:=Lib.hid hO
  clear hO
  go_wp2_with fail
  try refine wp_label ?_
  rename_i hKK
  replace hKK:=Lib.hid hKK
  refine hKK.out _ _ ?_
  exact hfall.out 0 _ _ _ rfl ⟨rfl,rfl,rfl,rfl,rfl,rfl,rfl,(hJ0 _).2 ⟨D,S1,hP,hK,b1,hD,hn0,hD,hOh⟩⟩
 case pass =>
  clear hP hK b1 hOh hD hn0 c_b1 hth
  rintro l a wq ⟨ha,hs,f0,f2,f4,f7,rfl,hrel⟩
  try dsimp only
  refine fr_act 68 (fun a'=>a'.tmps[0]?=some (.pointer (some ⟨p,0,none⟩))->a'.tmps[2]?=some (.int .i64 m)->a'.tmps[4]?=some (.pointer (some ⟨z,0,none⟩))->a'.tmps[7]?=some (.int .i64 N)->∃ rest,findLabel _ 0=some (.seq .skip rest)/\rest.wp _ _ a' wq) ?_ a ha hs f0 f2 f4 f7
  clear f0 f2 f4 f7
  clear ha hs a
  dsimp only [Fr]
  intro u0 u1 u2 u3 u4 u5 u6 u7 u8 u9 u10 u11 u12 u13 u14 u15 u16 u17 u18 u19 u20 u21 u22 u23 u24 u25 u26 u27 u28 u29 u30 u31 u32 u33 u34 u35 u36 u37 u38 u39 u40 u41 u42 u43 u44 u45 u46 u47 u48 u49 u50 u51 u52 u53 u54 u55 u56 u57 u58 u59 u60 u61 u62 u63 u64 u65 u66 u67 f0 f2 f4 f7
  obtain rfl:=Option.some.inj f0
  obtain rfl:=Option.some.inj f2
  obtain rfl:=Option.some.inj f4
  obtain rfl:=Option.some.inj f7
  clear f0 f2 f4 f7
  rw [hJ0] at hrel
  obtain⟨k,S2,hP,hK,b1,hD,hn0,hkk,hOh⟩:=hrel
  refine⟨_,rfl,?_⟩
  have hlw:=Lib.hid hP.left
  have hmin:min (m:Int) (N:Int)=(m:Int):=by omega
  have hmax:max (m:Int) (-1)=(m:Int):=by omega
  have hw3:=IntWalk.i64_in ((m:Int)+1) (by omega)
  have c_b1:=b1.cells
  go_wp2_with fail
  clear c_b1
  refine tstepA (notes_wr _ _) hOh.out hK (write_p B p S2 _ _ _ hP) (fun _ h=>⟨rfl,h⟩) ?_
  clear hOh hK hP
  intro u S3 wn hrun hlf hla hnn hP hk hK hO
  have hlt3:=hla (asks_wr _ _)
  replace hD:=Nat.lt_of_le_of_lt hlf hD
  replace hn0:S3.nts.length<=100001:=by omega
  replace b1:=b1.keep hk
  clear hk hnn hrun
  have hk3:S3.left<k:=by omega
  clear hkk hla hlf
  have hOh:=Lib.hid hO
  clear hO
  go_wp2_with fail
  go_loopw [23] (fun i wr'=>∃ (j k:Nat) (S5:TS),i=.int .i64 j/\j<=m/\Plays B wr' p S5/\KeepP B p w wr'/\HeldP wr' p z (.cells #[.int .i64 alg,.int .i64 N,.int .i64 mode,.int .i64 base,.int .i64 loc,.int .i64 room] 27)/\S5.left<D/\S5.nts.length<=100001/\S5.left<k/\S5.left<S2.left/\Hid (Owes R encI B p w (((oneUp D base m k j).bind F).run S5))) (fun i _=>m-(intOf i).toNat)
  case atStart=>exact⟨0,k,S3,rfl,by omega,hP,hK,b1,hD,hn0,hk3,hlt3,hOh⟩
  case round =>
   clear hP hK b1 hD hn0 hOh hk3 hlt3
   obtain⟨j,k,S5,rfl,hj,hP,hK,b1,hD,hn0,hk5,hlt5,hOh⟩:=hrel
   by_cases hjm:j<m
   · have dj:decide ((j:Int)<(m:Int))=true:=by rw [decide_eq_true_eq];omega
     have hw4:=IntWalk.i64_in (base+(j:Int)) (by omega)
     cases k with
     | zero=>omega
     | succ k =>
       replace hO:=hOh.out
       rw [oneUp_lt D base m k j hjm] at hO
       clear hOh
       have hOh:=Lib.hid hO
       clear hO
       have c_b1:=b1.cells
       go_wp2_with fail
       clear c_b1
       refine tstepA (notes_rd _) hOh.out hK (read_p B p S5 _ _ hP) (fun _ h=>⟨rfl,h⟩) ?_
       clear hOh hK hP
       intro x S6 wn hrun hlf hla hnn hP hk hK hO
       have hlt6:=hla (asks_rd _)
       replace hD:=Nat.lt_of_le_of_lt hlf hD
       replace hn0:S6.nts.length<=100001:=by omega
       replace b1:=b1.keep hk
       clear hk hnn hrun
       clear hla hlf
       by_cases hx:x=0
       · have dx:(x==0)=true:=by simpa using hx
         rw [if_pos hx] at hO
         have hOh:=Lib.hid hO
         clear hO hx
         go_wp2_with fail
         refine⟨⟨j+1,k,S6,by go_num,by omega,hP,hK,b1,hD,hn0,by omega,by omega,hOh⟩,?_⟩
         simp [intOf];omega
       · have dx:(x==0)=false:=by simpa using hx
         rw [if_neg hx] at hO
         have hOh:=Lib.hid hO
         clear hO hx
         have c_b1:=b1.cells
         go_wp2_with fail
         clear c_b1
         refine tstepA (notes_wr _ _) hOh.out hK (write_p B p S6 _ _ _ hP) (fun _ h=>⟨rfl,h⟩) ?_
         clear hOh hK hP
         intro u S7 wn hrun hlf hla hnn hP hk hK hO
         have hlt7:=hla (asks_wr _ _)
         replace hD:=Nat.lt_of_le_of_lt hlf hD
         replace hn0:S7.nts.length<=100001:=by omega
         replace b1:=b1.keep hk
         clear hk hnn hrun
         clear hla hlf
         have hOh:=Lib.hid hO
         clear hO
         have hk7:S7.left<k:=by omega
         have hs7:S7.left<S2.left:=by omega
         clear hlt7 hlt6 hlt5 hk5
         go_wp2_with fail
         go_loopw [] (fun wr'=>∃ (n:Nat) (S8:TS),Plays B wr' p S8/\KeepP B p w wr'/\HeldP wr' p z (.cells #[.int .i64 alg,.int .i64 N,.int .i64 mode,.int .i64 base,.int .i64 loc,.int .i64 room] 27)/\S8.left<D/\S8.nts.length<=100001/\S8.left<k/\S8.left<S2.left/\S8.left<n/\Hid (Owes R encI B p w (((zeroC (base+j) n).bind fun _=>(Kv.wr (base+m) 1).bind fun _=>(oneUp D base m k 0).bind F).run S8))) (fun wr'=>leftW 1 3 wr' p)
         case atStart=>exact⟨D,S7,hP,hK,b1,hD,hn0,hk7,hs7,hD,hOh⟩
         case round =>
          clear hP hK b1 hD hn0 hOh hk7 hs7
          obtain⟨n,S8,hP,hK,b1,hD,hn0,hk8,hs8,hn8,hOh⟩:=hrel
          cases n with
          | zero=>omega
          | succ n =>
            replace hO:=hOh.out
            rw [zeroC_bind] at hO
            clear hOh
            have hOh:=Lib.hid hO
            clear hO
            have hlw8:=Lib.hid hP.left
            have c_b1:=b1.cells
            go_wp2_with fail
            clear c_b1
            refine tstepA (notes_rd _) hOh.out hK (read_p B p S8 _ _ hP) (fun _ h=>⟨rfl,h⟩) ?_
            clear hOh hK hP
            intro x S9 wn hrun hlf hla hnn hP hk hK hO
            have hlt9:=hla (asks_rd _)
            replace hD:=Nat.lt_of_le_of_lt hlf hD
            replace hn0:S9.nts.length<=100001:=by omega
            replace b1:=b1.keep hk
            clear hk hnn hrun
            clear hla hlf
            have hlw9:=Lib.hid hP.left
            by_cases hx:x=0
            · have dx:(x != 0)=false:=by simpa using hx
              rw [if_pos hx] at hO
              have hOh:=Lib.hid hO
              clear hO hx
              go_wp2_with fail
              first | refine wp_goto ?_ | skip
              refine And.intro ⟨rfl,rfl,rfl,rfl,rfl,rfl,rfl,(hJ0 _).2 ⟨k,S9,hP,hK,b1,hD,hn0,by omega,hOh⟩⟩ ?_
              rw [hlw.out,hlw9.out]
              omega
            · have dx:(x != 0)=true:=by simpa using hx
              rw [if_neg hx] at hO
              have hOh:=Lib.hid hO
              clear hO hx
              go_wp2_with fail
              refine⟨⟨n,S9,hP,hK,b1,hD,hn0,by omega,by omega,by omega,hOh⟩,?_⟩
              rw [hlw8.out,hlw9.out]
              omega
   · obtain rfl:m=j:=by omega
     have dj:decide ((m:Int)<(m:Int))=false:=by simp
     replace hO:=hOh.out
     rw [oneUp_ge D base m k,hFh.out] at hO
     clear hOh hlt5 hk5
     have hOh:=Lib.hid hO
     clear hO
     go_wp2_with fail
     refine tstepA (notes_nt 2) hOh.out hK (noteO hP (by unfold maxAns;omega)) (fun _ h=>⟨rfl,h⟩) ?_
     clear hOh hK hP
     intro u S6 wn hrun hlf hla hnn hP hk hK hO
     replace hD:=Nat.lt_of_le_of_lt hlf hD
     replace hn0:S6.nts.length<=100002:=by omega
     replace b1:=b1.keep hk
     clear hk hnn hrun
     clear hla hlf
     obtain⟨G,hG⟩:∃ G:Unit->Prog Int,G=fun _=>(nt 3).bind fun _=>.ret 0:=⟨_,rfl⟩
     rw [<- hG] at hO
     have hOh:=Lib.hid hO
     have hGh:=Lib.hid hG
     clear hO hG
     have hl0:Hid (∀ L:Nat,L=N-1-m->m+1+L=N):=Lib.hid (fun L h=>by omega)
     obtain⟨L,hL⟩:∃ L,L=N-1-m:=⟨_,rfl⟩
     have hLN:=hl0.out L hL
     rw [<- hL] at hOh
     clear hl0 hL
     have hLh:=Lib.hid hLN
     clear hLN
     go_wp2_with fail
     go_loopw [9] (fun i wr'=>∃ (q:Nat) (S7:TS),i=.int .i64 ((m:Int)+1+q)/\q<=L/\Plays B wr' p S7/\KeepP B p w wr'/\HeldP wr' p z (.cells #[.int .i64 alg,.int .i64 N,.int .i64 mode,.int .i64 base,.int .i64 loc,.int .i64 room] 27)/\S7.left<D/\S7.nts.length<=100002/\Hid (Owes R encI B p w (((forP (fun j _=>zeroC (base+j) D) (ranksFrom (-1) (L-q) ((m:Int)+1+q)) ()).bind G).run S7))) (fun i _=>N-(intOf i).toNat)
     case atStart=>exact⟨0,S6,by simp,by omega,hP,hK,b1,hD,hn0,by simpa using hOh⟩
     case round =>
      clear hP hK b1 hD hn0 hOh
      obtain⟨q,S7,rfl,hq,hP,hK,b1,hD,hn0,hOh⟩:=hrel
      by_cases hqL:q<L
      · have dq:decide ((m:Int)+1+(q:Int)<(N:Int))=true:=by rw [decide_eq_true_eq];have:=hLh.out;omega
        have hw5:=IntWalk.i64_in (base+((m:Int)+1+(q:Int))) (by have:=hLh.out;omega)
        have hw6:=IntWalk.i64_in ((m:Int)+1+(q:Int)+1) (by have:=hLh.out;omega)
        obtain⟨g,hg⟩:∃ g,L-q=g+1:=⟨L-q-1,by omega⟩
        replace hO:=hOh.out
        rw [hg,ranks_cons _ _ _ (by omega),forP_consB,show g=L-(q+1) from by omega] at hO
        obtain⟨H,hH⟩:∃ H:Unit->Prog Int,H=fun _=>(forP (fun j _=>zeroC (base+j) D) (ranksFrom (-1) (L-(q+1)) ((m:Int)+1+q+1)) ()).bind G:=⟨_,rfl⟩
        rw [<- hH] at hO
        have hHh:=Lib.hid hH
        have hOh2:=Lib.hid hO
        clear hO hOh hg hH
        go_wp2_with fail
        go_loopw [] (fun wr'=>∃ (n:Nat) (S8:TS),Plays B wr' p S8/\KeepP B p w wr'/\HeldP wr' p z (.cells #[.int .i64 alg,.int .i64 N,.int .i64 mode,.int .i64 base,.int .i64 loc,.int .i64 room] 27)/\S8.left<D/\S8.nts.length<=100002/\S8.left<n/\Hid (Owes R encI B p w (((zeroC (base+((m:Int)+1+q)) n).bind H).run S8))) (fun wr'=>leftW 1 3 wr' p)
        case atStart=>exact⟨D,S7,hP,hK,b1,hD,hn0,hD,hOh2⟩
        case round =>
         clear hP hK b1 hD hn0 hOh2
         obtain⟨n,S8,hP,hK,b1,hD,hn0,hn8,hOh⟩:=hrel
         cases n with
         | zero=>omega
         | succ n =>
           replace hO:=hOh.out
           rw [zeroC_bind] at hO
           clear hOh
           have hOh:=Lib.hid hO
           clear hO
           have hlw8:=Lib.hid hP.left
           have c_b1:=b1.cells
           go_wp2_with fail
           clear c_b1
           refine tstepA (notes_rd _) hOh.out hK (read_p B p S8 _ _ hP) (fun _ h=>⟨rfl,h⟩) ?_
           clear hOh hK hP
           intro x S9 wn hrun hlf hla hnn hP hk hK hO
           have hlt9:=hla (asks_rd _)
           replace hD:=Nat.lt_of_le_of_lt hlf hD
           replace hn0:S9.nts.length<=100002:=by omega
           replace b1:=b1.keep hk
           clear hk hnn hrun
           clear hla hlf
           have hlw9:=Lib.hid hP.left
           by_cases hx:x=0
           · have dx:(x != 0)=false:=by simpa using hx
             rw [if_pos hx,hHh.out] at hO
             have hOh:=Lib.hid hO
             clear hO hx
             go_wp2_with fail
             refine⟨⟨q+1,S9,by go_num,by omega,hP,hK,b1,hD,hn0,?_⟩,?_⟩
             · rw [show (m:Int)+1+((q+1:Nat):Int)=(m:Int)+1+q+1 from by omega]
               exact hOh
             · simp [intOf];have:=hLh.out;omega
           · have dx:(x != 0)=true:=by simpa using hx
             rw [if_neg hx] at hO
             have hOh:=Lib.hid hO
             clear hO hx
             go_wp2_with fail
             refine⟨⟨n,S9,hP,hK,b1,hD,hn0,by omega,hOh⟩,?_⟩
             rw [hlw8.out,hlw9.out]
             omega
      · obtain rfl:q=L:=by omega
        have dq:decide ((m:Int)+1+(q:Int)<(N:Int))=false:=by rw [decide_eq_false_iff_not];have:=hLh.out;omega
        replace hO:=hOh.out
        rw [Nat.sub_self,ranks_zero,forP_nilB,hGh.out] at hO
        have hOh2:=Lib.hid hO
        clear hO hOh
        go_wp2_with fail
        refine tstepN (notes_nt 3) hOh2.out hK (noteO hP (by unfold maxAns;omega)) (fun _ h=>⟨rfl,h⟩) ?_
        clear hOh2 hK hP
        intro u S9 w9 _ _ _ hP _ hK hO
        have hf:=hO.done (v:=(0:Int)) hP hK
        clear hO hP hK
        go_wp2_with fail
        first | exact hf | (go_ret;exact hf)
theorem onerel_p (B p N:Nat)(S:TS)(alg mode base loc room:Int)(m:Nat)(w:World)(h:Plays B w p S)(h2:N<=8)(hm1:m<N)(hba:0<=base/\base<=32768)(hn0:S.nts.length<=100000) :
  Calls Tryz.prog 275 #[.pointer (some ⟨p,0,none⟩),.agg #[.int .i64 alg,.int .i64 N,.int .i64 mode,.int .i64 base,.int .i64 loc,.int .i64 room],.int .i64 m] w (Post encU B p w ((oneR base m).run S)):=by
 generalize hR:Post encU B p w ((oneR base m).run S)=R
 have hO:Owes R encU B p w ((oneR base m).run S):=hR▸owes _ _ _ _ _
 clear hR
 obtain⟨b1,hK,hP⟩:=h.entry (.cells #[.int .i64 alg,.int .i64 N,.int .i64 mode,.int .i64 base,.int .i64 loc,.int .i64 room] 27)
 have c_b1:=b1.cells
 clear h
 unfold oneR at hO
 have hw2:=IntWalk.i64_in (base+(m:Int)) (by omega)
 have hOh:=Lib.hid hO
 clear hO
 go_enter Tryz.func275,Tryz.ntmps275
 go_wp2_with fail
 generalize w.heap.size=z at *
 refine tstepN (notes_nt 5) hOh.out hK (noteO hP (by unfold maxAns;omega)) (fun _ h=>⟨rfl,h⟩) ?_
 clear hOh hK hP
 intro u S1 w2 _ _ _ hP hk hK hO
 replace b1:=b1.keep hk
 clear hk c_b1
 have hOh:=Lib.hid hO
 clear hO
 have c_b1:=b1.cells
 go_wp2_with fail
 clear c_b1
 refine tlast hOh.out hK (write_p B p S1 _ _ _ hP) (fun _ h=>⟨rfl,h⟩) ?_
 clear hOh hK hP
 intro u S3 w4 hr hP hk hK hO
 have hf:=hO.done hP hK
 clear hO hP hK hr hk b1
 go_wp2_with fail
 first | exact hf | (refine bodyPost_ret (results_none rfl _ _ _) rfl ?_;exact hf)
set_option maxRecDepth 100000 in
theorem of2_p (w:World):Calls Tryz.prog 89 #[.int .i64 2] w fun e w'=>e=.returned (.iface 158 (.agg #[]))/\Ext w w':=by
 have hX:=(Ext.refl w).alloc (.cells #[.int .i64 2] 3)
 go_enter Tryz.func89,Tryz.ntmps89
 go_wp2_with fail
 go_ret
 exact⟨rfl,hX⟩
theorem bitsacq_p (B p:Nat)(S:TS)(alg mode base loc room:Int)(N m:Nat)(T:Prog Int)(w:World)(h:Plays B w p S)
  (hq:∀ W,Plays B W p S->Calls Tryz.prog 274 #[.pointer (some ⟨p,0,none⟩),.agg #[.int .i64 alg,.int .i64 N,.int .i64 mode,.int .i64 base,.int .i64 loc,.int .i64 room],.int .i64 m] W (Post encI B p W (T.run S))) :
  Calls Tryz.prog 270 #[.agg #[],.pointer (some ⟨p,0,none⟩),.agg #[.int .i64 alg,.int .i64 N,.int .i64 mode,.int .i64 base,.int .i64 loc,.int .i64 room],.int .i64 m] w (Post encI B p w (T.run S)):=by
 generalize hR:Post encI B p w ((T).run S)=R
 have hO:Owes R encI B p w ((T).run S):=hR▸owes _ _ _ _ _
 clear hR
 obtain⟨b1,b2,hK,hP⟩:=h.entry2 (.cells #[] 158) (.cells #[.int .i64 alg,.int .i64 N,.int .i64 mode,.int .i64 base,.int .i64 loc,.int .i64 room] 27)
 have c_b1:=b1.cells
 have c_b2:=b2.cells
 clear h
 go_enter Tryz.func270,Tryz.ntmps270
 go_wp2_with fail
 refine tlast hO hK (hq _ hP) (fun _ h=>⟨rfl,h⟩) ?_
 clear hO hK hP hq c_b1 c_b2
 intro u S9 w9 hr9 hP hk9 hK hO
 have hf:=hO.done hP hK
 clear hO hP hK hr9 hk9
 go_wp2_with fail
 first | exact hf | (refine bodyPost_ret (results_none rfl _ _ _) rfl ?_;exact hf) | (go_ret;exact hf)
theorem bitsrel_p (B p:Nat)(S:TS)(alg mode base loc room:Int)(N m:Nat)(T:Prog Unit)(w:World)(h:Plays B w p S)
  (hq:∀ W,Plays B W p S->Calls Tryz.prog 275 #[.pointer (some ⟨p,0,none⟩),.agg #[.int .i64 alg,.int .i64 N,.int .i64 mode,.int .i64 base,.int .i64 loc,.int .i64 room],.int .i64 m] W (Post encU B p W (T.run S))) :
  Calls Tryz.prog 271 #[.agg #[],.pointer (some ⟨p,0,none⟩),.agg #[.int .i64 alg,.int .i64 N,.int .i64 mode,.int .i64 base,.int .i64 loc,.int .i64 room],.int .i64 m] w (Post encU B p w (T.run S)):=by
 generalize hR:Post encU B p w ((T).run S)=R
 have hO:Owes R encU B p w ((T).run S):=hR▸owes _ _ _ _ _
 clear hR
 obtain⟨b1,b2,hK,hP⟩:=h.entry2 (.cells #[] 158) (.cells #[.int .i64 alg,.int .i64 N,.int .i64 mode,.int .i64 base,.int .i64 loc,.int .i64 room] 27)
 have c_b1:=b1.cells
 have c_b2:=b2.cells
 clear h
 go_enter Tryz.func271,Tryz.ntmps271
 go_wp2_with fail
 refine tlast hO hK (hq _ hP) (fun _ h=>⟨rfl,h⟩) ?_
 clear hO hK hP hq c_b1 c_b2
 intro u S9 w9 hr9 hP hk9 hK hO
 have hf:=hO.done (v:=()) hP hK
 clear hO hP hK hr9 hk9
 go_wp2_with fail
 first | exact hf | (refine bodyPost_ret (results_none rfl _ _ _) rfl ?_;exact hf) | (go_ret;exact hf)
set_option maxRecDepth 100000 in
theorem lkdacq_p (M:FuncId)(Y:TypeId)(hcf:∀ (args:Array Value) (w:World),(callFunc M args).run Tryz.prog w=.ok (.enter M args) w)(B p:Nat)(S:TS)(alg mode base loc room:Int)(N m:Nat)(T:Prog Int)(w:World)(h:Plays B w p S)
  (hof:∀ w,Calls Tryz.prog 89 #[.int .i64 alg] w fun e w'=>∃ a,e=.returned (.iface Y (.agg a))/\Ext w w'/\(∀ w,(method 359 Y (.agg a) "kevel/lock.acquire").run Tryz.prog w=.ok (M,.agg a) w) /\
    (∀ W,Plays B W p S->Calls Tryz.prog M #[.agg a,.pointer (some ⟨p,0,none⟩),.agg #[.int .i64 alg,.int .i64 N,.int .i64 mode,.int .i64 base,.int .i64 loc,.int .i64 room],.int .i64 m] W (Post encI B p W (T.run S)))) :
  Calls Tryz.prog 86 #[.pointer (some ⟨p,0,none⟩),.agg #[.int .i64 alg,.int .i64 N,.int .i64 mode,.int .i64 base,.int .i64 loc,.int .i64 room],.int .i64 m] w (Post encI B p w (T.run S)):=by
 generalize hR:Post encI B p w ((T).run S)=R
 have hO:Owes R encI B p w ((T).run S):=hR▸owes _ _ _ _ _
 clear hR
 obtain⟨b1,hK,hP⟩:=h.entry (.cells #[.int .i64 alg,.int .i64 N,.int .i64 mode,.int .i64 base,.int .i64 loc,.int .i64 room] 27)
 have c_b1:=b1.cells
 clear h
 go_enter Tryz.func86,Tryz.ntmps86
 go_wp2_with fail
 refine (hof _).mono ?_
 rintro e w1 ⟨a,rfl,hx,hmt,hq⟩
 replace hK:=hK.trans (Keep.of_ext hx hP.lt hP.le)
 replace b1:=b1.ext hx hP.lt
 replace hP:=hP.ext hx
 clear hx c_b1
 generalize w.heap.size=z at *
 have c_b1:=b1.cells
 go_wp2_with fail
 refine tlast hO hK (hq _ hP) (fun _ h=>⟨rfl,h⟩) ?_
 clear hO hK hP hq c_b1
 intro u S9 w9 hr9 hP hk9 hK hO
 have hf:=hO.done hP hK
 clear hO hP hK hr9 hk9
 go_wp2_with fail
 first | exact hf | (refine bodyPost_ret (results_none rfl _ _ _) rfl ?_;exact hf) | (go_ret;exact hf)
set_option maxRecDepth 100000 in
theorem lkdrel_p (M:FuncId)(Y:TypeId)(hcf:∀ (args:Array Value) (w:World),(callFunc M args).run Tryz.prog w=.ok (.enter M args) w)(B p:Nat)(S:TS)(alg mode base loc room:Int)(N m:Nat)(T:Prog Unit)(w:World)(h:Plays B w p S)
  (hof:∀ w,Calls Tryz.prog 89 #[.int .i64 alg] w fun e w'=>∃ a,e=.returned (.iface Y (.agg a))/\Ext w w'/\(∀ w,(method 359 Y (.agg a) "kevel/lock.release").run Tryz.prog w=.ok (M,.agg a) w) /\
    (∀ W,Plays B W p S->Calls Tryz.prog M #[.agg a,.pointer (some ⟨p,0,none⟩),.agg #[.int .i64 alg,.int .i64 N,.int .i64 mode,.int .i64 base,.int .i64 loc,.int .i64 room],.int .i64 m] W (Post encU B p W (T.run S)))) :
  Calls Tryz.prog 88 #[.pointer (some ⟨p,0,none⟩),.agg #[.int .i64 alg,.int .i64 N,.int .i64 mode,.int .i64 base,.int .i64 loc,.int .i64 room],.int .i64 m] w (Post encU B p w (T.run S)):=by
 generalize hR:Post encU B p w ((T).run S)=R
 have hO:Owes R encU B p w ((T).run S):=hR▸owes _ _ _ _ _
 clear hR
 obtain⟨b1,hK,hP⟩:=h.entry (.cells #[.int .i64 alg,.int .i64 N,.int .i64 mode,.int .i64 base,.int .i64 loc,.int .i64 room] 27)
 have c_b1:=b1.cells
 clear h
 go_enter Tryz.func88,Tryz.ntmps88
 go_wp2_with fail
 refine (hof _).mono ?_
 rintro e w1 ⟨a,rfl,hx,hmt,hq⟩
 replace hK:=hK.trans (Keep.of_ext hx hP.lt hP.le)
 replace b1:=b1.ext hx hP.lt
 replace hP:=hP.ext hx
 clear hx c_b1
 generalize w.heap.size=z at *
 have c_b1:=b1.cells
 go_wp2_with fail
 refine tlast hO hK (hq _ hP) (fun _ h=>⟨rfl,h⟩) ?_
 clear hO hK hP hq c_b1
 intro u S9 w9 hr9 hP hk9 hK hO
 have hf:=hO.done (v:=()) hP hK
 clear hO hP hK hr9 hk9
 go_wp2_with fail
 first | exact hf | (refine bodyPost_ret (results_none rfl _ _ _) rfl ?_;exact hf) | (go_ret;exact hf)
set_option maxRecDepth 100000 in
theorem ob_acq (B p N D:Nat)(S:TS)(mode base loc room:Int)(m:Nat)(w:World)(h:Plays B w p S)(h1:1<=N)(h2:N<=8)(hm:m<N)(hba:0<=base/\base<=32768)(hD:S.left<D)(hn0:S.nts.length<=100000) :
  Calls Tryz.prog 86 #[.pointer (some ⟨p,0,none⟩),.agg #[.int .i64 2,.int .i64 N,.int .i64 mode,.int .i64 base,.int .i64 loc,.int .i64 room],.int .i64 m] w (Post encI B p w ((oneA D base N m).run S)) :=
 lkdacq_p _ _ (fun _ _=>rfl) B p S 2 mode base loc room N m _ w h fun w=>(of2_p w).mono fun e w' h9=>by
  obtain⟨rfl,hx⟩:=h9
  exact⟨_,rfl,hx,fun _=>by kernel_rfl,fun W hP=>bitsacq_p B p S _ _ _ _ _ N m _ W hP fun W hP=>oneacq_p B p N D S 2 mode base loc room m W hP h1 h2 hm hba hD hn0⟩
set_option maxRecDepth 100000 in
theorem ob_rel (B p N:Nat)(S:TS)(mode base loc room:Int)(m:Nat)(w:World)(h:Plays B w p S)(h2:N<=8)(hm:m<N)(hba:0<=base/\base<=32768)(hn0:S.nts.length<=100000) :
  Calls Tryz.prog 88 #[.pointer (some ⟨p,0,none⟩),.agg #[.int .i64 2,.int .i64 N,.int .i64 mode,.int .i64 base,.int .i64 loc,.int .i64 room],.int .i64 m] w (Post encU B p w ((oneR base m).run S)) :=
 lkdrel_p _ _ (fun _ _=>rfl) B p S 2 mode base loc room N m _ w h fun w=>(of2_p w).mono fun e w' h9=>by
  obtain⟨rfl,hx⟩:=h9
  exact⟨_,rfl,hx,fun _=>by kernel_rfl,fun W hP=>bitsrel_p B p S _ _ _ _ _ N m _ W hP fun W hP=>onerel_p B p N S 2 mode base loc room m W hP h2 hm hba hn0⟩
theorem oneA_zero {D:Nat}{base:Int}{n me:Nat}{S S1:TS}{v:Int}(h:(oneA D base n me).run S=(some v,S1)):v=0:=by
 unfold oneA at h
 simp only [<- Prog.bind_assoc] at h
 rw [Prog.run_bind] at h
 revert h
 generalize Prog.run _ S=r
 obtain⟨o,S2⟩:=r
 cases o with
 | none=>intro h;cases h
 | some u=>intro h;injection h with h _;injection h with h;exact h.symm
theorem notes_obUp (D:Nat)(base:Int)(me:Nat):∀ f j:Nat,(oneUp D base me f j).Notes 0
 | 0,_=>.ret _ _
 | f+1,j=>by
   rw [show oneUp D base me (f+1) j=if j<me then (rd (base+j)).bind fun x=>if x=0 then oneUp D base me f (j+1) else
    (wr (base+me) 0).bind fun _=>(zeroC (base+j) D).bind fun _=>(wr (base+me) 1).bind fun _=>oneUp D base me f 0
   else .ret () from rfl]
   split
   · refine (notes_rd _).bind0 fun x=>?_
     split
     · exact notes_obUp D base me f (j+1)
     · exact (notes_wr _ _).bind0 fun _=>(notes_zeroC _ _).bind0 fun _=>(notes_wr _ _).bind0 fun _=>notes_obUp D base me f 0
   · exact .ret _ _
theorem notes_oneA (D:Nat)(base:Int)(n me:Nat):(oneA D base n me).Notes 4:=by
 unfold oneA
 have h0:((forP (fun j _=>zeroC (base+j) D) (ranksFrom (-1) (n-1-me) ((me:Int)+1)) ()).bind fun _=>(nt 3).bind fun _=>Prog.ret (0:Int)).Notes 1:=(notes_forP (fun _ _=>notes_zeroC _ _) _ _).bind0 fun _=>Prog.Notes.bind (n:=1) (m:=0) (notes_nt 3) fun _=>.ret _ _
 exact (Prog.Notes.bind (n:=1) (m:=2) (notes_nt 1) fun _=>(notes_wr _ _).bind0 fun _=>(notes_obUp D base me D 0).bind0 fun _=>Prog.Notes.bind (n:=1) (m:=1) (notes_nt 2) fun _=>h0).mono (by omega)
set_option maxRecDepth 100000 in
theorem ob_in (B p N D:Nat)(S:TS)(mode base loc room:Int)(m:Nat)(w:World)(h:Plays B w p S)(h1:1<=N)(h2:N<=8)(hm:m<N)(hba:0<=base/\base<=32768)(hD:S.left<D)(hn0:S.nts.length<=100000) :
  Calls Tryz.prog 41 #[.pointer (some ⟨p,0,none⟩),.agg #[.int .i64 2,.int .i64 N,.int .i64 mode,.int .i64 base,.int .i64 loc,.int .i64 room],.int .i64 m] w (Post encU B p w (((oneA D base N m).bind fun _=>.ret ()).run S)):=by
 generalize hR:Post encU B p w (((oneA D base N m).bind fun _=>.ret ()).run S)=R
 have hO:Owes R encU B p w (((oneA D base N m).bind fun _=>.ret ()).run S):=hR▸owes _ _ _ _ _
 clear hR
 obtain⟨b1,hK,hP⟩:=h.entry (.cells #[.int .i64 2,.int .i64 N,.int .i64 mode,.int .i64 base,.int .i64 loc,.int .i64 room] 27)
 have c_b1:=b1.cells
 clear h
 have hacq:=Lib.hid fun S W hP hD hn=>ob_acq B p N D S mode base loc room m W hP h1 h2 hm hba hD hn
 have hz:=Lib.hid fun S S' v=>oneA_zero (D:=D) (base:=base) (n:=N) (me:=m) (S:=S) (S1:=S') (v:=v)
 have hT4:=Lib.hid (notes_oneA D base N m)
 generalize oneA D base N m=T at *
 have hOh:=Lib.hid hO
 clear hO
 go_enter Tryz.func41,Tryz.ntmps41
 go_wp2_with fail
 generalize w.heap.size=z at *
 generalize World.alloc w _=W0 at *
 clear c_b1
 go_loopw [] (fun wr'=>wr'=W0) (fun wr'=>0)
 case atStart=>rfl
 case round =>
  subst hrel
  have c_b1:=b1.cells
  go_wp2_with fail
  clear c_b1
  refine tstepA hT4.out hOh.out hK (hacq.out S _ hP hD hn0) (fun _ h=>⟨rfl,h⟩) ?_
  clear hOh hK hP
  intro e S3 w3 hrun hlf _ hnn hP hk hK hO
  obtain rfl:=hz.out S S3 e hrun
  have hf:=hO.done hP hK
  clear hO hP hK hk hrun b1
  go_wp2_with fail
  first | exact hf | (refine bodyPost_ret (results_none rfl _ _ _) rfl ?_;exact hf)
set_option maxRecDepth 100000 in
theorem ob_out (B p N:Nat)(S:TS)(mode base loc room:Int)(m:Nat)(w:World)(h:Plays B w p S)(h2:N<=8)(hm:m<N)(hba:0<=base/\base<=32768)(hn0:S.nts.length<=100000) :
  Calls Tryz.prog 43 #[.pointer (some ⟨p,0,none⟩),.agg #[.int .i64 2,.int .i64 N,.int .i64 mode,.int .i64 base,.int .i64 loc,.int .i64 room],.int .i64 m] w (Post encU B p w ((oneR base m).run S)):=by
 generalize hR:Post encU B p w ((oneR base m).run S)=R
 have hO:Owes R encU B p w ((oneR base m).run S):=hR▸owes _ _ _ _ _
 clear hR
 obtain⟨b1,hK,hP⟩:=h.entry (.cells #[.int .i64 2,.int .i64 N,.int .i64 mode,.int .i64 base,.int .i64 loc,.int .i64 room] 27)
 have c_b1:=b1.cells
 clear h
 have hq:=fun W hP=>ob_rel B p N S mode base loc room m W hP h2 hm hba hn0
 go_enter Tryz.func43,Tryz.ntmps43
 go_wp2_with fail
 refine tlast hO hK (hq _ hP) (fun _ h=>⟨rfl,h⟩) ?_
 clear hO hK hP hq c_b1
 intro u S9 w9 hr9 hP hk9 hK hO
 have hf:=hO.done hP hK
 clear hO hP hK hr9 hk9
 go_wp2_with fail
 first | exact hf | (refine bodyPost_ret (results_none rfl _ _ _) rfl ?_;exact hf) | (go_ret;exact hf)
end Go.Proofs.YtmmmiplmiooioaaGreat
namespace Kv
def TS.told (S:TS) (v:Int) (a:Acc):TS:={ S with ans:=S.ans++[v],acc:=S.acc++[a] }
inductive Sol {α:Type}:Prog α->TS->List Int->Nat->Prog α->TS->List Int->Prop
 | refl (T:Prog α) (S:TS) (M:List Int):Sol T S M 0 T S M
 | read (c:Nat) {k:Int->Prog α} {S:TS} {M:List Int} {v:Int} {n:Nat} {T':Prog α} {S':TS} {M':List Int} (h:M[c]?=some v) (t:Sol (k v) (S.told v ⟨1,c,0⟩) M n T' S' M'):Sol (.read c k) S M (n+1) T' S' M'
 | write (c:Nat) (v:Int) {k:Unit->Prog α} {S:TS} {M:List Int} {n:Nat} {T':Prog α} {S':TS} {M':List Int} (h:c<M.length) (t:Sol (k ()) (S.told v ⟨2,c,v⟩) (M.set c v) n T' S' M'):Sol (.write c v k) S M (n+1) T' S' M'
 | get (i:Int) {k:Int->Prog α} {S:TS} {M:List Int} {n:Nat} {T':Prog α} {S':TS} {M':List Int} (t:Sol (k (S.got i)) S M n T' S' M'):Sol (.get i k) S M n T' S' M'
 | set (i v:Int) {k:Unit->Prog α} {S:TS} {M:List Int} {n:Nat} {T':Prog α} {S':TS} {M':List Int} (t:Sol (k ()) (S.upd i v) M n T' S' M'):Sol (.set i v k) S M n T' S' M'
 | note (m:Int) {k:Unit->Prog α} {S:TS} {M:List Int} {n:Nat} {T':Prog α} {S':TS} {M':List Int} (t:Sol (k ()) (S.noted m) M n T' S' M'):Sol (.note m k) S M n T' S' M'
namespace Sol
theorem trans {α:Type}{T T1 T2:Prog α}{S S1 S2:TS}{M M1 M2:List Int}{n m:Nat}(h:Sol T S M n T1 S1 M1)(g:Sol T1 S1 M1 m T2 S2 M2):Sol T S M (n+m) T2 S2 M2:=by
 induction h with
 | refl T S M=>rw [Nat.zero_add];exact g
 | read c h _ ih=>rw [Nat.add_right_comm];exact .read c h (ih g)
 | write c v h _ ih=>rw [Nat.add_right_comm];exact .write c v h (ih g)
 | get i _ ih=>exact .get i (ih g)
 | set i v _ ih=>exact .set i v (ih g)
 | note m _ ih=>exact .note m (ih g)
theorem bindl {α β:Type}{T T1:Prog α}{S S1:TS}{M M1:List Int}{n:Nat}(h:Sol T S M n T1 S1 M1)(f:α->Prog β):Sol (T.bind f) S M n (T1.bind f) S1 M1:=by
 induction h with
 | refl T S M=>exact .refl _ _ _
 | read c h _ ih=>exact .read c h ih
 | write c v h _ ih=>exact .write c v h ih
 | get i _ ih=>exact .get i ih
 | set i v _ ih=>exact .set i v ih
 | note m _ ih=>exact .note m ih
theorem bind {α β:Type}{T:Prog α}{a:α}{f:α->Prog β}{T2:Prog β}{S S1 S2:TS}{M M1 M2:List Int}{n m:Nat}(h:Sol T S M n (.ret a) S1 M1)(g:Sol (f a) S1 M1 m T2 S2 M2):Sol (T.bind f) S M (n+m) T2 S2 M2:=(h.bindl f).trans g
theorem len {α:Type}{T T1:Prog α}{S S1:TS}{M M1:List Int}{n:Nat}(h:Sol T S M n T1 S1 M1):S1.acc.length=S.acc.length+n/\S1.ans.length=S.ans.length+n:=by
 induction h with
 | refl T S M=>exact⟨rfl,rfl⟩
 | read c h _ ih=>simp only [TS.told,List.length_append,List.length_cons,List.length_nil] at ih;omega
 | write c v h _ ih=>simp only [TS.told,List.length_append,List.length_cons,List.length_nil] at ih;omega
 | get i _ ih=>exact ih
 | set i v _ ih=>rw [TS.upd_acc,TS.upd_ans] at ih;exact ih
 | note m _ ih=>exact ih
end Sol
def Res {α:Type} (T:Prog α) (S:TS) (T':Prog α) (S':TS):Prop:=∀ x,T.run { S with ans:=S'.ans++x }=T'.run { S' with ans:=S'.ans++x }
theorem upd_with (S:TS)(l:List Int)(i v:Int):({ S with ans:=l }:TS).upd i v={ S.upd i v with ans:=l }:=by
 unfold TS.upd
 split <;> rfl
theorem Sol.stop {α:Type}{T T':Prog α}{S S':TS}{M M':List Int}{a:α}{n:Nat}(h:Sol T S M n T' S' M')(hn:n=0)(ha:T'=.ret a):T.run S=(some a,S')/\M'=M:=by
 induction h with
 | refl T S M=>subst ha;exact⟨rfl,rfl⟩
 | read c h _ ih=>omega
 | write c v h _ ih=>omega
 | get i _ ih=>exact ih hn ha
 | set i v _ ih=>exact ih hn ha
 | note m _ ih=>exact ih hn ha
theorem Sol.next {α:Type}{T T':Prog α}{S S':TS}{M M':List Int}{n:Nat}(h:Sol T S M n T' S' M'):∀ m,n=m+1->S.ans.length=S.acc.length->∃ (c:Nat) (a:Acc) (v:Int) (T1:Prog α) (S1 S2:TS) (M1:List Int),a.cell=c/\c<M.length /\
  (a.kind=1/\M1=M∨a.kind=2/\M1=M.set c a.val)/\M1[c]?=some v/\T.run S=(none,S1)/\S1.acc=S.acc++[a]/\S2.ans=S.ans++[v]/\S2.acc=S.acc++[a]/\Sol T1 S2 M1 m T' S' M'/\Res T S T1 S2:=by
 induction h with
 | refl T S M=>intro m h;omega
 | @read c k S M v n T' S' M' h t ih =>
   intro m hm hl
   have hnx:S.next=none:=by unfold TS.next;rw [List.getElem?_eq_none (by omega)]
   refine⟨c,⟨1,c,0⟩,v,k v,S.put ⟨1,c,0⟩,S.told v ⟨1,c,0⟩,M,rfl,(List.getElem?_eq_some_iff.1 h).1,.inl ⟨rfl,rfl⟩,h,?_,rfl,rfl,rfl,?_,?_⟩
   · simp only [Prog.run,hnx]
   · obtain rfl:n=m:=by omega
     exact t
   · intro x
     have hnx:({ S with ans:=(S.told v ⟨1,c,0⟩).ans++x }:TS).next=some v:=by
      unfold TS.next
      simp only [TS.told,List.append_assoc]
      rw [List.getElem?_append_right (by omega),<- hl,Nat.sub_self]
      rfl
     simp only [Prog.run,hnx]
     rfl
 | @write c v k S M n T' S' M' h t ih =>
   intro m hm hl
   have hnx:S.next=none:=by unfold TS.next;rw [List.getElem?_eq_none (by omega)]
   refine⟨c,⟨2,c,v⟩,v,k (),S.put ⟨2,c,v⟩,S.told v ⟨2,c,v⟩,M.set c v,rfl,h,.inr ⟨rfl,rfl⟩,by simp [h],?_,rfl,rfl,rfl,?_,?_⟩
   · simp only [Prog.run,hnx]
   · obtain rfl:n=m:=by omega
     exact t
   · intro x
     have hnx:({ S with ans:=(S.told v ⟨2,c,v⟩).ans++x }:TS).next=some v:=by
      unfold TS.next
      simp only [TS.told,List.append_assoc]
      rw [List.getElem?_append_right (by omega),<- hl,Nat.sub_self]
      rfl
     simp only [Prog.run,hnx]
     rfl
 | get i t ih=>intro m hm hl;exact ih m hm hl
 | @set i v k S M n T' S' M' t ih =>
   intro m hm hl
   obtain⟨c,a,u,T1,S1,S2,M1,h1,h2,h3,h4,h5,h6,h7,h8,h9,h10⟩:=ih m hm (by rw [TS.upd_acc,TS.upd_ans];exact hl)
   rw [TS.upd_acc] at h6 h8
   rw [TS.upd_ans] at h7
   refine⟨c,a,u,T1,S1,S2,M1,h1,h2,h3,h4,h5,h6,h7,h8,h9,fun x=>?_⟩
   have:=h10 x
   rw [<- upd_with] at this
   exact this
 | note q t ih=>intro m hm hl;exact ih m hm hl
theorem Res.refl {α:Type}(T:Prog α)(S:TS):Res T S T S:=fun _=>rfl
theorem Res.trans {α:Type}{T T1 T2:Prog α}{S S1 S2:TS}{v:Int}(h:Res T S T1 S1)(g:Res T1 S1 T2 S2)(hv:S2.ans=S1.ans++[v]):Res T S T2 S2:=fun x=>by
 have:=h (v :: x)
 rw [<- g x,hv,List.append_assoc]
 exact this
theorem Res.now {α:Type}{T T':Prog α}{S S':TS}(h:Res T S T' S'):T.run { S with ans:=S'.ans }=T'.run S':=by
 have:=h []
 rw [List.append_nil] at this
 exact this
end Kv
namespace Go.Proofs.YtmmmiplmiooioaaGreat
open Go.RowKit Kv
def Pos {α:Type} (T:Prog α) (L:List Int) (ans:List Int) (T':Prog α) (loc:Nat->Int):Prop :=
 ∃ S',Res T (TS0 L []) T' S'/\S'.ans=ans/\S'.acc.length=ans.length/\S'.loc=loc
section
variable {α:Type} {T:Prog α} {L ans:List Int} {loc:Nat->Int}
theorem Pos.start (T:Prog α)(L:List Int):Pos T L [] T (TS0 L []).loc:=⟨TS0 L [],Res.refl _ _,rfl,rfl,rfl⟩
theorem Pos.run {T':Prog α}{S':TS}(h:Res T (TS0 L []) T' S')(ha:S'.ans=ans):T.run (TS0 L ans)=T'.run S':=by
 have:=h.now
 rw [ha] at this
 exact this
theorem told_next {S':TS}(h:S'.acc.length=S'.ans.length)(v:Int)(x:List Int)(a:Acc):({ S' with ans:=(S'.told v a).ans++x }:TS).next=some v:=by
 unfold TS.next
 simp only [TS.told,List.append_assoc]
 rw [List.getElem?_append_right (by omega),h,Nat.sub_self]
 rfl
theorem Pos.read {c:Int}{k:Int->Prog α}(h:Pos T L ans (.read c k) loc):(∃ S1 l,T.run (TS0 L ans)=(none,S1)/\S1.acc=l++[⟨1,c,0⟩]/\l.length=ans.length)/\∀ v,Pos T L (ans++[v]) (k v) loc:=by
 obtain⟨S',h1,h2,h3,h4⟩:=h
 have hn:S'.next=none:=by unfold TS.next;rw [List.getElem?_eq_none (by rw [h2];omega)]
 refine⟨⟨S'.put ⟨1,c,0⟩,S'.acc,?_,rfl,h3⟩,fun v=>⟨S'.told v ⟨1,c,0⟩,?_,by rw [<- h2];rfl,by simp [TS.told,h3],h4⟩⟩
 · rw [Pos.run h1 h2]
   simp only [Prog.run,hn]
 · refine Res.trans h1 (fun x=>?_) (v:=v) rfl
   simp only [Prog.run,told_next (h3.trans (congrArg _ h2.symm)) v x ⟨1,c,0⟩]
   rfl
theorem Pos.write {c u:Int}{k:Unit->Prog α}(h:Pos T L ans (.write c u k) loc):(∃ S1 l,T.run (TS0 L ans)=(none,S1)/\S1.acc=l++[⟨2,c,u⟩]/\l.length=ans.length)/\∀ v,Pos T L (ans++[v]) (k ()) loc:=by
 obtain⟨S',h1,h2,h3,h4⟩:=h
 have hn:S'.next=none:=by unfold TS.next;rw [List.getElem?_eq_none (by rw [h2];omega)]
 refine⟨⟨S'.put ⟨2,c,u⟩,S'.acc,?_,rfl,h3⟩,fun v=>⟨S'.told v ⟨2,c,u⟩,?_,by rw [<- h2];rfl,by simp [TS.told,h3],h4⟩⟩
 · rw [Pos.run h1 h2]
   simp only [Prog.run,hn]
 · refine Res.trans h1 (fun x=>?_) (v:=v) rfl
   simp only [Prog.run,told_next (h3.trans (congrArg _ h2.symm)) v x ⟨2,c,u⟩]
   rfl
theorem Pos.done {a:α}(h:Pos T L ans (.ret a) loc):∃ S1,T.run (TS0 L ans)=(some a,S1)/\S1.acc.length=ans.length/\S1.loc=loc:=by
 obtain⟨S',h1,h2,h3,h4⟩:=h
 exact⟨S',by rw [Pos.run h1 h2];rfl,h3,h4⟩
theorem Pos.get {i:Int}{k:Int->Prog α}(h:Pos T L ans (.get i k) loc):Pos T L ans (k (if i<0 then 0 else loc i.toNat)) loc:=by
 obtain⟨S',h1,h2,h3,h4⟩:=h
 refine⟨S',fun x=>?_,h2,h3,h4⟩
 rw [h1 x]
 show (k (TS.got _ i)).run _=_
 unfold TS.got
 simp only [h4]
theorem Pos.set {i v:Int}{k:Unit->Prog α}(h:Pos T L ans (.set i v k) loc):Pos T L ans (k ()) (if 0<=i/\i<32768 then fun j=>if j=i.toNat then v else loc j else loc):=by
 obtain⟨S',h1,h2,h3,h4⟩:=h
 refine⟨S'.upd i v,fun x=>?_,by rw [TS.upd_ans];exact h2,by rw [TS.upd_acc];exact h3,?_⟩
 · rw [TS.upd_ans]
   refine (h1 x).trans ?_
   show (k ()).run (TS.upd _ i v)=_
   rw [upd_with]
 · unfold TS.upd
   split <;> simp [h4]
theorem Pos.note {m:Int}{k:Unit->Prog α}(h:Pos T L ans (.note m k) loc):Pos T L ans (k ()) loc:=by
 obtain⟨S',h1,h2,h3,h4⟩:=h
 exact⟨S'.noted m,fun x=>(h1 x).trans rfl,h2,h3,h4⟩
end
end Go.Proofs.YtmmmiplmiooioaaGreat
namespace Kv
inductive Todo (σ:Type) where
 | rd (c:Int) (k:Int->σ)
 | wr (c v:Int) (s:σ)
 | fin (a:Int)
def treeM {σ:Type} (ask:σ->Todo σ):Nat->σ->Prog Int
 | 0,_=>.ret 0
 | f+1,s=>match ask s with
   | .rd c k=>.read c fun v=>treeM ask f (k v)
   | .wr c v s'=>.write c v fun _=>treeM ask f s'
   | .fin a=>.ret a
section
variable {σ:Type} {ask:σ->Todo σ} {f:Nat} {s:σ}
theorem treeM_rd {c:Int}{k:Int->σ}(h:ask s=.rd c k):treeM ask (f+1) s=(rd c).bind fun v=>treeM ask f (k v):=by
 show (match ask s with | .rd c k=>Prog.read c fun v=>treeM ask f (k v) | .wr c v s'=>.write c v fun _=>treeM ask f s' | .fin a=>.ret a)=_
 rw [h]
 rfl
theorem treeM_wr {c v:Int}{s':σ}(h:ask s=.wr c v s'):treeM ask (f+1) s=(wr c v).bind fun _=>treeM ask f s':=by
 show (match ask s with | .rd c k=>Prog.read c fun v=>treeM ask f (k v) | .wr c v s'=>.write c v fun _=>treeM ask f s' | .fin a=>.ret a)=_
 rw [h]
 rfl
theorem treeM_fin {a:Int}(h:ask s=.fin a):treeM ask (f+1) s=.ret a:=by
 show (match ask s with | .rd c k=>Prog.read c fun v=>treeM ask f (k v) | .wr c v s'=>.write c v fun _=>treeM ask f s' | .fin a=>.ret a)=_
 rw [h]
end
end Kv
namespace Go.Proofs.YtmmmiplmiooioaaGreat
open Go.RowKit Kv
def MPos {σ:Type} (ask:σ->Todo σ) (D:Nat) (s0:σ) (ans:List Int) (s:σ):Prop:=ans.length<D/\Pos (treeM ask D s0) [] ans (treeM ask (D-ans.length) s) (TS0 [] []).loc
section
variable {σ:Type} {ask:σ->Todo σ} {D:Nat} {s0 s:σ} {ans:List Int}
theorem MPos.start (hD:0<D):MPos ask D s0 [] s0:=⟨hD,Pos.start _ _⟩
theorem MPos.rd {c:Int}{k:Int->σ}(h:MPos ask D s0 ans s)(hk:ask s=.rd c k):(∃ S1 l,(treeM ask D s0).run (TS0 [] ans)=(none,S1)/\S1.acc=l++[⟨1,c,0⟩]/\l.length=ans.length)/\∀ v,ans.length+1<D->MPos ask D s0 (ans++[v]) (k v):=by
 obtain⟨h1,h2⟩:=h
 rw [show D-ans.length=(D-ans.length-1)+1 from by omega,treeM_rd hk] at h2
 have h3:=Pos.read (k:=fun v=>treeM ask (D-ans.length-1) (k v)) h2
 refine⟨h3.1,fun v hv=>⟨by simpa using hv,?_⟩⟩
 rw [show D-(ans++[v]).length=D-ans.length-1 from by simp;omega]
 exact h3.2 v
theorem MPos.wr {c u:Int}{s':σ}(h:MPos ask D s0 ans s)(hk:ask s=.wr c u s'):(∃ S1 l,(treeM ask D s0).run (TS0 [] ans)=(none,S1)/\S1.acc=l++[⟨2,c,u⟩]/\l.length=ans.length)/\∀ v,ans.length+1<D->MPos ask D s0 (ans++[v]) s':=by
 obtain⟨h1,h2⟩:=h
 rw [show D-ans.length=(D-ans.length-1)+1 from by omega,treeM_wr hk] at h2
 have h3:=Pos.write (k:=fun _=>treeM ask (D-ans.length-1) s') h2
 refine⟨h3.1,fun v hv=>⟨by simpa using hv,?_⟩⟩
 rw [show D-(ans++[v]).length=D-ans.length-1 from by simp;omega]
 exact h3.2 v
theorem MPos.fin {a:Int}(h:MPos ask D s0 ans s)(hk:ask s=.fin a):∃ S1,(treeM ask D s0).run (TS0 [] ans)=(some a,S1)/\S1.acc.length=ans.length:=by
 obtain⟨h1,h2⟩:=h
 rw [show D-ans.length=(D-ans.length-1)+1 from by omega,treeM_fin hk] at h2
 obtain⟨S1,q1,q2,_⟩:=h2.done
 exact⟨S1,q1,q2⟩
end
end Go.Proofs.YtmmmiplmiooioaaGreat
namespace Kv
theorem left_put {S:TS}{v:Int}(h:S.next=some v)(a:Acc):(S.put a).left+1=S.left:=by
 have h1:S.acc.length<S.ans.length:=(List.getElem?_eq_some_iff.1 (show S.ans[S.acc.length]?=some v from h)).1
 unfold TS.left TS.put
 simp only [List.length_append,List.length_cons,List.length_nil]
 omega
end Kv
namespace Go.Proofs.YtmmmiplmiooioaaGreat
open Go.RowKit Kv
section
variable {σ β:Type} {ask:σ->Todo σ} {s:σ} {D B p:Nat} {w0 w:World} {S:TS} {R:Ending->World->Prop} {P:Program} {f:FuncId} {args:Array Value} {K:Ending->World->Prop} {enc':Int->Value}
end
end Go.Proofs.YtmmmiplmiooioaaGreat
namespace Kv
inductive Query (σ:Type) where
 | rd (c:Int) (k:Int->σ)
 | wr (c v:Int) (s:σ)
 | fin (a:Int)
 | nt (n:Int) (t:Query σ)
 | st (i v:Int) (t:Query σ)
def Query.tree {σ:Type} (F:σ->Prog Int):Query σ->Prog Int
 | .rd c k=>.read c fun v=>F (k v)
 | .wr c v s=>.write c v fun _=>F s
 | .fin a=>.ret a
 | .nt n t=>.note n fun _=>t.tree F
 | .st i v t=>.set i v fun _=>t.tree F
def Query.strip {σ:Type}:Query σ->Query σ
 | .nt _ t=>t.strip
 | t=>t
def treeN {σ:Type} (ask:σ->Query σ):Nat->σ->Prog Int
 | 0,_=>.ret 0
 | f+1,s=>(ask s).tree (treeN ask f)
theorem left_noted (S:TS)(n:Int):(S.noted n).left=S.left:=rfl
theorem left_upd (S:TS)(i v:Int):(S.upd i v).left=S.left:=by
 unfold TS.left
 rw [TS.upd_ans,TS.upd_acc]
section
variable {σ:Type} {ask:σ->Query σ} {D:Nat} {s:σ}
theorem Query.tree_same {F G:σ->Prog Int}{L:Nat}(h:∀ s S,S.left<L->(F s).run S=(G s).run S):∀ (t:Query σ) (S:TS),S.left<L+1->(t.tree F).run S=(t.tree G).run S
 | .rd c k,S,hS=>by
   simp only [Query.tree,Prog.run]
   cases hn:S.next with
   | none=>rfl
   | some v =>
     have:=left_put hn ⟨1,c,0⟩
     exact h _ _ (by omega)
 | .wr c v s,S,hS=>by
   simp only [Query.tree,Prog.run]
   cases hn:S.next with
   | none=>rfl
   | some u =>
     have:=left_put hn ⟨2,c,v⟩
     exact h _ _ (by omega)
 | .fin a,S,hS=>rfl
 | .nt n t,S,hS=>Query.tree_same h t (S.noted n) (by rw [left_noted];exact hS)
 | .st i v t,S,hS=>Query.tree_same h t (S.upd i v) (by rw [left_upd];exact hS)
theorem treeN_fuel (ask:σ->Query σ):∀ (f g:Nat) (s:σ) (S:TS),S.left<f->S.left<g->(treeN ask f s).run S=(treeN ask g s).run S
 | 0,_,_,_,h,_=>absurd h (by omega)
 | _+1,0,_,_,_,h=>absurd h (by omega)
 | f+1,g+1,s,S,h1,h2=>by
   rcases Nat.le_total f g with hfg | hfg
   · exact Query.tree_same (L:=f) (fun s S h=>treeN_fuel ask f g s S h (by omega)) (ask s) S h1
   · exact Query.tree_same (L:=g) (fun s S h=>treeN_fuel ask f g s S (by omega) h) (ask s) S h2
def Alike {α:Type} (D:Nat) (A C:Prog α):Prop:=∀ S:TS,S.left<D->A.run S=C.run S
theorem Alike.refl {α:Type}(D:Nat)(A:Prog α):Alike D A A:=fun _ _=>rfl
theorem Alike.trans {α:Type}{A C E:Prog α}(h:Alike D A C)(h':Alike D C E):Alike D A E:=fun S hS=>(h S hS).trans (h' S hS)
theorem treeN_ask:Alike D (treeN ask D s) ((ask s).tree (treeN ask D)):=fun S hS=>by
 obtain⟨D',rfl⟩:∃ D',D=D'+1:=⟨D-1,by omega⟩
 exact Query.tree_same (L:=D') (fun s S h=>treeN_fuel ask D' (D'+1) s S h (by omega)) (ask s) S hS
theorem Alike.read {α:Type}{c:Int}{k k':Int->Prog α}(h:∀ v,Alike D (k v) (k' v)):Alike D (.read c k) (.read c k'):=fun S hS=>by
 simp only [Prog.run]
 cases hn:S.next with
 | none=>rfl
 | some v =>
   have:=left_put hn ⟨1,c,0⟩
   exact h v _ (by omega)
theorem Alike.write {α:Type}{c v:Int}{k k':Unit->Prog α}(h:Alike D (k ()) (k' ())):Alike D (.write c v k) (.write c v k'):=fun S hS=>by
 simp only [Prog.run]
 cases hn:S.next with
 | none=>rfl
 | some u =>
   have:=left_put hn ⟨2,c,v⟩
   exact h _ (by omega)
theorem Alike.note {α:Type}{n:Int}{k k':Unit->Prog α}(h:Alike D (k ()) (k' ())):Alike D (.note n k) (.note n k'):=fun S hS=>h (S.noted n) (by rw [left_noted];exact hS)
theorem Alike.set {α:Type}{i v:Int}{k k':Unit->Prog α}(h:Alike D (k ()) (k' ())):Alike D (.set i v k) (.set i v k'):=fun S hS=>h (S.upd i v) (by rw [left_upd];exact hS)
theorem spinN {c:Int}{s s':σ}(hk:ask s=.rd c fun v=>if v=0 then s' else s):∀ (f:Nat) (S:TS),S.left<f->S.left<D->(treeN ask D s).run S=((zeroC c f).bind fun _=>treeN ask D s').run S
 | 0,_,h,_=>absurd h (by omega)
 | f+1,S,h,hD=>by
   rw [treeN_ask S hD,hk,zeroC_bind]
   show Prog.run (.read c fun v=>treeN ask D (if v=0 then s' else s)) S=Prog.run (.read c fun x=>if x=0 then treeN ask D s' else (zeroC c f).bind fun _=>treeN ask D s') S
   simp only [Prog.run]
   cases hn:S.next with
   | none=>rfl
   | some v =>
     have:=left_put hn ⟨1,c,0⟩
     show (treeN ask D (if v=0 then s' else s)).run _=(if v=0 then treeN ask D s' else (zeroC c f).bind fun _=>treeN ask D s').run _
     split
     · rfl
     · exact spinN hk f _ (by omega) (by omega)
end
inductive Bd (β ο:Type) where
 | rd (c:Int) (k:Int->β ⊕ ο)
 | wr (c v:Int) (s:β ⊕ ο)
inductive OP (κ β ο:Type) where
 | st (k:κ) | ag (k:κ) | u (k:κ) (j:Nat) | bk (k:κ) (j:Nat) | z (k:κ) (j:Nat) | dn (k:κ) | d (k:κ) (j:Nat) | i (k:κ) | b (x:β) | o (y:ο) | e (y:ο)
structure OM (κ β ο:Type) where
 base:Int
 n:Nat
 me:Nat
 enter:κ->β
 body:β->Bd β ο
 aft:ο->Option κ
 sets:ο->Option (Int × Int)
 val:ο->Int
section
variable {κ β ο:Type} (M:OM κ β ο)
def OM.up (k:κ) (j:Nat):OP κ β ο:=if j<M.me then .u k j else .dn k
def OM.nxt:β ⊕ ο->OP κ β ο
 | .inl x=>.b x
 | .inr y=>.o y
def OM.bask (x:β):Query (OP κ β ο):=match M.body x with
 | .rd c k=>.rd c fun v=>OM.nxt (k v)
 | .wr c v s=>.wr c v (OM.nxt s)
def OM.iask (k:κ):Query (OP κ β ο):=.nt 3 (M.bask (M.enter k))
def OM.down (k:κ) (j:Nat):OP κ β ο:=if j<M.n then .d k j else .i k
def OM.dask (k:κ) (j:Nat):Query (OP κ β ο):=.rd (M.base+(j:Int)) fun v=>if v=0 then M.down k (j+1) else .d k j
def OM.behind (y:ο):OP κ β ο:=match M.aft y with
 | some k=>.st k
 | none=>.e y
def OM.ask:OP κ β ο->Query (OP κ β ο)
 | .st k=>.nt 1 (.wr (M.base+(M.me:Int)) 1 (M.up k 0))
 | .ag k=>.wr (M.base+(M.me:Int)) 1 (M.up k 0)
 | .u k j=>.rd (M.base+(j:Int)) fun v=>if v=0 then M.up k (j+1) else .bk k j
 | .bk k j=>.wr (M.base+(M.me:Int)) 0 (.z k j)
 | .z k j=>.rd (M.base+(j:Int)) fun v=>if v=0 then .ag k else .z k j
 | .dn k=>.nt 2 (if M.me+1<M.n then M.dask k (M.me+1) else M.iask k)
 | .d k j=>M.dask k j
 | .i k=>M.iask k
 | .b x=>M.bask x
 | .o y=>.nt 5 (.wr (M.base+(M.me:Int)) 0 (M.behind y))
 | .e y=>match M.sets y with
   | some (i,v)=>.st i v (.fin (M.val y))
   | none=>.fin (M.val y)
variable {M} {D:Nat}
theorem one_up {k:κ}:∀ (f j:Nat) (S:TS),j<=M.me->S.left<f->S.left<D->(treeN M.ask D (M.up k j)).run S=((oneUp D M.base M.me f j).bind fun _=>treeN M.ask D (.dn k)).run S
 | 0,_,_,_,h,_=>absurd h (by omega)
 | f+1,j,S,hj,h,hD=>by
   by_cases hjm:j<M.me
   · rw [oneUp_lt _ _ _ _ _ hjm,show M.up k j=OP.u k j from if_pos hjm,treeN_ask S hD]
     show Prog.run (.read (M.base+(j:Int)) fun v=>treeN M.ask D (if v=0 then M.up k (j+1) else .bk k j)) S=Prog.run (.read (M.base+(j:Int)) _) S
     simp only [Prog.run]
     cases hn:S.next with
     | none=>rfl
     | some v =>
       have:=left_put hn ⟨1,M.base+(j:Int),0⟩
       show (treeN M.ask D (if v=0 then M.up k (j+1) else .bk k j)).run _=(if v=0 then _ else _:Prog Int).run _
       split
       · exact one_up f (j+1) _ (by omega) (by omega) (by omega)
       · generalize hS1:S.put ⟨1,M.base+(j:Int),0⟩=S1 at *
         rw [treeN_ask S1 (by omega)]
         show Prog.run (.write (M.base+(M.me:Int)) 0 fun _=>treeN M.ask D (.z k j)) S1=Prog.run (.write (M.base+(M.me:Int)) 0 _) S1
         simp only [Prog.run]
         cases hn2:S1.next with
         | none=>rfl
         | some u =>
           have:=left_put hn2 ⟨2,M.base+(M.me:Int),0⟩
           generalize hS2:S1.put ⟨2,M.base+(M.me:Int),0⟩=S2 at *
           show (treeN M.ask D (.z k j)).run S2=((zeroC (M.base+(j:Int)) D).bind fun _=>(wr (M.base+(M.me:Int)) 1).bind fun _=>(oneUp D M.base M.me f 0).bind fun _=>treeN M.ask D (.dn k)).run S2
           rw [spinN (ask:=M.ask) (s:=.z k j) (s':=.ag k) (c:=M.base+(j:Int)) rfl D S2 (by omega) (by omega),Prog.run_bind,Prog.run_bind]
           have hl:=Prog.run_left (zeroC (M.base+(j:Int)) D) S2
           rcases hr:(zeroC (M.base+(j:Int)) D).run S2 with⟨r,S3⟩
           rw [hr] at hl
           cases r with
           | none=>rfl
           | some u =>
             show (treeN M.ask D (.ag k)).run S3=_
             have hl3:S3.left<=S2.left:=hl
             rw [treeN_ask S3 (by omega)]
             show Prog.run (.write (M.base+(M.me:Int)) 1 fun _=>treeN M.ask D (M.up k 0)) S3=Prog.run (.write (M.base+(M.me:Int)) 1 fun _=>(oneUp D M.base M.me f 0).bind fun _=>treeN M.ask D (.dn k)) S3
             simp only [Prog.run]
             cases hn4:S3.next with
             | none=>rfl
             | some u =>
               have:=left_put hn4 ⟨2,M.base+(M.me:Int),1⟩
               exact one_up f 0 _ (by omega) (by omega) (by omega)
   · obtain rfl:j=M.me:=by omega
     rw [oneUp_ge,show M.up k M.me=OP.dn k from if_neg (Nat.lt_irrefl _)]
theorem one_down {k:κ}:∀ (g j:Nat),g=M.n-j->Alike D ((if j<M.n then M.dask k j else M.iask k).tree (treeN M.ask D)) ((forP (fun j _=>zeroC (M.base+j) D) (ranksFrom (-1) g (j:Int)) ()).bind fun _=>(nt 3).bind fun _=>(M.bask (M.enter k)).tree (treeN M.ask D))
 | 0,j,hg=>by
   rw [if_neg (by omega),ranks_zero,forP_nilB]
   exact Alike.refl _ _
 | g+1,j,hg=>by
   intro S hS
   have hj:j<M.n:=by omega
   rw [if_pos hj,ranks_cons _ _ _ (by omega),forP_consB]
   have h1:(((M.dask k j).tree (treeN M.ask D))).run S=(treeN M.ask D (.d k j)).run S:=(treeN_ask (ask:=M.ask) (s:=.d k j) S hS).symm
   rw [h1,spinN (ask:=M.ask) (s:=.d k j) (s':=M.down k (j+1)) (c:=M.base+(j:Int)) rfl D S hS hS,Prog.run_bind,Prog.run_bind]
   have hl:=Prog.run_left (zeroC (M.base+(j:Int)) D) S
   rcases hr:(zeroC (M.base+(j:Int)) D).run S with⟨r,S3⟩
   rw [hr] at hl
   cases r with
   | none=>rfl
   | some u =>
     have hl3:S3.left<=S.left:=hl
     have h2:=one_down (k:=k) g (j+1) (by omega) S3 (by omega)
     show (treeN M.ask D (M.down k (j+1))).run S3=_
     rw [treeN_ask S3 (by omega),show M.ask (M.down k (j+1))=(if j+1<M.n then M.dask k (j+1) else M.iask k) from by unfold OM.down;split <;> rfl,h2,show ((j+1:Nat):Int)=(j:Int)+1 from by omega]
     rfl
theorem one_in (k:κ):Alike D (treeN M.ask D (.st k)) ((oneA D M.base M.n M.me).bind fun _=>(M.bask (M.enter k)).tree (treeN M.ask D)):=by
 refine treeN_ask.trans ?_
 show Alike D (.note 1 fun _=>.write (M.base+(M.me:Int)) 1 fun _=>treeN M.ask D (M.up k 0)) _
 unfold oneA
 simp only [Prog.bind_assoc]
 refine Alike.note (Alike.write fun S hS=>?_)
 have h1:=one_up (M:=M) (D:=D) (k:=k) D 0 S (by omega) hS hS
 rw [h1]
 show ((oneUp D M.base M.me D 0).bind fun _=>treeN M.ask D (.dn k)).run S=Prog.run ((oneUp D M.base M.me D 0).bind _) S
 rw [Prog.run_bind,Prog.run_bind]
 have hl:=Prog.run_left (oneUp D M.base M.me D 0) S
 rcases hr:(oneUp D M.base M.me D 0).run S with⟨r,S3⟩
 rw [hr] at hl
 cases r with
 | none=>rfl
 | some u =>
   have hl3:S3.left<=S.left:=hl
   show (treeN M.ask D (.dn k)).run S3=_
   rw [treeN_ask S3 (by omega)]
   have h2:=one_down (M:=M) (D:=D) (k:=k) (M.n-(M.me+1)) (M.me+1) rfl (S3.noted 2) (by rw [left_noted];omega)
   show ((if M.me+1<M.n then M.dask k (M.me+1) else M.iask k).tree (treeN M.ask D)).run (S3.noted 2)=_
   rw [h2,show M.n-(M.me+1)=M.n-1-M.me from by omega]
   rfl
theorem one_out (y:ο):Alike D (treeN M.ask D (.o y)) ((oneR M.base M.me).bind fun _=>treeN M.ask D (M.behind y)):=treeN_ask.trans (Alike.refl _ _)
end
end Kv
namespace Go.Proofs.YtmmmiplmiooioaaGreat
open Go.RowKit Kv
theorem Pos.strip {σ:Type}{T:Prog Int}{L ans:List Int}{F:σ->Prog Int}{loc:Nat->Int}:∀ {a:Query σ},Pos T L ans (a.tree F) loc->Pos T L ans (a.strip.tree F) loc
 | .rd _ _,h=>h
 | .wr _ _ _,h=>h
 | .fin _,h=>h
 | .nt _ t,h=>Pos.strip (a:=t) (Pos.note h)
 | .st _ _ _,h=>h
def NPos {σ:Type} (ask:σ->Query σ) (D:Nat) (L:List Int) (s0:σ) (ans:List Int) (s:σ):Prop:=ans.length<D/\Pos (treeN ask D s0) L ans (treeN ask (D-ans.length) s) (TS0 L []).loc
section
variable {σ:Type} {ask:σ->Query σ} {D:Nat} {L:List Int} {s0 s:σ} {ans:List Int}
theorem NPos.start (hD:0<D):NPos ask D L s0 [] s0:=⟨hD,Pos.start _ _⟩
theorem NPos.open_ (h:NPos ask D L s0 ans s):Pos (treeN ask D s0) L ans ((ask s).strip.tree (treeN ask (D-ans.length-1))) (TS0 L []).loc:=by
 obtain⟨h1,h2⟩:=h
 rw [show D-ans.length=(D-ans.length-1)+1 from by omega] at h2
 exact Pos.strip h2
theorem NPos.rd {c:Int}{k:Int->σ}(h:NPos ask D L s0 ans s)(hk:(ask s).strip=.rd c k):(∃ S1 l,(treeN ask D s0).run (TS0 L ans)=(none,S1)/\S1.acc=l++[⟨1,c,0⟩]/\l.length=ans.length)/\∀ v,ans.length+1<D->NPos ask D L s0 (ans++[v]) (k v):=by
 have h2:=h.open_
 rw [hk] at h2
 have h3:=Pos.read (k:=fun v=>treeN ask (D-ans.length-1) (k v)) h2
 refine⟨h3.1,fun v hv=>⟨by simpa using hv,?_⟩⟩
 rw [show D-(ans++[v]).length=D-ans.length-1 from by simp;omega]
 exact h3.2 v
theorem NPos.wr {c u:Int}{s':σ}(h:NPos ask D L s0 ans s)(hk:(ask s).strip=.wr c u s'):(∃ S1 l,(treeN ask D s0).run (TS0 L ans)=(none,S1)/\S1.acc=l++[⟨2,c,u⟩]/\l.length=ans.length)/\∀ v,ans.length+1<D->NPos ask D L s0 (ans++[v]) s':=by
 have h2:=h.open_
 rw [hk] at h2
 have h3:=Pos.write (k:=fun _=>treeN ask (D-ans.length-1) s') h2
 refine⟨h3.1,fun v hv=>⟨by simpa using hv,?_⟩⟩
 rw [show D-(ans++[v]).length=D-ans.length-1 from by simp;omega]
 exact h3.2 v
theorem NPos.fin {a:Int}(h:NPos ask D L s0 ans s)(hk:(ask s).strip=.fin a):∃ S1,(treeN ask D s0).run (TS0 L ans)=(some a,S1)/\S1.acc.length=ans.length/\S1.loc=(TS0 L []).loc:=by
 have h2:=h.open_
 rw [hk] at h2
 exact h2.done
theorem NPos.sfin {a i v:Int}(h:NPos ask D L s0 ans s)(hk:(ask s).strip=.st i v (.fin a))(hi:0<=i/\i<32768):∃ S1,(treeN ask D s0).run (TS0 L ans)=(some a,S1)/\S1.acc.length=ans.length/\S1.loc=fun j=>if j=i.toNat then v else (TS0 L []).loc j:=by
 have h2:=h.open_
 rw [hk] at h2
 have h3:=Pos.set (k:=fun _=>.ret a) h2
 rw [if_pos hi] at h3
 exact h3.done
end
end Go.Proofs.YtmmmiplmiooioaaGreat
namespace Kv
section
variable {κ β ο:Type}
def OP.past (me:Nat) (j:Nat):OP κ β ο->Prop
 | .u _ k=>j<k
 | .dn _=>j<me
 | .d _ k=>j<k
 | .i _=>True
 | .b _=>True
 | .o _=>True
 | _=>False
def OP.one:OP κ β ο->Prop
 | .u _ _=>True
 | .dn _=>True
 | .d _ _=>True
 | .i _=>True
 | .b _=>True
 | .o _=>True
 | _=>False
theorem OP.past.one {me j:Nat}{p:OP κ β ο}(h:p.past me j):p.one:=by
 cases p <;> first | trivial | exact h
def OP.wf (n me:Nat):OP κ β ο->Prop
 | .u _ j=>j<me
 | .bk _ j=>j<me
 | .z _ j=>j<me
 | .d _ j=>me<j/\j<n
 | _=>True
def OP.ins:OP κ β ο->Prop
 | .b _=>True
 | .o _=>True
 | _=>False
structure BOk (n:Nat) (pc:Nat->OP κ β ο) (F:Nat->Int):Prop where
 flag:∀ t,t<n->(pc t).one->F t=1
 apart:∀ t s,t<n->s<n->t≠s->(pc t).past t s->¬ (pc s).past s t
 wf:∀ t,t<n->(pc t).wf n t
def putP (pc:Nat->OP κ β ο) (t:Nat) (x:OP κ β ο):Nat->OP κ β ο:=fun s=>if s=t then x else pc s
theorem putP_self (pc:Nat->OP κ β ο)(t:Nat)(x:OP κ β ο):putP pc t x t=x:=if_pos rfl
theorem putP_ne {pc:Nat->OP κ β ο}{t s:Nat}{x:OP κ β ο}(h:s≠t):putP pc t x s=pc s:=if_neg h
theorem BOk.init (n:Nat)(k:Nat->κ):BOk n (fun t=>(OP.st (k t):OP κ β ο)) (fun _=>0) :=
 ⟨fun _ _ h=>h.elim,fun _ _ _ _ _ h=>h.elim,fun _ _=>trivial⟩
theorem BOk.alone {n:Nat}{pc:Nat->OP κ β ο}{F:Nat->Int}(h:BOk n pc F){t s:Nat}(ht:t<n)(hs:s<n)(hne:t≠s)(h1:∀ j,j<n->j≠t->(pc t).past t j)(h2:(pc s).ins):False:=by
 refine h.apart t s ht hs hne (h1 s hs (Ne.symm hne)) ?_
 revert h2
 cases pc s <;> intro h2 <;> first | trivial | exact h2.elim
theorem BOk.step {n:Nat}{pc:Nat->OP κ β ο}{F F':Nat->Int}(h:BOk n pc F){t:Nat}(ht:t<n)(x:OP κ β ο)
  (hF:∀ s,s≠t->F' s=F s)(hx:x.one->F' t=1)(hp:∀ j,j<n->j≠t->x.past t j->(pc t).past t j∨F j≠1)(hw:x.wf n t):BOk n (putP pc t x) F':=by
 refine⟨fun s hs h2=>?_,fun s r hs hr hne h1 h2=>?_,fun s hs=>?_⟩
 · by_cases e:s=t
   · subst e;rw [putP_self] at h2;exact hx h2
   · rw [putP_ne e] at h2;rw [hF s e];exact h.flag s hs h2
 · by_cases e:s=t
   · subst e
     rw [putP_self] at h1
     rw [putP_ne (Ne.symm hne)] at h2
     rcases hp r hr (Ne.symm hne) h1 with h3 | h3
     · exact h.apart s r hs hr hne h3 h2
     · exact h3 (h.flag r hr h2.one)
   · rw [putP_ne e] at h1
     by_cases e2:r=t
     · subst e2
       rw [putP_self] at h2
       rcases hp s hs hne h2 with h3 | h3
       · exact h.apart s r hs hr hne h1 h3
       · exact h3 (h.flag s hs h1.one)
     · rw [putP_ne e2] at h2
       exact h.apart s r hs hr hne h1 h2
 · by_cases e:s=t
   · subst e;rw [putP_self];exact hw
   · rw [putP_ne e];exact h.wf s hs
def OP.ctx? : OP κ β ο->Option κ
 | .st k=>some k
 | .ag k=>some k
 | .u k _=>some k
 | .bk k _=>some k
 | .z k _=>some k
 | .dn k=>some k
 | .d k _=>some k
 | .i k=>some k
 | _=>none
inductive Does (M:OM κ β ο) (F:Nat->Int) (pc:Nat->OP κ β ο) (t:Nat):Prop
 | look (j:Nat) (k:Int->OP κ β ο):j<M.n->(M.ask (pc t)).strip=.rd (M.base+(j:Int)) k->(∀ x,¬ (k (F j)).ins/\k (F j)≠.e x)->(∃ c,(pc t).ctx?=some c/\(k (F j)).ctx?=some c)->BOk M.n (putP pc t (k (F j))) F->Does M F pc t
 | tell (v:Int) (s:OP κ β ο):(v=0∨v=1)->(M.ask (pc t)).strip=.wr (M.base+(t:Int)) v s->((∃ c,(pc t).ctx?=some c/\s.ctx?=some c)/\¬ s.ins∨∃ y,pc t=.o y/\s=M.behind y)->BOk M.n (putP pc t s) (fun r=>if r=t then v else F r)->Does M F pc t
 | body (x:β):(pc t=.b x∨∃ k,(pc t).ctx?=some k/\x=M.enter k)->(M.ask (pc t)).strip=(M.bask x).strip->(∀ j,j<M.n->j≠t->(pc t).past t j)->(pc t).one->Does M F pc t
 | done (y:ο):pc t=.e y->Does M F pc t
theorem ctx_not {p:OP κ β ο}{c:κ}(h:p.ctx?=some c):¬ p.ins/\∀ x,p≠.e x:=by
 cases p <;> first | (cases h;done) | exact⟨fun h=>h,fun x h=>nomatch h⟩
theorem up_ctx (M:OM κ β ο)(k:κ)(j:Nat):(M.up k j).ctx?=some k:=by unfold OM.up;split <;> rfl
theorem down_ctx (M:OM κ β ο)(k:κ)(j:Nat):(M.down k j).ctx?=some k:=by unfold OM.down;split <;> rfl
theorem up_past {M:OM κ β ο}{k:κ}{j i:Nat}(hj:j<=M.me)(h:(M.up k j).past M.me i):i<j:=by
 unfold OM.up at h
 split at h
 · exact h
 · have h:i<M.me:=h
   omega
theorem up_wf (M:OM κ β ο)(k:κ)(j:Nat):(M.up k j).wf M.n M.me:=by
 unfold OM.up
 split
 · assumption
 · trivial
theorem down_past {M:OM κ β ο}{k:κ}{j i:Nat}(hi:i<M.n)(h:(M.down k j).past M.me i):i<j:=by
 unfold OM.down at h
 split at h
 · exact h
 · omega
theorem down_wf {M:OM κ β ο}{k:κ}{j:Nat}(hj:M.me<j):(M.down k j).wf M.n M.me:=by
 unfold OM.down
 split
 · exact⟨hj,by assumption⟩
 · trivial
theorem behind_cases (M:OM κ β ο)(y:ο):(∃ k,M.aft y=some k/\M.behind y=.st k)∨(M.aft y=none/\M.behind y=.e y):=by
 unfold OM.behind
 cases M.aft y with
 | none=>exact .inr ⟨rfl,rfl⟩
 | some k=>exact .inl ⟨k,rfl,rfl⟩
theorem bask_strip (M:OM κ β ο)(x:β):(M.bask x).strip=M.bask x:=by
 unfold OM.bask
 split <;> rfl
theorem BOk.does {M:OM κ β ο}{F:Nat->Int}{pc:Nat->OP κ β ο}{t:Nat}(h:BOk M.n pc F)(ht:t<M.n)(hm:M.me=t):Does M F pc t:=by
 subst hm
 have hf:=h.flag M.me ht
 have hw:=h.wf M.me ht
 have same:∀ s,s≠M.me->F s=F s:=fun _ _=>rfl
 have other:∀ v s,s≠M.me->(fun r=>if r=M.me then v else F r) s=F s:=fun v s hs=>if_neg hs
 cases hp:pc M.me with
 | st k =>
   refine .tell 1 (M.up k 0) (.inr rfl) (by rw [hp];rfl) (.inl ⟨⟨k,by rw [hp];rfl,up_ctx M k 0⟩,(ctx_not (up_ctx M k 0)).1⟩) (h.step ht _ (other 1) (fun _=>if_pos rfl) (fun j _ _ q=>?_) (up_wf M k 0))
   exact absurd (up_past (by omega) q) (by omega)
 | ag k =>
   refine .tell 1 (M.up k 0) (.inr rfl) (by rw [hp];rfl) (.inl ⟨⟨k,by rw [hp];rfl,up_ctx M k 0⟩,(ctx_not (up_ctx M k 0)).1⟩) (h.step ht _ (other 1) (fun _=>if_pos rfl) (fun j _ _ q=>?_) (up_wf M k 0))
   exact absurd (up_past (by omega) q) (by omega)
 | u k j =>
   rw [hp] at hf hw
   have hj:j<M.me:=hw
   have hc:(if F j=0 then M.up k (j+1) else OP.bk k j).ctx?=some k:=by split;exact up_ctx M k _;rfl
   refine .look j (fun v=>if v=0 then M.up k (j+1) else .bk k j) (by omega) (by rw [hp];rfl) (fun x=>⟨(ctx_not hc).1,(ctx_not hc).2 x⟩) ⟨k,by rw [hp];rfl,hc⟩ ?_
   by_cases h0:F j=0
   · rw [if_pos h0]
     refine h.step ht _ same (fun _=>hf trivial) (fun i _ _ q=>?_) (up_wf M k _)
     have hi:=up_past (by omega) q
     by_cases e:i=j
     · subst e;exact .inr (by omega)
     · refine .inl ?_
       rw [hp]
       show i<j
       omega
   · rw [if_neg h0]
     exact h.step ht _ same (fun q=>q.elim) (fun i _ _ q=>q.elim) hj
 | bk k j =>
   rw [hp] at hw
   exact .tell 0 (.z k j) (.inl rfl) (by rw [hp];rfl) (.inl ⟨⟨k,by rw [hp];rfl,rfl⟩,fun q=>q⟩) (h.step ht _ (other 0) (fun q=>q.elim) (fun i _ _ q=>q.elim) hw)
 | z k j =>
   rw [hp] at hw
   have hj:j<M.me:=hw
   have hc:(if F j=0 then OP.ag k else OP.z k j:OP κ β ο).ctx?=some k:=by split <;> rfl
   refine .look j (fun v=>if v=0 then .ag k else .z k j) (by omega) (by rw [hp];rfl) (fun x=>⟨(ctx_not hc).1,(ctx_not hc).2 x⟩) ⟨k,by rw [hp];rfl,hc⟩ ?_
   split
   · exact h.step ht _ same (fun q=>q.elim) (fun i _ _ q=>q.elim) trivial
   · exact h.step ht _ same (fun q=>q.elim) (fun i _ _ q=>q.elim) hw
 | dn k =>
   rw [hp] at hf
   by_cases hn:M.me+1<M.n
   · have hc:(if F (M.me+1)=0 then M.down k (M.me+1+1) else OP.d k (M.me+1)).ctx?=some k:=by split;exact down_ctx M k _;rfl
     refine .look (M.me+1) (fun v=>if v=0 then M.down k (M.me+1+1) else .d k (M.me+1)) hn ?_ (fun x=>⟨(ctx_not hc).1,(ctx_not hc).2 x⟩) ⟨k,by rw [hp];rfl,hc⟩ ?_
     · rw [hp]
       show (if M.me+1<M.n then M.dask k (M.me+1) else M.iask k).strip=_
       rw [if_pos hn]
       rfl
     · by_cases h0:F (M.me+1)=0
       · rw [if_pos h0]
         refine h.step ht _ same (fun _=>hf trivial) (fun i hi hne q=>?_) (down_wf (by omega))
         have hi2:=down_past hi q
         by_cases e:i=M.me+1
         · subst e;exact .inr (by omega)
         · refine .inl ?_
           rw [hp]
           show i<M.me
           omega
       · rw [if_neg h0]
         refine h.step ht _ same (fun _=>hf trivial) (fun i _ hne q=>?_) ⟨by omega,hn⟩
         have q:i<M.me+1:=q
         refine .inl ?_
         rw [hp]
         show i<M.me
         omega
   · have hck:(pc M.me).ctx?=some k:=by rw [hp];rfl
     refine .body (M.enter k) (.inr ⟨k,hck,rfl⟩) ?_ (fun j hj hne=>?_) ?_
     · rw [hp]
       show (if M.me+1<M.n then M.dask k (M.me+1) else M.iask k).strip=_
       rw [if_neg hn]
       rfl
     · rw [hp]
       show j<M.me
       omega
     · rw [hp];trivial
 | d k j =>
   rw [hp] at hf hw
   obtain⟨h1,h2⟩:M.me<j/\j<M.n:=hw
   have hc:(if F j=0 then M.down k (j+1) else OP.d k j).ctx?=some k:=by split;exact down_ctx M k _;rfl
   refine .look j (fun v=>if v=0 then M.down k (j+1) else .d k j) h2 (by rw [hp];rfl) (fun x=>⟨(ctx_not hc).1,(ctx_not hc).2 x⟩) ⟨k,by rw [hp];rfl,hc⟩ ?_
   by_cases h0:F j=0
   · rw [if_pos h0]
     refine h.step ht _ same (fun _=>hf trivial) (fun i hi hne q=>?_) (down_wf (by omega))
     have hi2:=down_past hi q
     by_cases e:i=j
     · subst e;exact .inr (by omega)
     · refine .inl ?_
       rw [hp]
       show i<j
       omega
   · rw [if_neg h0]
     exact h.step ht _ same (fun _=>hf trivial) (fun i _ hne q=>.inl (by rw [hp];exact q)) ⟨h1,h2⟩
 | i k =>
   have hck:(pc M.me).ctx?=some k:=by rw [hp];rfl
   exact .body (M.enter k) (.inr ⟨k,hck,rfl⟩) (by rw [hp];rfl) (fun j _ _=>by rw [hp];trivial) (by rw [hp];trivial)
 | b x=>exact .body x (.inl hp) (by rw [hp];rfl) (fun j _ _=>by rw [hp];trivial) (by rw [hp];trivial)
 | o y =>
   refine .tell 0 (M.behind y) (.inl rfl) (by rw [hp];rfl) (.inr ⟨y,hp,rfl⟩) ?_
   rcases behind_cases M y with⟨k,_,e⟩ | ⟨_,e⟩
   · rw [e]
     exact h.step ht _ (other 0) (fun q=>q.elim) (fun i _ _ q=>q.elim) trivial
   · rw [e]
     exact h.step ht _ (other 0) (fun q=>q.elim) (fun i _ _ q=>q.elim) trivial
 | e y=>exact .done y hp
theorem BOk.inner {M:OM κ β ο}{F:Nat->Int}{pc:Nat->OP κ β ο}{t:Nat}(h:BOk M.n pc F)(ht:t<M.n)(h1:∀ j,j<M.n->j≠t->(pc t).past t j)(h2:(pc t).one)(x:β ⊕ ο):BOk M.n (putP pc t (OM.nxt x)) F :=
 h.step ht _ (fun _ _=>rfl) (fun _=>h.flag t ht h2) (fun j hj hne _=>.inl (h1 j hj hne)) (by cases x <;> trivial)
end
end Kv
namespace Go.Proofs.YtmmmiplmiooioaaGreat
open Go.RowKit Kv
theorem NPos.more {κ β ο:Type}{M:OM κ β ο}{D:Nat}{L:List Int}{s0 p:OP κ β ο}{ans:List Int}(h:NPos M.ask D L s0 ans p)(hp:∀ y,p≠.e y):∃ S1,(treeN M.ask D s0).run (TS0 L ans)=(none,S1):=by
 have hr:∀ {c k},(M.ask p).strip=.rd c k->∃ S1,(treeN M.ask D s0).run (TS0 L ans)=(none,S1):=fun e=>by
  obtain⟨S1,_,q,_⟩:=(h.rd e).1
  exact⟨S1,q⟩
 have hw:∀ {c v s},(M.ask p).strip=.wr c v s->∃ S1,(treeN M.ask D s0).run (TS0 L ans)=(none,S1):=fun e=>by
  obtain⟨S1,_,q,_⟩:=(h.wr e).1
  exact⟨S1,q⟩
 have hb:∀ {x},(M.ask p).strip=(M.bask x).strip->∃ S1,(treeN M.ask D s0).run (TS0 L ans)=(none,S1):=fun {x} e=>by
  rw [bask_strip] at e
  unfold OM.bask at e
  cases hx:M.body x with
  | rd c k=>rw [hx] at e;exact hr e
  | wr c v s=>rw [hx] at e;exact hw e
 cases p with
 | st k=>exact hw rfl
 | ag k=>exact hw rfl
 | u k j=>exact hr rfl
 | bk k j=>exact hw rfl
 | z k j=>exact hr rfl
 | dn k =>
   by_cases hn:M.me+1<M.n
   · refine hr (c:=M.base+((M.me+1:Nat):Int)) (k:=fun v=>if v=0 then M.down k (M.me+1+1) else .d k (M.me+1)) ?_
     show (if M.me+1<M.n then M.dask k (M.me+1) else M.iask k).strip=_
     rw [if_pos hn]
     rfl
   · refine hb (x:=M.enter k) ?_
     show (if M.me+1<M.n then M.dask k (M.me+1) else M.iask k).strip=_
     rw [if_neg hn]
     rfl
 | d k j=>exact hr rfl
 | i k=>exact hb rfl
 | b x=>exact hb rfl
 | o y=>exact hw rfl
 | e y=>exact absurd rfl (hp y)
end Go.Proofs.YtmmmiplmiooioaaGreat
namespace Kv
def zeros (n:Nat):List Int:=List.replicate n 0
end Kv
namespace Go.Proofs.YtmmmiplmiooioaaGreat
open Go.RowKit Kv
theorem make_ints (l:Int)(k:Nat)(hl:l=k)(hk:k<=100000)(w:World) :
  (Instr.makeSlice 33 (.int .i64 l) (.int .i64 l)).run Tryz.prog w=.ok (.slice (some ⟨w.heap.size,0,none⟩) k k) (w.alloc (.cells ((zeros k).map (Value.int .i64)).toArray 3)):=by
 subst hl
 obtain⟨i0,hi,hz0,hz1,hz2⟩:=info_parts info_int
 have hr:=run_makeSlice (P:=Tryz.prog) w 33 3 i0 (.int .i64 0) Tryz.underlying33 hi hz0 .i64 .i64 k k (by omega) (by omega) (by rw [hz1];simp;omega) (by rw [hz2];omega) (by omega)
 rw [Int.toNat_natCast,hz1,Nat.mul_one] at hr
 have he:madeCells (Value.int .i64 0).cells k=((zeros k).map (Value.int .i64)).toArray:=by
  unfold zeros madeCells
  apply Array.ext'
  rw [List.map_replicate]
  apply List.ext_getElem?
  intro j
  by_cases hj:j<k
  · simp [hj,Nat.mod_one,Value.cells]
  · simp [hj]
 rw [hr,he]
end Go.Proofs.YtmmmiplmiooioaaGreat
