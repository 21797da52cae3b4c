/-
  EisenOne holds: at any paces, on atomic cells, no two are in at once, each of up to four threads once, or again and again, without conditions.
-/
import Derived.Test.YtbphlkaihfbgeaaJEisenOneSaid3
import Derived.Deep.RegionLaw
import Derived.Deep.AppendLies
import Derived.Deep.RegionHeld2
import Derived.Deep.DeepCutAuto
namespace Go.Proofs.Ytbphlkaihfbgeaa
open Go.RowKit Kv
theorem blk_ne {w:World}{b b' i:Nat}{o:Obj}(h:Blk w b o)(hne:b≠b')(u:Value):Blk (w.setCell ⟨b',i,none⟩ u) b o:=by
 show (w.setCell ⟨b',i,none⟩ u).heap[b]?=_
 rw [heap_setCell_ne _ _ hne]
 exact h
def fours (f:Nat->Int):List Value:=(List.range 4).map fun t=>Value.int .i64 (f t)
theorem fours_at {f:Nat->Int}{t:Nat}(h:t<4):(fours f).toArray[t]?=some (.int .i64 (f t)):=by simp [fours,h]
def putF (f:Nat->Int) (t:Nat) (x:Int):Nat->Int:=fun s=>if s=t then x else f s
theorem fours_put {f:Nat->Int}{t:Nat}{x:Int}(h:t<4):(fours f).toArray.setIfInBounds t (.int .i64 x)=(fours (putF f t x)).toArray:=by
 apply Array.ext_getElem?
 intro i
 by_cases hi:t=i
 · subst hi
   rw [Array.getElem?_setIfInBounds_self_of_lt (by simpa [fours] using h),fours_at h]
   simp [putF]
 · rw [Array.getElem?_setIfInBounds_ne hi]
   by_cases h4:i<4
   · rw [fours_at h4,fours_at h4]
     simp [putF,Ne.symm hi]
   · rw [Array.getElem?_eq_none (by simp [fours];omega),Array.getElem?_eq_none (by simp [fours];omega)]
theorem lay_end {V0 wq:World}{bl b:Nat}{rs:List Reg}{T:TypeId}{v:Value}(hz:Blk wq bl (.cells #[.slice none 0 0] T))(hx:Ext V0 wq)(hV:V0.heap.size<=bl)(hb:b<wq.heap.size)(hne:rs≠[])
  (hc:∀ (i:Nat) u,(rs.flatMap regVals)[i]?=some u->wq.cell? ⟨b,i,none⟩=some u):Ext V0 (wq.setCell ⟨bl,0,none⟩ v)/\Blk (wq.setCell ⟨bl,0,none⟩ v) bl (.cells #[v] T)/\b<(wq.setCell ⟨bl,0,none⟩ v).heap.size/\(∀ (i:Nat) u,(rs.flatMap regVals)[i]?=some u->(wq.setCell ⟨bl,0,none⟩ v).cell? ⟨b,i,none⟩=some u):=by
 have hn:b≠bl:=fun e=>by
  cases rs with
  | nil=>exact hne rfl
  | cons r rs =>
    have h1:=hc 0 (.int .i64 r.kind) rfl
    rw [e,hz.cells 0] at h1
    cases h1
 refine⟨hx.setCell (p:=⟨bl,0,none⟩) hV v,heap_setCell hz v,by simpa using hb,fun i u hu=>?_⟩
 have h1:(wq.setCell ⟨bl,0,none⟩ v).heap[b]?=wq.heap[b]?:=heap_setCell_ne _ _ hn
 exact (World.cell?_of_block (w:=wq) (a:=⟨b,i,none⟩) h1).trans (hc i u hu)
theorem box_end {V0 wq:World}{bz:Nat}{T:TypeId}{v0 v:Value}(hz:Blk wq bz (.cells #[v0] T))(hx:Ext V0 wq)(hV:V0.heap.size<=bz):Ext V0 (wq.setCell ⟨bz,0,none⟩ v)/\Blk (wq.setCell ⟨bz,0,none⟩ v) bz (.cells #[v] T) :=
 ⟨hx.setCell (p:=⟨bz,0,none⟩) hV v,heap_setCell hz v⟩
structure QMem (w0:World) (bn bl bc ba bp:Nat) (on ol:Obj) (wr:World) (M:List Int) (ph:Nat->Int) (ans:Nat->List Int) (vs:Array Value):Prop where
 ext:Ext w0 wr
 kN:Blk wr bn on
 kL:Blk wr bl ol
 kC:Blk wr bc (.cells (M.map (Value.int .i64)).toArray 3)
 kA:Blk wr ba (.cells vs 58)
 kP:Blk wr bp (.cells (fours ph).toArray 50)
 rows:ARows w0.heap.size [bn,bl,bc,ba,bp] wr vs ans 4
 lo:bn<w0.heap.size/\bl<w0.heap.size
 ge:w0.heap.size<=bc/\w0.heap.size<=ba/\w0.heap.size<=bp
 ne:bn≠bl/\bn≠bc/\bn≠ba/\bn≠bp/\bl≠bc/\bl≠ba/\bl≠bp/\bc≠ba/\bc≠bp/\ba≠bp
section
variable {w0 wr W:World} {bn bl bc ba bp:Nat} {on ol:Obj} {M:List Int} {ph:Nat->Int} {ans:Nat->List Int} {vs:Array Value}
theorem QMem.keep (h:QMem w0 bn bl bc ba bp on ol wr M ph ans vs)(hx:Ext wr W):QMem w0 bn bl bc ba bp on ol W M ph ans vs :=
 { h with
  ext:=h.ext.trans hx,kN:=h.kN.ext hx,kL:=h.kL.ext hx,kC:=h.kC.ext hx,kA:=h.kA.ext hx,kP:=h.kP.ext hx,rows:=h.rows.ext hx }
theorem QMem.setC (h:QMem w0 bn bl bc ba bp on ol wr M ph ans vs)(i:Nat)(u:Int):QMem w0 bn bl bc ba bp on ol (wr.setCell ⟨bc,i,none⟩ (.int .i64 u)) (M.set i u) ph ans vs:=by
 obtain⟨n1,n2,n3,n4,n5,n6,n7,n8,n9,n10⟩:=h.ne
 exact { h with
  ext:=h.ext.setCell (p:=⟨bc,i,none⟩) h.ge.1 _,kN:=blk_ne h.kN n2 _,kL:=blk_ne h.kL n5 _,kA:=blk_ne h.kA (Ne.symm n8) _,kP:=blk_ne h.kP (Ne.symm n9) _
  kC:=by
   have q:=heap_setCell (i:=i) h.kC (.int .i64 u)
   rw [List.map_set,<- List.setIfInBounds_toArray]
   exact q
  rows:=h.rows.set (by simp) _ _ }
theorem QMem.setP (h:QMem w0 bn bl bc ba bp on ol wr M ph ans vs){t:Nat}(ht:t<4)(x:Int):QMem w0 bn bl bc ba bp on ol (wr.setCell ⟨bp,t,none⟩ (.int .i64 x)) M (putF ph t x) ans vs:=by
 obtain⟨n1,n2,n3,n4,n5,n6,n7,n8,n9,n10⟩:=h.ne
 exact { h with
  ext:=h.ext.setCell (p:=⟨bp,t,none⟩) h.ge.2.2 _,kN:=blk_ne h.kN n4 _,kL:=blk_ne h.kL n7 _,kC:=blk_ne h.kC n9 _,kA:=blk_ne h.kA n10 _
  kP:=by rw [<- fours_put ht];exact heap_setCell h.kP _
  rows:=h.rows.set (by simp) _ _ }
theorem QMem.same (h:QMem w0 bn bl bc ba bp on ol wr M ph ans vs){ph':Nat->Int}(he:∀ t,t<4->ph' t=ph t):QMem w0 bn bl bc ba bp on ol wr M ph' ans vs :=
 { h with
  kP:=by
   have:fours ph'=fours ph:=by
    unfold fours
    refine List.map_congr_left fun t ht=>?_
    rw [he t (by simpa using ht)]
   rw [this]
   exact h.kP }
theorem QMem.clear (h:QMem w0 bn bl bc ba bp on ol wr M ph ans vs)(t:Nat):QMem w0 bn bl bc ba bp on ol (wr.setCell ⟨ba,t,none⟩ (.slice none 0 0)) M ph (fun s=>if s=t then [] else ans s) (vs.setIfInBounds t (.slice none 0 0)):=by
 obtain⟨n1,n2,n3,n4,n5,n6,n7,n8,n9,n10⟩:=h.ne
 exact { h with
  ext:=h.ext.setCell (p:=⟨ba,t,none⟩) h.ge.2.1 _,kN:=blk_ne h.kN n3 _,kL:=blk_ne h.kL n6 _,kC:=blk_ne h.kC n8 _,kP:=blk_ne h.kP (Ne.symm n10) _
  kA:=heap_setCell h.kA _
  rows:=(h.rows.clear t).set (by simp) _ _ }
theorem row_type {w:World}{B k b:Nat}{v:Value}{xs:List Value}{cs:Array Value}{T:TypeId}(h:w.ownsRow B 3 1 v k xs)(hb:Blk w b (.cells cs T))(hT:T≠3):v.ownBlock≠some b:=by
 rcases h.2 with⟨rfl,_⟩ | ⟨g,cap,cur,rfl,h1,h2,_⟩
 · simp [Value.ownBlock]
 · intro e
   simp only [Value.ownBlock,Option.some.injEq] at e
   subst e
   unfold Blk at hb
   rw [h2] at hb
   injection hb with hb
   injection hb with _ hb
   exact hT hb.symm
theorem QMem.far (h:QMem w0 bn bl bc ba bp on ol wr M ph ans vs){bo:Nat}{cs:Array Value}{T:TypeId}(hb:Blk wr bo (.cells cs T))(hT:T≠3)(hg:bc<bo/\ba<bo/\bp<bo){W:World}(hk:∀ b,b≠bo->W.heap[b]?=wr.heap[b]?)(hx:Ext w0 W):QMem w0 bn bl bc ba bp on ol W M ph ans vs:=by
 have g:=h.ge
 have l:=h.lo
 have hl:=hb.lt
 have keep:∀ {b:Nat} {o:Obj},Blk wr b o->b≠bo->Blk W b o:=fun h1 h2=>(hk _ h2).trans h1
 refine { h with ext:=hx,kN:=keep h.kN (by omega),kL:=keep h.kL (by omega),kC:=keep h.kC (by omega),kA:=keep h.kA (by omega),kP:=keep h.kP (by omega),rows:={ h.rows with ge:=hx.size,row:=fun t ht=>?_ } }
 obtain⟨v,q1,q2⟩:=h.rows.row t ht
 have hne:=row_type q2 hb hT
 refine⟨v,q1,?_⟩
 rcases q2.2 with⟨rfl,q3⟩ | ⟨g,cap,cur,rfl,q3,q4,q5⟩
 · exact⟨q2.1,.inl ⟨rfl,q3⟩⟩
 · refine⟨q2.1,.inr ⟨g,cap,cur,rfl,q3,?_,q5⟩⟩
   rw [hk g (fun e=>hne (by simp [Value.ownBlock,e]))]
   exact q4
theorem QMem.grow (h:QMem w0 bn bl bc ba bp on ol wr M ph ans vs){t:Nat}(ht:t<4){v:Value}(hv:vs[t]?=some v){g cap:Nat}{y:Int}
  (hown:W.ownsRow w0.heap.size 3 1 (.slice (some ⟨g,0,none⟩) ((ans t).length+1) cap) ((ans t).length+1) (rowOf (ans t)++[Value.int .i64 y]))(hg:wr.grownBy W v.ownBlock)(hat:v.ownBlock=some g∨wr.heap.size<=g) :
  QMem w0 bn bl bc ba bp on ol (W.setCell ⟨ba,t,none⟩ (.slice (some ⟨g,0,none⟩) ((ans t).length+1) cap)) M ph (fun s=>if s=t then ans t++[y] else ans s) (vs.setIfInBounds t (.slice (some ⟨g,0,none⟩) ((ans t).length+1) cap)):=by
 obtain⟨n1,n2,n3,n4,n5,n6,n7,n8,n9,n10⟩:=h.ne
 have hoff:∀ b,b∈[bn,bl,bc,ba,bp]->v.ownBlock≠some b:=fun b hb e=>h.rows.off t v b hv e hb
 have kept:∀ {b:Nat} {o:Obj},Blk wr b o->b∈[bn,bl,bc,ba,bp]->Blk W b o:=fun hb hm=>grown_heap hb (hoff _ hm) hg
 have hrows:=h.rows.grow ht hv hown hg hat (fun b hb=>by
  simp only [List.mem_cons,List.not_mem_nil,or_false] at hb
  rcases hb with rfl | rfl | rfl | rfl | rfl
  · exact h.kN.lt
  · exact h.kL.lt
  · exact h.kC.lt
  · exact h.kA.lt
  · exact h.kP.lt)
 have hx:Ext w0 W:=by
  have he:=h.ext
  refine⟨hg.os.trans he.os,hg.tape.trans he.tape,hg.output.trans he.output,Nat.le_trans he.size hg.size,fun k hk=>?_⟩
  refine (hg.block k (Nat.lt_of_lt_of_le hk he.size) fun e=>?_).trans (he.block k hk)
  obtain⟨v',q1,q2⟩:=h.rows.row t ht
  rw [hv] at q1
  injection q1 with q1
  subst q1
  have:=(own_ge q2 e.symm).1
  omega
 exact⟨hx.setCell (p:=⟨ba,t,none⟩) h.ge.2.1 _,blk_ne (kept h.kN (by simp)) n3 _,blk_ne (kept h.kL (by simp)) n6 _,blk_ne (kept h.kC (by simp)) n8 _,heap_setCell (kept h.kA (by simp)) _,blk_ne (kept h.kP (by simp)) (Ne.symm n10) _,hrows.set (by simp) _ _,h.lo,h.ge,h.ne⟩
end
end Go.Proofs.Ytbphlkaihfbgeaa
namespace Kv
end Kv
namespace Go.Proofs.Ytbphlkaihfbgeaa
open Go.RowKit Kv
@[go_sem] theorem build_lock3 (a b c:Int) (w:World):(Instr.build 23 #[(0,.int .i64 a),(1,.int .i64 b),(2,.int .i64 c)]).run Try.prog w=.ok (.agg #[.int .i64 a,.int .i64 b,.int .i64 c,.int .i64 0,.int .i64 0,.int .i64 0]) w:=run_build w 23 _ _ (by kernel_rfl)
@[go_sem] theorem build_acc3 (a b c:Int) (w:World):(Instr.build 54 #[(0,.int .i64 a),(1,.int .i64 b),(2,.int .i64 c)]).run Try.prog w=.ok (.agg #[.int .i64 a,.int .i64 b,.int .i64 c]) w:=run_build w 54 _ _ (by kernel_rfl)
end Go.Proofs.Ytbphlkaihfbgeaa
namespace Kv
def eisWant (n i:Nat):Want:=if i=0 then ⟨-1,n⟩ else ⟨i-1,2⟩
def eisWants (n:Nat):List Want:=(List.range (n+1)).map (eisWant n)
theorem eis_lay (n:Nat)(h1:1<=n)(h4:n<=4):∃ rs,layM (eisWants n) n 1 3 2=some rs/\ERegs n rs:=by
 have hn:n=1∨n=2∨n=3∨n=4:=by omega
 rcases hn with rfl | rfl | rfl | rfl <;> refine⟨_,rfl,rfl,fun i hi=>?_⟩
 · have:i=0∨i=1:=by omega
   rcases this with rfl | rfl <;> exact⟨_,rfl,⟨.inl rfl,by decide,by decide,by decide,fun h=>by cases h⟩,rfl,rfl,rfl⟩
 · have:i=0∨i=1∨i=2:=by omega
   rcases this with rfl | rfl | rfl <;> exact⟨_,rfl,⟨.inl rfl,by decide,by decide,by decide,fun h=>by cases h⟩,rfl,rfl,rfl⟩
 · have:i=0∨i=1∨i=2∨i=3:=by omega
   rcases this with rfl | rfl | rfl | rfl <;> exact⟨_,rfl,⟨.inl rfl,by decide,by decide,by decide,fun h=>by cases h⟩,rfl,rfl,rfl⟩
 · have:i=0∨i=1∨i=2∨i=3∨i=4:=by omega
   rcases this with rfl | rfl | rfl | rfl | rfl <;> exact⟨_,rfl,⟨.inl rfl,by decide,by decide,by decide,fun h=>by cases h⟩,rfl,rfl,rfl⟩
theorem treeM_zero {σ:Type}{ask:σ->Todo σ}(hz:∀ s a,ask s=.fin a->a=0):∀ (f:Nat) (s:σ) (S S1:TS) (v:Int),(treeM ask f s).run S=(some v,S1)->v=0
 | 0,_,S,S1,v,h=>by
   have h:((some 0,S):Option Int × TS)=(some v,S1):=h
   injection h with h _
   injection h with h
   exact h.symm
 | f+1,s,S,S1,v,h=>by
   cases hk:ask s with
   | rd c k =>
     rw [treeM_rd hk] at h
     obtain⟨x,S2,_,h2⟩:=Prog.bind_some h
     exact treeM_zero hz f _ _ _ _ h2
   | wr c u s' =>
     rw [treeM_wr hk] at h
     obtain⟨x,S2,_,h2⟩:=Prog.bind_some h
     exact treeM_zero hz f _ _ _ _ h2
   | fin a =>
     rw [treeM_fin hk,hz s a hk] at h
     have h:((some 0,S):Option Int × TS)=(some v,S1):=h
     injection h with h _
     injection h with h
     exact h.symm
theorem eask_zero {n me:Nat}(s:EPc)(a:Int)(h:eask me n s=.fin a):a=0:=by
 cases s <;> first | (injection h with h;exact h.symm) | cases h
end Kv
namespace Go.Proofs.Ytbphlkaihfbgeaa
open Go.RowKit Kv
set_option maxRecDepth 100000 in
theorem eiswants_p (N:Nat)(w:World)(h1:1<=N)(h2:N<=8):Calls Try.prog 27 #[.int .i64 N] w fun e w'=>∃ v,e=.returned v/\WantsAt w' v (eisWants N)/\Ext w w':=by
 have hr0:=Lib.hid (row_new w [.int .i64 (-1),.int .i64 N] 91 2 1 rfl (by omega))
 have hx0:=Lib.hid ((Ext.refl w).alloc (.cells [.int .i64 (-1),.int .i64 (N:Int)].toArray 91))
 have d1:decide ((N:Int)<1)=false:=by rw [decide_eq_false_iff_not];omega
 have d2:decide ((8:Int)<(N:Int))=false:=by rw [decide_eq_false_iff_not];omega
 have d3:decide (N<1)=false:=by rw [decide_eq_false_iff_not];omega
 have d4:decide (8<N)=false:=by rw [decide_eq_false_iff_not];omega
 go_enter Try.func27,Try.ntmps27
 go_wp2_with fail
 go_loopw [3,15] (fun v i wr=>∃ j:Nat,i=.int .i64 j/\j<=N/\wr.ownsRow w.heap.size 91 2 v (j+1) (wantRow (eisWant N) (j+1))/\Ext w wr) (fun _ i _=>N-(intOf i).toNat)
 case atStart=>exact⟨0,rfl,by omega,hr0.out,hx0.out⟩
 case round =>
  clear hr0 hx0
  obtain⟨j,rfl,hj,hown,hE⟩:=hrel
  by_cases hl:j<N
  · go_wp2_with (at_builtin;refine append_rec info_want Try.underlying46 rfl (by decide) (by decide) rfl _ _ rfl _ (j+1) _ [.int .i64 j,.int .i64 2] hE hown rfl rfl rfl (by simp [Value.oneCell']) (by omega) ?_)
    intro v' w' ho hx _
    have hoh:=Lib.hid ho
    clear hown ho
    go_wp2_with fail
    refine⟨⟨j+1,by go_num,by omega,?_,hx⟩,?_⟩
    · rw [wants_succ]
      rw [show eisWant N (j+1)=⟨(j:Int),2⟩ from by unfold eisWant;rw [if_neg (by omega)];congr 1;omega]
      exact hoh.out
    · simp [intOf];omega
  · obtain rfl:j=N:=by omega
    have hownh:=Lib.hid hown
    clear hown
    go_wp2_with fail
    go_ret
    exact⟨_,rfl,wants_row hownh.out,hE⟩
theorem eiswants_0 (w:World):Calls Try.prog 27 #[.int .i64 0] w fun e w'=>e=.returned (.slice none 0 0)/\Ext w w':=by
 go_enter Try.func27,Try.ntmps27
 go_wp2_with fail
 go_ret
 exact⟨rfl,Ext.refl w⟩
theorem eisal1 (B p:Nat)(S:TS)(b c bl:Nat)(rs:List Reg)(w:World)(h:Plays B w p S)(hl:RegsAt [2,3,4] w p b rs)(he:ERegs 1 rs)(hD:S.left<6)
  (c1:w.cell? ⟨bl,0,none⟩=some (.slice (some ⟨b,0,none⟩) 2 c)) :
  Calls Try.prog 75 #[.pointer (some ⟨p,0,none⟩),.pointer (some ⟨bl,0,none⟩)] w (Post encI B p w ((treeM (eask 0 1) 6 .r1).run S)):=by
 have hq:=eisacq_p B p 1 0 6 S rs b c w h hl he (by decide) (by decide) (by decide) hD
 generalize hR:Post encI B p w ((treeM (eask 0 1) 6 .r1).run S)=R
 have hO:Owes R encI B p w ((treeM (eask 0 1) 6 .r1).run S):=hR▸owes _ _ _ _ _
 clear hR
 have hK:=Keep.refl [2,3,4] B p w
 go_enter Try.func75,Try.ntmps75
 go_wp2_with fail
 clear c1
 refine tlast hO hK hq (fun _ h=>⟨rfl,h⟩) ?_
 intro v S1 w1 hr hP1 hk1 hK1 hO1
 have hf:=hO1.done hP1 hK1
 rw [treeM_zero eask_zero _ _ _ _ _ hr] at hf
 clear hO1 hP1 hK1 hr hk1 hO h hK hq hl
 go_wp2_with fail
 first | exact hf | (go_ret;exact hf)
theorem eisal2 (B p:Nat)(S:TS)(b c bl:Nat)(rs:List Reg)(w:World)(h:Plays B w p S)(hl:RegsAt [2,3,4] w p b rs)(he:ERegs 2 rs)(hD:S.left<6)
  (c1:w.cell? ⟨bl,0,none⟩=some (.slice (some ⟨b,0,none⟩) 3 c)) :
  Calls Try.prog 76 #[.pointer (some ⟨p,0,none⟩),.pointer (some ⟨bl,0,none⟩)] w (Post encI B p w ((treeM (eask 0 2) 6 .q0).run S)):=by
 have hq:=eisrel_p B p 2 0 6 S rs b c w h hl he (by decide) (by decide) (by decide) hD
 generalize hR:Post encI B p w ((treeM (eask 0 2) 6 .q0).run S)=R
 have hO:Owes R encI B p w ((treeM (eask 0 2) 6 .q0).run S):=hR▸owes _ _ _ _ _
 clear hR
 have hK:=Keep.refl [2,3,4] B p w
 go_enter Try.func76,Try.ntmps76
 go_wp2_with fail
 clear c1
 refine tlast hO hK hq (fun _ h=>⟨rfl,h⟩) ?_
 intro v S1 w1 hr hP1 hk1 hK1 hO1
 have hf:=hO1.done hP1 hK1
 rw [treeM_zero eask_zero _ _ _ _ _ hr] at hf
 clear hO1 hP1 hK1 hr hk1 hO h hK hq hl
 go_wp2_with fail
 first | exact hf | (go_ret;exact hf)
theorem eiscl (B p n t ph D:Nat)(S:TS)(b c bl bn bt bp:Nat)(rs:List Reg)(w:World)(h:Plays B w p S)(hl:RegsAt [2,3,4] w p b rs)(he:ERegs n rs)(h1:1<=n)(h4:n<=4)(ht:t<n)(hD:S.left<D)
  (c1:w.cell? ⟨bl,0,none⟩=some (.slice (some ⟨b,0,none⟩) (n+1) c))(c2:w.cell? ⟨bn,0,none⟩=some (.int .i64 n))(c3:w.cell? ⟨bt,0,none⟩=some (.int .i64 t))(c4:w.cell? ⟨bp,t,none⟩=some (.int .i64 ph)) :
  Calls Try.prog 28 #[.pointer (some ⟨p,0,none⟩),.pointer (some ⟨bp,0,none⟩),.pointer (some ⟨bt,0,none⟩),.pointer (some ⟨bl,0,none⟩),.pointer (some ⟨bn,0,none⟩)] w (Post encI B p w ((treeM (eask t n) D (estart ph)).run S)):=by
 generalize hR:Post encI B p w ((treeM (eask t n) D (estart ph)).run S)=R
 have hO:Owes R encI B p w ((treeM (eask t n) D (estart ph)).run S):=hR▸owes _ _ _ _ _
 clear hR
 have hK:=Keep.refl [2,3,4] B p w
 have ht4:(t:Int)<4:=by omega
 by_cases hp:ph=2
 · subst hp
   have hq:=eisrel_p B p n t D S rs b c w h hl he h1 (by omega) ht hD
   replace hO:Owes R encI B p w ((treeM (eask t n) D .q0).run S):=hO
   go_enter Try.func28,Try.ntmps28
   go_wp2_with fail
   clear c1 c2 c3 c4
   refine tlast hO hK hq (fun _ h=>⟨rfl,h⟩) ?_
   intro v S1 w1 hr hP1 hk1 hK1 hO1
   have hf:=hO1.done hP1 hK1
   rw [treeM_zero eask_zero _ _ _ _ _ hr] at hf
   clear hO1 hP1 hK1 hr hk1 hO h hK hq hl
   go_wp2_with fail
   first | exact hf | (go_ret;exact hf)
 · have dp:((ph:Int)==2)=false:=by rw [beq_eq_false_iff_ne];omega
   have hq:=eisacq_p B p n t D S rs b c w h hl he h1 (by omega) ht hD
   rw [show estart ph=.r1 from if_neg hp] at hO
   clear hp
   go_enter Try.func28,Try.ntmps28
   go_wp2_with fail
   clear c1 c2 c3 c4
   refine tlast hO hK hq (fun _ h=>⟨rfl,h⟩) ?_
   intro v S1 w1 hr hP1 hk1 hK1 hO1
   have hf:=hO1.done hP1 hK1
   rw [treeM_zero eask_zero _ _ _ _ _ hr] at hf
   clear hO1 hP1 hK1 hr hk1 hO h hK hq hl
   go_wp2_with fail
   first | exact hf | (go_ret;exact hf)
theorem eis_some (n:Nat)(v:Value)(w:World)(h:WantsAt w v (eisWants n))(h1:1<=n)(h4:n<=4) :
  Calls Try.prog 21 #[v,.int .i64 n,.int .i64 1] w fun e w'=>∃ b c rs,e=.returned (.slice (some ⟨b,0,none⟩) (n+1) c)/\ERegs n rs/\Ext w w'/\b<w'.heap.size/\(∀ (i:Nat) u,(rs.flatMap regVals)[i]?=some u->w'.cell? ⟨b,i,none⟩=some u):=by
 obtain⟨rs,hl,he⟩:=eis_lay n h1 h4
 refine (some_r v _ n 1 w h (by unfold eisWants;simp;omega)).mono ?_
 rintro e w' ⟨v',rfl,hx,hrow⟩
 rw [hl] at hrow
 simp only [Option.getD_some] at hrow
 obtain⟨Ar,cr,rfl,r1,r2,hV⟩:=Recs.of_row hrow
 have hlen:=he.len
 cases rs with
 | nil=>simp at hlen
 | cons r rs =>
   obtain⟨b,rfl,hb,hc⟩:=hV (by simp [regVals])
   rw [hlen]
   exact⟨b,_,_,rfl,he,hx,hb,hc⟩
set_option maxRecDepth 100000 in
set_option maxHeartbeats 1000000 in
theorem alive48 (w:World):Calls Try.prog 26 #[] w fun e w'=>e=.returned (.bool true)/\Ext w w':=by
 have hmf:∀ (fn:Fn) (first cap:Array Value) (w:World),(Instr.makeFunc fn first cap).run Try.prog w=.ok (.func fn first cap) w:=fun _ _ _ _=>rfl
 go_enter Try.func26,Try.ntmps26
 go_wp2_with fail
 refine (eiswants_p 1 w (by decide) (by decide)).mono ?_
 rintro e w1 ⟨v1,rfl,hW,hX⟩
 have hSm:=eis_some 1 v1 w1 hW (by decide) (by decide)
 obtain⟨Aw,cw,rfl,_,_,_⟩:=hW
 go_wp2_with fail
 refine hSm.mono ?_
 rintro e w2 ⟨b,c,rs,rfl,he,hx2,hb,hc⟩
 replace hX:=hX.trans hx2
 clear hSm hx2
 go_wp2_with fail
 have g1:=Blk.new w2 (.cells #[.slice (some ⟨b,0,none⟩) 2 c] 44)
 have x1:=(Ext.refl w2).alloc (.cells #[.slice (some ⟨b,0,none⟩) 2 c] 44)
 refine (eiswants_p 2 _ (by decide) (by decide)).mono ?_
 rintro e w3 ⟨v3,rfl,hW,hx3⟩
 replace g1:=g1.ext hx3
 replace x1:=x1.trans hx3
 have hSm:=eis_some 2 v3 w3 hW (by decide) (by decide)
 obtain⟨Aw3,cw3,rfl,_,_,_⟩:=hW
 clear hx3
 go_wp2_with fail
 refine hSm.mono ?_
 rintro e w4 ⟨b2,c2,rs2,rfl,he2,hx4,hb2,hc2⟩
 replace g1:=g1.ext hx4
 replace x1:=x1.trans hx4
 clear hSm hx4
 have g2:=Blk.new w4 (.cells #[.slice (some ⟨b2,0,none⟩) 3 c2] 44)
 have x2:=(Ext.refl w4).alloc (.cells #[.slice (some ⟨b2,0,none⟩) 3 c2] 44)
 replace g1:=g1.ext x2
 replace x1:=x1.trans x2
 have c_g1:=g1.cells
 go_upto_region 5 with fail
 have hA:=ints_new (w4.alloc (.cells #[.slice (some ⟨b2,0,none⟩) 3 c2] 44)) [0,0,0,0,0] (by simp)
 have x3:=(Ext.refl (w4.alloc (.cells #[.slice (some ⟨b2,0,none⟩) 3 c2] 44))).alloc (.cells (([0,0,0,0,0]:List Int).map (Value.int .i64)).toArray 3)
 replace g1:=g1.ext x3
 replace g2:=g2.ext x3
 replace x1:=x1.trans x3
 replace x2:=x2.trans x3
 have hmk:=make_ints 5 5 rfl (by decide) (w4.alloc (.cells #[.slice (some ⟨b2,0,none⟩) 3 c2] 44))
 simp only [World.size_alloc,zeros,List.replicate,List.map_cons,List.map_nil,List.length_cons,List.length_nil] at hA g1 g2 x1 x2 x3 hmk
 clear x3
 go_wp2_with fail
 have hsz:w4.heap.size+1<(World.alloc (World.alloc w4 (.cells #[.slice (some ⟨b2,0,none⟩) 3 c2] 44)) (.cells #[.int .i64 0,.int .i64 0,.int .i64 0,.int .i64 0,.int .i64 0] 3)).heap.size:=by simp
 clear hmk c_g1
 generalize World.alloc (World.alloc w4 _) _=W0 at *
 refine (play_int 75 #[.pointer (some ⟨w2.heap.size,0,none⟩)] (treeM (eask 0 1) 6 .r1) none 0 [] (some ⟨w4.heap.size+1,0,none⟩) 5 [0,0,0,0,0] W0 (Ints.nil _) (by simp) hA (by decide) (fun k hk=>by simp only [Value.ownBlock,Option.some.injEq] at hk;omega) (fun _ _=>rfl) (fun W p hxW hP=>eisal1 _ p _ b c w2.heap.size rs W hP (regsP hb hc (x1.trans hxW) hP x1.size) he (by decide) ((g1.ext hxW).cells 0))).mono ?_
 rintro e y1 ⟨v1,rfl,hO,hx1⟩
 have e1:((treeM (eask 0 1) 6 .r1).run (TS0 [] [0,0,0,0,0])).1=some 0:=by rfl
 have e2:((treeM (eask 0 1) 6 .r1).run (TS0 [] [0,0,0,0,0])).2.acc.length=5:=by rfl
 rw [e1] at hO ⊢
 generalize ((treeM (eask 0 1) 6 .r1).run (TS0 [] [0,0,0,0,0])).2=S1 at *
 obtain⟨A1,c1,A1',c1',As1,k1,n1,rfl⟩:=hO.parts
 rw [e2] at *
 simp only [Option.getD_some,Option.isSome_some]
 replace g2:=g2.ext hx1
 replace x1:=x1.trans hx1
 replace x2:=x2.trans hx1
 clear e1 e2 hO hA hsz hx1 g1
 go_upto_region 6 with fail
 have g3:=Blk.new y1 (.cells #[.bool true,.slice A1 5 c1,.slice A1' S1.nts.length c1',.slice As1 n1 k1] 30)
 have x3:=(Ext.refl y1).alloc (.cells #[.bool true,.slice A1 5 c1,.slice A1' S1.nts.length c1',.slice As1 n1 k1] 30)
 have hA:=ints_new (y1.alloc (.cells #[.bool true,.slice A1 5 c1,.slice A1' S1.nts.length c1',.slice As1 n1 k1] 30)) [0,1,0,0] (by simp)
 replace g3:=g3.alloc (.cells (([0,1,0,0]:List Int).map (Value.int .i64)).toArray 3)
 replace x3:=x3.alloc (.cells (([0,1,0,0]:List Int).map (Value.int .i64)).toArray 3)
 replace g2:=g2.ext x3
 replace x1:=x1.trans x3
 replace x2:=x2.trans x3
 simp only [World.size_alloc,List.map_cons,List.map_nil,List.length_cons,List.length_nil] at hA g2 g3 x1 x2 x3
 have hsz:y1.heap.size+1<(World.alloc (World.alloc y1 (.cells #[.bool true,.slice A1 5 c1,.slice A1' S1.nts.length c1',.slice As1 n1 k1] 30)) (.cells #[.int .i64 0,.int .i64 1,.int .i64 0,.int .i64 0] 3)).heap.size:=by simp
 clear x3
 go_wp2_with fail
 generalize World.alloc (World.alloc y1 _) _=W1 at *
 refine (play_int 76 #[.pointer (some ⟨w4.heap.size,0,none⟩)] (treeM (eask 0 2) 6 .q0) none 0 [] (some ⟨y1.heap.size+1,0,none⟩) 4 [0,1,0,0] W1 (Ints.nil _) (by simp) hA (by decide) (fun k hk=>by simp only [Value.ownBlock,Option.some.injEq] at hk;omega) (fun _ _=>rfl) (fun W p hxW hP=>eisal2 _ p _ b2 c2 w4.heap.size rs2 W hP (regsP hb2 hc2 (x2.trans hxW) hP x2.size) he2 (by decide) ((g2.ext hxW).cells 0))).mono ?_
 rintro e y2 ⟨v2,rfl,hO,hx2⟩
 have e1:((treeM (eask 0 2) 6 .q0).run (TS0 [] [0,1,0,0])).1=some 0:=by rfl
 have e2:((treeM (eask 0 2) 6 .q0).run (TS0 [] [0,1,0,0])).2.acc.length=4:=by rfl
 have e3:((treeM (eask 0 2) 6 .q0).run (TS0 [] [0,1,0,0])).2.acc[2]?=some ⟨2,3,1⟩:=by rfl
 rw [e1] at hO ⊢
 generalize ((treeM (eask 0 2) 6 .q0).run (TS0 [] [0,1,0,0])).2=S2 at *
 obtain⟨A2,d2,A2',d2',vs2,L2,rfl,hO⟩:=hO
 obtain⟨As2,k2,hvs2,_,_⟩:=hO.locs.slice
 subst hvs2
 obtain⟨u2,rfl,hu2,z20,z21,z22⟩:=hO.accs.at_ e3
 simp only [Nat.reduceMul,Nat.reduceAdd] at z20 z21 z22
 unfold outV
 rw [e2] at *
 simp only [Option.getD_some,Option.isSome_some]
 have s2:=(Ext.refl y2).alloc (.cells #[.bool true,.slice (some ⟨u2,0,none⟩) 4 d2,.slice A2' S2.nts.length d2',.slice As2 (shortL L2).length k2] 30)
 have n2:=Blk.new y2 (.cells #[.bool true,.slice (some ⟨u2,0,none⟩) 4 d2,.slice A2' S2.nts.length d2',.slice As2 (shortL L2).length k2] 30)
 replace g3:=(g3.ext hx2).ext s2
 replace hX:=(hX.trans ((x1.trans hx2).trans s2))
 replace z20:=(s2.cell (p:=⟨u2,6,none⟩) hu2).trans z20
 replace z21:=(s2.cell (p:=⟨u2,7,none⟩) hu2).trans z21
 replace z22:=(s2.cell (p:=⟨u2,8,none⟩) hu2).trans z22
 clear e1 e2 e3 hO hx2 hA hsz s2 g2 x1 x2
 have c_g3:=g3.cells
 have c_n2:=n2.cells
 have hXh:=Lib.hid hX
 clear n2 g3 hX
 go_wp2_with fail
 refine (eiswants_0 _).mono ?_
 rintro e w5 ⟨rfl,hx⟩
 have hf:=Lib.hid (hXh.out.trans hx)
 clear hx hmf
 go_wp2_with fail
 go_ret
 exact⟨rfl,hf.out⟩
end Go.Proofs.Ytbphlkaihfbgeaa
namespace Go.Proofs.Ytbphlkaihfbgeaa
open Go.ChangeShapes Go.WideShapes Go.ChangeAt Go.RowKit Kv
def U8s (w:World) (v:Value) (l:List Int):Prop :=
 ∃ A c,v=.slice A l.length c/\l.length<=c/\c<=9223372036854775807/\(l≠[]->∃ b off,A=some ⟨b,off,none⟩/\b<w.heap.size/\∀ i x,l[i]?=some x->w.cell? ⟨b,off+i,none⟩=some (.int .u8 x))
theorem U8s.ext {w w':World}{v:Value}{l:List Int}(h:U8s w v l)(hx:Ext w w'):U8s w' v l:=by
 obtain⟨A,c,rfl,h1,h2,h3⟩:=h
 refine⟨A,c,rfl,h1,h2,fun hl=>?_⟩
 obtain⟨b,off,rfl,hb,hc⟩:=h3 hl
 exact⟨b,off,rfl,Nat.lt_of_lt_of_le hb (Ext.size hx),fun i x hi=>(Ext.cell hx (p:=⟨b,off+i,none⟩) hb).trans (hc i x hi)⟩
theorem U8s.at_ {w:World}{A:Option Addr}{n c:Nat}{l:List Int}(h:U8s w (.slice A n c) l){i:Nat}{x:Int}(hi:l[i]?=some x) :
  ∃ b off,A=some ⟨b,off,none⟩/\b<w.heap.size/\w.cell? ⟨b,off+i,none⟩=some (.int .u8 x):=by
 obtain⟨A',c',he,h1,h2,h3⟩:=h
 injection he with e1 e2 e3
 subst e1 e2 e3
 have hl:l≠[]:=by rintro rfl;simp at hi
 obtain⟨b,off,rfl,hb,hc⟩:=h3 hl
 exact⟨b,off,rfl,hb,hc i x hi⟩
theorem cellsByte:Try.prog.cellsOf 5=1:=by kernel_rfl
set_option maxRecDepth 100000 in
theorem bytes_arg {H:Type}{enc:TypeId × Value->H}{W:World}{b0:Nat}{r:Reach}{v:Value}{d:DataW H}{p:List MemPlace}
  (hv:Value.okWide Try.prog W r b0 43 v)(h:DataW.Trod enc Try.prog W 0 (fun _=>true) true 43 v d p) :
  ∃ l,U8s W v l/\∀ x∈l,0<=x/\x<256:=by
 obtain⟨a0,len,cap,rfl⟩:=okWide_slice Try.underlying43 hv
 obtain⟨fuel,hf⟩:=h
 rcases open_ints Try.underlying43 Try.underlying5 cellsByte hf with⟨hcs,hx⟩ | ⟨a,len',cap',zs,hcs,_,hl,hm,hz,hx,hcell,hwz⟩
 · simp [Value.cells] at hcs
   obtain⟨rfl,rfl,rfl⟩:=hcs
   exact⟨[],⟨none,0,rfl,by simp,by omega,fun h=>absurd rfl h⟩,by simp⟩
 · simp [Value.cells] at hcs
   obtain⟨rfl,rfl,rfl⟩:=hcs
   simp only [if_true] at hz
   refine⟨zs.take len,?_,fun x hx=>by have:=bounds_u8 (hwz x (List.mem_of_mem_take hx));omega⟩
   have hlen:(zs.take len).length=len:=by rw [List.length_take];omega
   refine⟨some a,cap,by rw [hlen],by omega,by unfold maxLen at hm;exact hm,fun hne=>?_⟩
   have hpos:0<zs.length:=by
    rcases Nat.eq_zero_or_pos zs.length with h0 | h0
    · have:zs=[]:=List.eq_nil_of_length_eq_zero h0
      subst this
      simp at hne
    · exact h0
   obtain⟨b,off,rfl,hc⟩:=ints_at hcell hpos
   refine⟨b,off,rfl,cell_lt (hc 0 hpos),fun i x hi=>?_⟩
   have hi2:i<zs.length:=by
    have:=(List.getElem?_eq_some_iff.1 hi).1
    rw [List.length_take] at this
    omega
   rw [hc i hi2]
   have hi3:i<len:=by
    have:=(List.getElem?_eq_some_iff.1 hi).1
    omega
   rw [List.getElem?_take,if_pos hi3] at hi
   rw [List.getD_eq_getElem?_getD,hi]
   rfl
end Go.Proofs.Ytbphlkaihfbgeaa
namespace Go.Proofs.Ytbphlkaihfbgeaa
open Go.RowKit Kv
set_option maxRecDepth 100000 in
set_option maxHeartbeats 4000000 in
theorem eis_walk (n:Nat)(vP:Value)(Ls:List Int)(w:World)(hn:n<256)(hL:U8s w vP Ls)(hLb:∀ x∈Ls,0<=x/\x<256) :
  Calls Try.prog 5 #[.int .u8 n,vP] w fun e w'=>e=.returned (.bool true)/\Ext w w':=by
 have hmf:∀ (fn:Fn) (first cap:Array Value) (w:World),(Instr.makeFunc fn first cap).run Try.prog w=.ok (.func fn first cap) w:=fun _ _ _ _=>rfl
 obtain⟨m,hm⟩:∃ m:Nat,1+(n:Int) % 4=m:=⟨1+n % 4,by omega⟩
 have m1:1<=m:=by omega
 have m4:m<=4:=by omega
 obtain⟨AL,cL,rfl,z1,z2⟩:∃ A c,vP=.slice A Ls.length c/\Ls.length<=c/\c<=9223372036854775807:=by
  obtain⟨A,c,e,q1,q2,_⟩:=hL
  exact⟨A,c,e,q1,q2⟩
 go_enter Try.func5,Try.ntmps5
 by_cases hl:500<Ls.length
 · have d1:decide ((500:Int)<(Ls.length:Int))=true:=by rw [decide_eq_true_eq];omega
   go_wp2_with fail
   refine (alive48 _).mono ?_
   rintro e w7 ⟨rfl,hx7⟩
   have hf:=Lib.hid hx7
   clear hx7
   go_wp2_with fail
   go_ret
   exact⟨rfl,hf.out⟩
 have d1:decide ((500:Int)<(Ls.length:Int))=false:=by rw [decide_eq_false_iff_not];omega
 go_upto_region 4 with fail
 have bN:=Blk.new w (.cells #[.int .i64 m] 3)
 have hX:=(Ext.refl w).alloc (.cells #[.int .i64 m] 3)
 generalize hbn:w.heap.size=bn at *
 generalize World.alloc w _=V0 at *
 have hS:∀ w',Ext V0 w'->w'.cell? ⟨bn,0,none⟩=some (.int .i64 m):=fun w' hx=>(bN.ext hx).cells 0
 have hWp:∀ W,Calls Try.prog 27 #[.int .i64 m] W fun e w'=>∃ A k c,e=.returned (.slice A k c)/\Ext W w'/\∀ W2,Ext w' W2->Calls Try.prog 21 #[.slice A k c,.int .i64 m,.int .i64 1] W2 fun e w'=>∃ b c rs,e=.returned (.slice (some ⟨b,0,none⟩) (m+1) c)/\ERegs m rs/\Ext W2 w'/\b<w'.heap.size/\(∀ (i:Nat) u,(rs.flatMap regVals)[i]?=some u->w'.cell? ⟨b,i,none⟩=some u):=fun W=>by
  refine (eiswants_p m W m1 (by omega)).mono ?_
  rintro e w1 ⟨v1,rfl,hW,hx⟩
  obtain⟨A,c,rfl,z⟩:=id hW
  exact⟨A,_,c,rfl,hx,fun W2 hx2=>eis_some m _ W2 (hW.ext hx2) m1 m4⟩
 go_cut [6] (fun s6 wx=>∃ bl b c rs,s6=.pointer (some ⟨bl,0,none⟩)/\ERegs m rs/\Ext V0 wx/\V0.heap.size<=bl/\Blk wx bl (.cells #[.slice (some ⟨b,0,none⟩) (m+1) c] 44)/\b<wx.heap.size/\(∀ (i:Nat) u,(rs.flatMap regVals)[i]?=some u->wx.cell? ⟨b,i,none⟩=some u))
 case first =>
  -- [dev
  have hWh:=Lib.hid hWp
  clear hWp
  refine wp_region_held_drew (S:=fun w'=>w'.cell? ⟨bn,0,none⟩=some (.int .i64 m)) rfl (hS _ (Ext.refl _).drew) (fun hHeld=>?_)
  refine tk 0 (v:=?_) rfl (by kernel_rfl) (fun _ _ _ h=>h) (by assumption) ?_ ?_
  rotate_left
  · (intro w hSw;(try dsimp only at hSw);go_simp;try with_reducible rfl)
  try simp only [put_pack]
  refine tk 2 (v:=?_) rfl (by kernel_rfl) (fun _ _ _ h=>h) (by assumption) ?_ ?_
  rotate_left
  · (intro w hSw;(try dsimp only at hSw);go_simp;try with_reducible rfl)
  try simp only [put_pack]
  refine wpAnyH_ready (rs:=[1,4]) (by kernel_rfl) (by simp) ?_
  refine AllReadyH.cons rfl (fun K hKK=>?_) (AllReadyH.cons rfl (fun K hKK=>?_) (AllReadyH.nil))
  · go_simp
    refine (hWh.out _).mono ?_
    rintro e w1 ⟨A,k,c0,rfl,hx1,hs1⟩
    have hx1d:=(Ext.refl V0).drew.trans hx1
    refine hKK.out _ _ (hS _ hx1d) (fun hHeld=>?_)
    clear hKK K
    try dsimp only
    refine wpAnyH_ready (rs:=[3,4]) (by kernel_rfl) (by simp) ?_
    refine AllReadyH.cons rfl (fun K hKK=>?_) (AllReadyH.cons rfl (fun K hKK=>?_) (AllReadyH.nil))
    · go_simp
      refine (hs1 _ (Ext.refl _)).mono ?_
      rintro e w2 ⟨b,c,rs,rfl,he,hx2,hb,hc⟩
      have hx3:=hx1d.trans hx2
      refine hKK.out _ _ (hS _ hx3) (fun hHeld=>?_)
      clear hKK K
      try dsimp only
      have hz:=Blk.new w2 (.cells #[.slice none 0 0] 44)
      have hxq:=hx3.alloc (.cells #[.slice none 0 0] 44)
      have hVz:V0.heap.size<=w2.heap.size:=hx3.size
      have hb':b<(w2.alloc (.cells #[.slice none 0 0] 44)).heap.size:=by simp;omega
      have hc':∀ (i:Nat) u,(rs.flatMap regVals)[i]?=some u->(w2.alloc (.cells #[.slice none 0 0] 44)).cell? ⟨b,i,none⟩=some u:=fun i u hu=>(((Ext.refl w2).alloc (.cells #[.slice none 0 0] 44)).cell (p:=⟨b,i,none⟩) hb).trans (hc i u hu)
      replace hb:=hb'
      replace hc:=hc'
      clear hb' hc'
      refine wpAnyH_ready (rs:=[4]) (by kernel_rfl) (by simp) ?_
      refine AllReadyH.cons rfl (fun K hKK=>?_) (AllReadyH.nil)
      go_simp
      generalize w2.heap.size=bl at *
      generalize World.alloc w2 _=wq at *
      refine hKK.out _ _ (hS _ hxq) (fun hHeld=>?_)
      clear hKK K
      try dsimp only
      have c_hz:=hz.cells 0
      have hfz:=frozen_of_heap hz 0
      refine wpAnyH_ready (rs:=[5]) (by kernel_rfl) (by simp) ?_
      refine AllReadyH.cons rfl (fun K hKK=>?_) (AllReadyH.nil)
      simp only [List.getElem?_toArray,List.getElem?_cons_zero] at c_hz
      go_simp
      clear c_hz hfz
      have hrne:rs≠[]:=fun e=>by have:=he.len;rw [e] at this;simp at this
      obtain⟨z1,z2,z3,z4⟩:=lay_end (v:=.slice (some ⟨b,0,none⟩) (m+1) c) hz hxq hVz hb hrne hc
      refine hKK.out _ _ (hS _ z1) (fun hHeld=>?_)
      clear hKK K
      try dsimp only
      refine wpAnyH_done (by kernel_rfl) ?_ _
      go_simp
      go_wp2_with fail
      go_meet
      exact⟨_,b,c,rs,rfl,he,z1,hVz,z2,z3,z4⟩
    · go_simp
      have hz:=Blk.new w1 (.cells #[.slice none 0 0] 44)
      have hxq:=hx1d.alloc (.cells #[.slice none 0 0] 44)
      have hs2:=hs1 _ ((Ext.refl w1).alloc (.cells #[.slice none 0 0] 44))
      have hVz:V0.heap.size<=w1.heap.size:=hx1d.size
      generalize w1.heap.size=bl at *
      generalize World.alloc w1 _=wq at *
      refine hKK.out _ _ (hS _ hxq) (fun hHeld=>?_)
      clear hKK K
      try dsimp only
      refine wpAnyH_ready (rs:=[3]) (by kernel_rfl) (by simp) ?_
      refine AllReadyH.cons rfl (fun K hKK=>?_) (AllReadyH.nil)
      go_simp
      refine (hs2).mono ?_
      rintro e w2 ⟨b,c,rs,rfl,he,hx2,hb,hc⟩
      have hx3:=hxq.trans hx2
      refine hKK.out _ _ (hS _ hx3) (fun hHeld=>?_)
      clear hKK K
      try dsimp only
      replace hz:=hz.ext hx2
      replace hxq:=hx3
      have c_hz:=hz.cells 0
      have hfz:=frozen_of_heap hz 0
      refine wpAnyH_ready (rs:=[5]) (by kernel_rfl) (by simp) ?_
      refine AllReadyH.cons rfl (fun K hKK=>?_) (AllReadyH.nil)
      simp only [List.getElem?_toArray,List.getElem?_cons_zero] at c_hz
      go_simp
      clear c_hz hfz
      have hrne:rs≠[]:=fun e=>by have:=he.len;rw [e] at this;simp at this
      obtain⟨z1,z2,z3,z4⟩:=lay_end (v:=.slice (some ⟨b,0,none⟩) (m+1) c) hz hxq hVz hb hrne hc
      refine hKK.out _ _ (hS _ z1) (fun hHeld=>?_)
      clear hKK K
      try dsimp only
      refine wpAnyH_done (by kernel_rfl) ?_ _
      go_simp
      go_wp2_with fail
      go_meet
      exact⟨_,b,c,rs,rfl,he,z1,hVz,z2,z3,z4⟩
  · go_simp
    have hz:Blk ((World.drew V0).alloc (.cells #[.slice none 0 0] 44)) V0.heap.size (.cells #[.slice none 0 0] 44):=Blk.new (World.drew V0) (.cells #[.slice none 0 0] 44)
    have hxq:=(Ext.refl V0).drew.alloc (.cells #[.slice none 0 0] 44)
    have hVz:V0.heap.size<=V0.heap.size:=Nat.le_refl _
    refine hKK.out _ _ (hS _ hxq) (fun hHeld=>?_)
    clear hKK K
    try dsimp only
    refine wpAnyH_ready (rs:=[1]) (by kernel_rfl) (by simp) ?_
    refine AllReadyH.cons rfl (fun K hKK=>?_) (AllReadyH.nil)
    go_simp
    refine (hWh.out _).mono ?_
    rintro e w1 ⟨A,k,c0,rfl,hx1,hs1⟩
    replace hz:=hz.ext hx1
    replace hxq:=hxq.trans hx1
    refine hKK.out _ _ (hS _ hxq) (fun hHeld=>?_)
    clear hKK K
    try dsimp only
    refine wpAnyH_ready (rs:=[3]) (by kernel_rfl) (by simp) ?_
    refine AllReadyH.cons rfl (fun K hKK=>?_) (AllReadyH.nil)
    go_simp
    refine (hs1 _ (Ext.refl _)).mono ?_
    rintro e w2 ⟨b,c,rs,rfl,he,hx2,hb,hc⟩
    have hx3:=hxq.trans hx2
    refine hKK.out _ _ (hS _ hx3) (fun hHeld=>?_)
    clear hKK K
    try dsimp only
    replace hz:=hz.ext hx2
    replace hxq:=hx3
    have c_hz:=hz.cells 0
    have hfz:=frozen_of_heap hz 0
    refine wpAnyH_ready (rs:=[5]) (by kernel_rfl) (by simp) ?_
    refine AllReadyH.cons rfl (fun K hKK=>?_) (AllReadyH.nil)
    simp only [List.getElem?_toArray,List.getElem?_cons_zero] at c_hz
    go_simp
    clear c_hz hfz
    have hrne:rs≠[]:=fun e=>by have:=he.len;rw [e] at this;simp at this
    obtain⟨z1,z2,z3,z4⟩:=lay_end (v:=.slice (some ⟨b,0,none⟩) (m+1) c) hz hxq hVz hb hrne hc
    refine hKK.out _ _ (hS _ z1) (fun hHeld=>?_)
    clear hKK K
    try dsimp only
    refine wpAnyH_done (by kernel_rfl) ?_ _
    go_simp
    go_wp2_with fail
    go_meet
    exact⟨_,b,c,rs,rfl,he,z1,hVz,z2,z3,z4⟩
  -- dev]
 case rest =>
 obtain⟨bl,b,c,rs,rfl,he,hx0,hVl,kL,hb,hc⟩:=hcut
 clear hWp hS
 have kN:=bN.ext hx0
 have hX2:=hX.trans hx0
 clear hX bN hx0 hVl
 have c_N:wc.cell? ⟨bn,0,none⟩=some (.int .i64 m):=kN.cells 0
 have c_L:wc.cell? ⟨bl,0,none⟩=some (.slice (some ⟨b,0,none⟩) (m+1) c):=kL.cells 0
 have hmk:=fun W=>make_ints ((m:Int)+1+3) (m+4) (by omega) (by omega) W
 have w1:=IntWalk.i64_in ((m:Int)+1) (by omega)
 have w2:=IntWalk.i64_in ((m:Int)+1+3) (by omega)
 go_upto_region 10 with fail
 clear c_N c_L hmk w1 w2
 have hM:QMem wc bn bl wc.heap.size (wc.heap.size+1) (wc.heap.size+1+1) (.cells #[.int .i64 m] 3) (.cells #[.slice (some ⟨b,0,none⟩) (m+1) c] 44) (((wc.alloc (.cells ((zeros (m+4)).map (Value.int .i64)).toArray 3)).alloc (.cells #[.slice none 0 0,.slice none 0 0,.slice none 0 0,.slice none 0 0] 58)).alloc (.cells #[.int .i64 0,.int .i64 0,.int .i64 0,.int .i64 0] 50)) (zeros (m+4)) (fun _=>0) (fun _=>[]) (Array.replicate 4 (.slice none 0 0)):=by
  have l1:=kN.lt
  have l2:=kL.lt
  have l3:bn≠bl:=fun e=>by
   have q1:=kN.cells 0
   rw [e,kL.cells 0] at q1
   cases q1
  refine⟨(((Ext.refl wc).alloc _).alloc _).alloc _,((kN.alloc _).alloc _).alloc _,((kL.alloc _).alloc _).alloc _,((Blk.new wc _).alloc _).alloc _,?_,?_,ARows.start _ _ _ (by simp;omega) 4,⟨l1,l2⟩,by omega,by omega⟩
  · have h:=(Blk.new (wc.alloc (.cells ((zeros (m+4)).map (Value.int .i64)).toArray 3)) (.cells #[.slice none 0 0,.slice none 0 0,.slice none 0 0,.slice none 0 0] 58)).alloc (.cells #[.int .i64 0,.int .i64 0,.int .i64 0,.int .i64 0] 50)
    simp only [World.size_alloc] at h
    exact h
  · have h:=Blk.new ((wc.alloc (.cells ((zeros (m+4)).map (Value.int .i64)).toArray 3)).alloc (.cells #[.slice none 0 0,.slice none 0 0,.slice none 0 0,.slice none 0 0] 58)) (.cells #[.int .i64 0,.int .i64 0,.int .i64 0,.int .i64 0] 50)
    simp only [World.size_alloc] at h
    exact h
 clear kN kL
 have hb2:b<wc.heap.size:=hb
 generalize hbc:wc.heap.size=bc at hM ⊢
 generalize hba:bc+1=ba at *
 generalize hbp:ba+1=bp at *
 generalize World.alloc (World.alloc (World.alloc wc _) _) _=W0 at *
 clear hbc hba hbp
 obtain⟨w0,hw0⟩:∃ w0,w0=wc:=⟨_,rfl⟩
 subst hw0
 obtain⟨OL,hOL⟩:∃ OL:Obj,OL=(.cells #[.slice (some ⟨b,0,none⟩) (m+1) c] 44):=⟨_,rfl⟩
 obtain⟨ON,hON⟩:∃ ON:Obj,ON=(.cells #[.int .i64 m] 3):=⟨_,rfl⟩
 rw [<- hOL,<- hON] at hM
 have hOLh:=Lib.hid hOL
 have hONh:=Lib.hid hON
 have hLh:=Lib.hid hL
 have hLbh:=Lib.hid hLb
 have hch:=Lib.hid hc
 have hXh:=Lib.hid hX2
 have heh:=Lib.hid he
 obtain⟨D,hD⟩:∃ D:Nat,D=600:=⟨_,rfl⟩
 have hDh:=Lib.hid hD
 have hI0:=Lib.hid (EInv.start m D 0 m1 (by omega))
 clear hOL hON hL hLb hc hX2 he hb hD
 go_wp2_with fail
 go_loopw [10] (fun a10 wr=>∃ (j:Nat) (th:Nat->ETh) (F:Nat->Int) (turn:Nat) (M:List Int) (ans:Nat->List Int) (vs:Array Value),a10=.int .i64 j/\j<=Ls.length/\Hid (EInv m D j th F turn M ans)/\Hid (QMem w0 bn bl bc ba bp ON OL wr M (fun t=>((th t).ph:Int)) ans vs)) (fun a10 _=>Ls.length-(intOf a10).toNat)
 case atStart =>
  refine⟨0,_,_,_,_,_,Array.replicate 4 (.slice none 0 0),rfl,by omega,hI0,?_⟩
  have h:=hM
  unfold zeros at h
  rw [Nat.add_comm m 4] at h
  exact h
 case round =>
  clear hM hI0
  obtain⟨j,th,F,turn,M,ans,vs,rfl,hj,hI,hM⟩:=hrel
  by_cases hjl:j<Ls.length
  rotate_left
  · have dj:decide ((j:Int)<(Ls.length:Int))=false:=by rw [decide_eq_false_iff_not];omega
    have hE1:=Lib.hid (hXh.out.trans hM.out.ext)
    clear hM hI
    go_wp2_with fail
    refine (alive48 _).mono ?_
    rintro e w7 ⟨rfl,hx7⟩
    have hf:=Lib.hid (hE1.out.trans hx7)
    clear hx7
    go_wp2_with fail
    first | exact⟨rfl,hf.out⟩ | (go_ret;exact⟨rfl,hf.out⟩) | (go_ret2;exact⟨rfl,hf.out⟩)
  have dj:decide ((j:Int)<(Ls.length:Int))=true:=by rw [decide_eq_true_eq];omega
  obtain⟨x,hx⟩:∃ x,Ls[j]?=some x:=⟨_,List.getElem?_eq_getElem hjl⟩
  obtain⟨bq,oq,rfl,hbq,hcx0⟩:=hLh.out.at_ hx
  have hcx:=((hM.out.ext.cell (p:=⟨bq,oq+j,none⟩) (Nat.lt_of_lt_of_le hbq hXh.out.size)).trans (hXh.out.cell (p:=⟨bq,oq+j,none⟩) hbq)).trans hcx0
  clear hcx0
  have hxb:=hLbh.out x (List.mem_of_getElem? hx)
  obtain⟨y,rfl⟩:∃ y:Nat,x=y:=⟨x.toNat,by omega⟩
  obtain⟨t,htt⟩:∃ t:Nat,((y:Int)).tmod (m:Int)=t:=⟨(((y:Int)).tmod (m:Int)).toNat,by
   have:=Int.tmod_nonneg (m:Int) (show (0:Int)<=y by omega)
   omega⟩
  have htm:t<m:=by
   have:=Int.tmod_lt_of_pos (y:Int) (show (0:Int)<m by omega)
   omega
  have hm0:¬ m=0:=by omega
  have hwy:=IntWalk.i64_in (y:Int) (by omega)
  have c_N:wr.cell? ⟨bn,0,none⟩=some (.int .i64 m):=by have h:=hM.out.kN;rw [hONh.out] at h;exact h.cells 0
  have c_Nd:wr.drew.cell? ⟨bn,0,none⟩=some (.int .i64 m):=by have h:=hM.out.kN;rw [hONh.out] at h;exact h.cells 0
  go_upto_region 13 with fail
  have hS:(wr.drew.cell? ⟨bq,oq+j,none⟩=some (.int .u8 y))/\wr.drew.cell? ⟨bn,0,none⟩=some (.int .i64 m):=⟨hcx,c_Nd⟩
  have hlt:=(Array.getElem?_eq_some_iff.1 (show wr.heap[bn]?=_ from hM.out.kN)).1
  go_cut [11] (fun s11 wx=>∃ bz,s11=.pointer (some ⟨bz,0,none⟩)/\wr.heap.size<=bz/\Ext wr wx/\Blk wx bz (.cells #[.int .i64 t] 3))
  case first =>
   -- [dev
   have hbq':bq<wr.heap.size:=Nat.lt_of_lt_of_le (Nat.lt_of_lt_of_le hbq hXh.out.size) hM.out.ext.size
   refine wp_region_held_drew (S:=fun w'=>w'.cell? ⟨bq,oq+j,none⟩=some (.int .u8 y)/\w'.cell? ⟨bn,0,none⟩=some (.int .i64 m)) rfl hS (fun hHeld=>?_)
   clear c_N c_Nd hcx hM hI
   refine tkb 0 ?_
   iterate 7
    refine tkn (v:=?_) rfl (by kernel_rfl) (fun _ _ _ h=>h) (by assumption) ?_ ?_
    rotate_left
    · (intro w hSw;(try dsimp only at hSw);go_simp;try with_reducible rfl)
    try simp only [put_pack]
   refine tke ?_
   refine wpAnyH_ready (rs:=[7]) (by kernel_rfl) (by simp) ?_
   refine AllReadyH.cons rfl (fun K hKK=>?_) (AllReadyH.nil)
   go_simp
   have hz:Blk ((wr.alloc (.cells #[.int .i64 0] 3)).drew) wr.heap.size (.cells #[.int .i64 0] 3):=(Blk.new wr (.cells #[.int .i64 0] 3)).ext (Ext.refl _).drew
   have hxq:=((Ext.refl wr).alloc (.cells #[.int .i64 0] 3)).drew
   generalize hbz:wr.heap.size=bz at *
   generalize World.drew (World.alloc wr _)=wq at *
   refine hKK.out _ _ ⟨(hxq.cell (p:=⟨bq,oq+j,none⟩) (hbz▸hbq')).trans hS.1,(hxq.cell (p:=⟨bn,0,none⟩) (hbz▸hlt)).trans hS.2⟩ (fun hHeld=>?_)
   clear hKK K
   try dsimp only
   obtain⟨z1,z2⟩:=box_end (v:=.int .i64 t) hz hxq (by omega)
   have c_hz:=hz.cells 0
   have hfz:=frozen_of_heap hz 0
   refine wpAnyH_ready (rs:=[8]) (by kernel_rfl) (by simp) ?_
   refine AllReadyH.cons rfl (fun K hKK=>?_) (AllReadyH.nil)
   simp only [List.getElem?_toArray,List.getElem?_cons_zero] at c_hz
   go_simp
   clear c_hz hfz
   refine hKK.out _ _ ⟨(z1.cell (p:=⟨bq,oq+j,none⟩) (hbz▸hbq')).trans hS.1,(z1.cell (p:=⟨bn,0,none⟩) (hbz▸hlt)).trans hS.2⟩ (fun hHeld=>?_)
   clear hKK K
   try dsimp only
   refine wpAnyH_done (by kernel_rfl) ?_ _
   go_simp
   go_wp2_with fail
   go_meet
   exact⟨bz,rfl,Nat.le_refl _,z1,z2⟩
   -- dev]
  case rest =>
  obtain⟨bz,rfl,hbz,hxz,bT⟩:=hcut
  have hvz0:Hid (∀ v,vs[t]?=some v->v.ownBlock≠some bz):=fun v h1 h2=>(hM.out.rows.more hbz).off t v _ h1 h2 (by simp)
  have gT:bc<bz/\ba<bz/\bp<bz:=⟨by have:=hM.out.kC.lt;omega,by have:=hM.out.kA.lt;omega,by have:=hM.out.kP.lt;omega⟩
  have hM1:=Lib.hid (hM.out.keep hxz)
  clear hM hxz hcx htt c_N c_Nd hS hlt hbz
  have ht4:t<4:=by omega
  have ht4i:(t:Int)<4:=by omega
  have c_T:wc.cell? ⟨bz,0,none⟩=some (.int .i64 t):=bT.cells 0
  have c_P:wc.cell? ⟨bp,t,none⟩=some (.int .i64 ((th t).ph:Int)):=by
   rw [hM1.out.kP.cells t]
   exact fours_at ht4
  have hfP:wc.frozen? ⟨bp,t,none⟩=false:=frozen_of_heap hM1.out.kP t
  go_upto_if 54 with fail
  go_cut [] (fun wx=>∃ th':Nat->ETh,(th' t).ph≠1/\Hid (EInv m D j th' F turn M ans)/\Hid (QMem w0 bn bl bc ba bp ON OL wx M (fun s=>((th' s).ph:Int)) ans vs)/\Blk wx bz (.cells #[.int .i64 t] 3))
  case first =>
   -- [dev
   by_cases hp1:(th t).ph=1
   · have dp:(((th t).ph:Int)==1)=true:=by rw [beq_iff_eq];omega
     have hI2:=Lib.hid (hI.out.begin2 (by rw [hDh.out];omega) htm hp1)
     have hM2:=Lib.hid (hM1.out.setP ht4 2)
     have bT2:=Lib.hid (blk_ne (b':=bp) (i:=t) bT (by omega) (.int .i64 2))
     clear hI hM1 bT hp1
     go_wp2_with fail
     go_meet
     refine⟨_,?_,hI2,hM2.out.same fun s _=>?_,bT2.out⟩
     · rw [putE_self];decide
     · by_cases e:s=t
       · subst e;rw [putE_self];simp [putF]
       · rw [putE_ne e];simp [putF,e]
   · have dp:(((th t).ph:Int)==1)=false:=by rw [beq_eq_false_iff_ne];omega
     have hI2:=Lib.hid hI.out
     have bT2:=Lib.hid bT
     have hp:=Lib.hid hp1
     clear hI bT hp1
     go_wp2_with fail
     go_meet
     exact⟨th,hp.out,hI2,hM1,bT2.out⟩
   -- dev]
  case rest =>
  clear hM1 bT c_T c_P hfP hI
  obtain⟨th2,hp1,hI,hM1,bT⟩:=hcut
  clear th
  have c_T:wc.cell? ⟨bz,0,none⟩=some (.int .i64 t):=bT.cells 0
  obtain⟨kk,ci,vv,yv,M2,S1,l1,hr1,hacc,hl1,hci,hkk,hyv,th3,F3,turn3,S2,hoth,hnext⟩:=hI.out.pick htm hp1 (by rw [hDh.out];omega)
  have hlen:=(hI.out.pos t htm).1
  have hlM:=hI.out.cells.len
  have hph2:=(hI.out.ok.pl t htm).le
  obtain⟨A,c5,hvt,hIn,hrow⟩:=hM1.out.rows.ints ht4
  have c_A:wc.cell? ⟨ba,t,none⟩=some (.slice A (ans t).length c5):=(hM1.out.kA.cells t).trans hvt
  have hPl:=play_int 28 #[.pointer (some ⟨bp,0,none⟩),.pointer (some ⟨bz,0,none⟩),.pointer (some ⟨bl,0,none⟩),.pointer (some ⟨bn,0,none⟩)] (treeM (eask t m) D (estart (th2 t).ph)) none 0 [] A c5 (ans t) wc (Ints.nil _) (by simp) hIn (by unfold maxAns;omega) (fun k hk=>(own_ge hrow hk).2) (fun _ _=>rfl) (fun W p hxW hP=>eiscl _ p m t (th2 t).ph D _ b c bl bn bz bp rs W hP (regsP hb2 hch.out (hM1.out.ext.trans hxW) hP hM1.out.ext.size) heh.out m1 m4 htm (by rw [hDh.out];show (ans t).length-0<600;omega) (by have h:=hM1.out.kL.ext hxW;rw [hOLh.out] at h;exact h.cells 0) (by have h:=hM1.out.kN.ext hxW;rw [hONh.out] at h;exact h.cells 0) ((bT.ext hxW).cells 0) (((hM1.out.kP.ext hxW).cells t).trans (fours_at ht4)))
  rw [hr1] at hPl
  simp only [Option.getD_none,Option.isSome_none] at hPl
  go_wp2_with fail
  refine hPl.mono ?_
  clear hPl
  rintro e w3 ⟨v3,rfl,hO,hx3⟩
  obtain⟨A3,c3,D3,d3,vs3,L3,rfl,hO3⟩:=hO
  obtain⟨E3,k3,hvs3,_,_⟩:=hO3.locs.slice
  subst hvs3
  generalize (shortL L3).length=n3 at *
  have hat:S1.acc[(ans t).length]?=some ⟨kk,(ci:Int),vv⟩:=by rw [hacc,<- hl1];simp
  have hal:S1.acc.length=(ans t).length+1:=by rw [hacc,<- hl1];simp
  obtain⟨bk,rfl,hbk,q0,q1,q2⟩:=hO3.accs.at_ hat
  simp only at q0 q1 q2
  unfold outV
  rw [hal]
  have hxo:=(Ext.refl w3).alloc (.cells #[.bool false,.slice (some ⟨bk,0,none⟩) ((ans t).length+1) c3,.slice D3 S1.nts.length d3,.slice E3 n3 k3] 30)
  have hM3:=Lib.hid (hM1.out.keep (hx3.trans hxo))
  have bT3:=bT.ext (hx3.trans hxo)
  have bO3:=Blk.new w3 (.cells #[.bool false,.slice (some ⟨bk,0,none⟩) ((ans t).length+1) c3,.slice D3 S1.nts.length d3,.slice E3 n3 k3] 30)
  have q0:=(hxo.cell (p:=⟨bk,_,none⟩) hbk).trans q0
  have q1:=(hxo.cell (p:=⟨bk,_,none⟩) hbk).trans q1
  have q2:=(hxo.cell (p:=⟨bk,_,none⟩) hbk).trans q2
  have hnx:=Lib.hid hnext
  have hothh:=Lib.hid hoth
  have hkkh:=Lib.hid hkk
  have hyvh:=Lib.hid hyv
  have gO:bc<w3.heap.size/\ba<w3.heap.size/\bp<w3.heap.size/\bz<w3.heap.size:=⟨by have:=hM1.out.kC.ext hx3;exact this.lt,by have:=hM1.out.kA.ext hx3;exact this.lt,by have:=hM1.out.kP.ext hx3;exact this.lt,(bT.ext hx3).lt⟩
  have hvo0:Hid (∀ v,vs[t]?=some v->v.ownBlock≠some w3.heap.size):=fun v h1 h2=>by
   have:=((hM1.out.keep hx3).rows.more (Nat.le_refl _)).off t v _ h1 h2
   simp at this
  clear hx3 hO3 hM1 bT c_T c_A hIn hrow hat hxo hr1 hacc hnext hoth hkk hyv hI hal
  have hz:(((ans t).length:Int)+1==0)=false:=by rw [beq_eq_false_iff_ne];omega
  generalize hb9:w3.heap.size=bo at *
  go_upto_region 18 with fail
  generalize World.alloc w3 _=V3 at *
  clear hb9
  have c_O:=bO3.cells
  go_upto_region 21 with fail
  have hxa:=(Ext.refl V3).alloc (.cells #[.int .i64 kk,.int .i64 (ci:Int),.int .i64 vv] 54)
  have bA:=Blk.new V3 (.cells #[.int .i64 kk,.int .i64 (ci:Int),.int .i64 vv] 54)
  have hM4:=Lib.hid (hM3.out.keep hxa)
  have bT4:=bT3.ext hxa
  have bO4:=bO3.ext hxa
  have gA:bz<V3.heap.size/\bo<V3.heap.size:=⟨bT3.lt,bO3.lt⟩
  have hvA0:Hid (∀ v,vs[t]?=some v->v.ownBlock≠some V3.heap.size):=fun v h1 h2=>by
   have:=(hM3.out.rows.more (Nat.le_refl _)).off t v _ h1 h2
   simp at this
  clear hM3 bT3 bO3 hxa c_O q0 q1 q2 hz
  generalize hb9:V3.heap.size=bA' at *
  generalize World.alloc V3 _=V4 at *
  clear hb9
  have c_A:∀ i,V4.cell? ⟨bA',i,none⟩=(#[.int .i64 kk,.int .i64 (ci:Int),.int .i64 vv]:Array Value)[i]?:=bA.cells
  have hc0:decide ((ci:Int)<0)=false:=by rw [decide_eq_false_iff_not];omega
  have hc1:decide ((m:Int)+4<=(ci:Int))=false:=by rw [decide_eq_false_iff_not];omega
  have hc2:decide (m+4<=ci)=false:=by rw [decide_eq_false_iff_not];omega
  have hci0:(0:Int)<=(ci:Int):=by omega
  have hcil:(ci:Int)<(m:Int)+4:=by omega
  have hfC:V4.frozen? ⟨bc,ci,none⟩=false:=frozen_of_heap hM4.out.kC ci
  obtain⟨x0,hx0⟩:∃ x0,M[ci]?=some x0:=⟨_,List.getElem?_eq_getElem hci⟩
  have c_C:V4.cell? ⟨bc,ci,none⟩=some (.int .i64 x0):=by
   rw [hM4.out.kC.cells ci]
   simp [hx0]
  go_upto_if 94 with fail
  go_cut [] (fun wx=>Hid (QMem w0 bn bl bc ba bp ON OL wx M2 (fun s=>((th2 s).ph:Int)) ans vs)/\Blk wx bz (.cells #[.int .i64 t] 3)/\Blk wx bo (.cells #[.bool false,.slice (some ⟨bk,0,none⟩) ((ans t).length+1) c3,.slice D3 S1.nts.length d3,.slice E3 n3 k3] 30)/\Blk wx bA' (.cells #[.int .i64 kk,.int .i64 (ci:Int),.int .i64 vv] 54))
  case first =>
   -- [dev
   rcases hkkh.out with⟨hk1,e1⟩ | ⟨hk2,e1⟩
   · have dk:(kk==2)=false:=by rw [beq_eq_false_iff_ne];omega
     go_wp2_with fail
     go_meet
     exact⟨by rw [e1];exact hM4,bT4,bO4,bA⟩
   · have dk:(kk==2)=true:=by rw [beq_iff_eq];omega
     go_wp2_with fail
     go_meet
     exact⟨by rw [e1];exact hM4.out.setC ci vv,blk_ne bT4 (by omega) _,blk_ne bO4 (by omega) _,blk_ne bA (by omega) _⟩
   -- dev]
  case rest =>
  clear hM4 bT4 bO4 bA c_A c_C hfC hkkh hc0 hc1 hx0
  obtain⟨hM6,bT6,bO6,bA6⟩:=hcut
  have c_T:wc.cell? ⟨bz,0,none⟩=some (.int .i64 t):=bT6.cells 0
  have hC6:∀ {W:World},Ext wc W->W.cell? ⟨bc,ci,none⟩=some (.int .i64 yv):=fun hx=>by
   rw [(hM6.out.kC.ext hx).cells ci]
   simp [hyvh.out]
  have c_C:=hC6 (Ext.refl wc)
  have c_A:wc.cell? ⟨ba,t,none⟩=some (.slice A (ans t).length c5):=(hM6.out.kA.cells t).trans hvt
  have c_F:wc.cell? ⟨bA',1,none⟩=some (.int .i64 (ci:Int)):=bA6.cells 1
  have hrow6:Hid (wc.ownsRow w0.heap.size 3 1 (.slice A (ans t).length c5) (ans t).length (rowOf (ans t))):=by
   obtain⟨v',q1,q2⟩:=hM6.out.rows.row t (by omega)
   rw [hvt] at q1
   injection q1 with q1
   subst q1
   exact q2
  have hge6:w0.heap.size<=wc.heap.size:=hM6.out.ext.size
  have hvo:Hid (∀ b',b'∈[bn,bl,bc,ba,bp]->(Value.slice A (ans t).length c5).ownBlock≠some b'):=fun b' hb' e=>hM6.out.rows.off t _ b' hvt e hb'
  have hvz:=hvz0.out _ hvt
  have hvo1:=hvo0.out _ hvt
  have hvA:=hvA0.out _ hvt
  have ht0:(0:Int)<=(t:Int):=by omega
  have hxd:=(Ext.refl wc).drew
  have hxe:=(Ext.refl wc).alloc (.cells #[.int .i64 yv] 3)
  have c_Td:(World.drew wc).cell? ⟨bz,0,none⟩=some (.int .i64 t):=bT6.cells 0
  have c_Cd:=hC6 hxd
  have c_Ad:(World.drew wc).cell? ⟨ba,t,none⟩=some (.slice A (ans t).length c5):=(hM6.out.kA.cells t).trans hvt
  have c_Fd:(World.drew wc).cell? ⟨bA',1,none⟩=some (.int .i64 (ci:Int)):=bA6.cells 1
  have c_Te:(wc.alloc (.cells #[.int .i64 yv] 3)).cell? ⟨bz,0,none⟩=some (.int .i64 t):=(bT6.alloc _).cells 0
  have c_Ce:(wc.alloc (.cells #[.int .i64 yv] 3)).cell? ⟨bc,ci,none⟩=some (.int .i64 yv):=hC6 hxe
  have c_Fe:(wc.alloc (.cells #[.int .i64 yv] 3)).cell? ⟨bA',1,none⟩=some (.int .i64 (ci:Int)):=(bA6.alloc _).cells 1
  have c_Ae:(wc.alloc (.cells #[.int .i64 yv] 3)).cell? ⟨ba,t,none⟩=some (.slice A (ans t).length c5):=((hM6.out.kA.alloc _).cells t).trans hvt
  clear hC6 hxd hxe
  obtain⟨i0,hi,hz0,hz1,hz2⟩:=info_parts info_int
  go_upto_region 25 with fail
  go_cut [] (fun wx=>∃ gg cap,Hid (QMem w0 bn bl bc ba bp ON OL wx M2 (fun s=>((th2 s).ph:Int)) (fun s=>if s=t then ans t++[yv] else ans s) (vs.setIfInBounds t (.slice (some ⟨gg,0,none⟩) ((ans t).length+1) cap)))/\Blk wx bz (.cells #[.int .i64 t] 3)/\Blk wx bo (.cells #[.bool false,.slice (some ⟨bk,0,none⟩) ((ans t).length+1) c3,.slice D3 S1.nts.length d3,.slice E3 n3 k3] 30))
  case first =>
   -- [dev
   have hS:(World.drew wc).cell? ⟨bz,0,none⟩=some (.int .i64 t)/\(World.drew wc).cell? ⟨bc,ci,none⟩=some (.int .i64 yv)/\(World.drew wc).cell? ⟨bA',1,none⟩=some (.int .i64 (ci:Int)):=⟨c_Td,c_Cd,c_Fd⟩
   have hSe:((World.drew wc).alloc (.cells #[.int .i64 yv] 3)).cell? ⟨bz,0,none⟩=some (.int .i64 t)/\((World.drew wc).alloc (.cells #[.int .i64 yv] 3)).cell? ⟨bc,ci,none⟩=some (.int .i64 yv)/\((World.drew wc).alloc (.cells #[.int .i64 yv] 3)).cell? ⟨bA',1,none⟩=some (.int .i64 (ci:Int)):=⟨c_Te,c_Ce,c_Fe⟩
   refine wp_region_held_drew (S:=fun w'=>w'.cell? ⟨bz,0,none⟩=some (.int .i64 t)/\w'.cell? ⟨bc,ci,none⟩=some (.int .i64 yv)/\w'.cell? ⟨bA',1,none⟩=some (.int .i64 (ci:Int))) rfl hS (fun hHeld=>?_)
   clear c_T c_C c_A c_F
   refine tkb 0 ?_
   iterate 3
    refine tkn (v:=?_) rfl (by kernel_rfl) (fun _ _ _ h=>h) (by assumption) ?_ ?_
    rotate_left
    · (intro w hSw;(try dsimp only at hSw);go_simp;try with_reducible rfl)
    try simp only [put_pack]
   refine tke ?_
   refine tkb 4 ?_
   iterate 5
    refine tkn (v:=?_) rfl (by kernel_rfl) (fun _ _ _ h=>h) (by assumption) ?_ ?_
    rotate_left
    · (intro w hSw;(try dsimp only at hSw);go_simp;try with_reducible rfl)
    try simp only [put_pack]
   refine tke ?_
   refine wpAnyH_ready (rs:=[3,9]) (by kernel_rfl) (by simp) ?_
   refine AllReadyH.cons rfl (fun K hKK=>?_) (AllReadyH.cons rfl (fun K hKK=>?_) (AllReadyH.nil))
   · go_simp
     refine hKK.out _ _ hS (fun hHeld=>?_)
     clear hKK K
     try dsimp only
     refine wpAnyH_ready (rs:=[9]) (by kernel_rfl) (by simp) ?_
     refine AllReadyH.cons rfl (fun K hKK=>?_) (AllReadyH.nil)
     go_simp
     refine hKK.out _ _ hSe (fun hHeld=>?_)
     clear hKK K
     try dsimp only
     refine wpAnyH_ready (rs:=[10]) (by kernel_rfl) (by simp) ?_
     refine AllReadyH.cons rfl (fun K hKK=>?_) (AllReadyH.nil)
     refine step_append_lies _ (by rfl) _ _ _ (by rfl) w0.heap.size 3 i0 _ 1 8 Try.underlying28 hi hz0 hz1 hz2 rfl (by omega) (Value.slice A (ans t).length c5) (ans t).length (rowOf (ans t)) (by rfl) ((World.ownsRow.drew hrow6.out).alloc _) ⟨wc.heap.size,0,none⟩ 1 1 [.int .i64 yv] (by rfl) (by rfl) (cells_new1 wc _ _) (by simp [Value.oneCell']) (by omega) (by unfold maxLen;omega) (by omega) (by simp;omega) (wc.heap.size+1) (by simp) ?_
     intro gg cap w1' hown1 hgrow hat1 hlt1
     have hM7:=Lib.hid (hM6.out.grow ht4 hvt hown1 (grown1 hgrow) (hat1.imp id (by omega)))
     have bT7:Blk w1' bz (.cells #[.int .i64 t] 3):=grown_heap bT6 hvz (grown1 hgrow)
     have bO7:Blk w1' bo (.cells #[.bool false,.slice (some ⟨bk,0,none⟩) ((ans t).length+1) c3,.slice D3 S1.nts.length d3,.slice E3 n3 k3] 30):=grown_heap bO6 hvo1 (grown1 hgrow)
     have bA7:Blk w1' bA' (.cells #[.int .i64 kk,.int .i64 (ci:Int),.int .i64 vv] 54):=grown_heap bA6 hvA (grown1 hgrow)
     have bC7:Blk w1' bc (.cells (M2.map (Value.int .i64)).toArray 3):=grown_heap hM6.out.kC (hvo.out bc (by simp)) (grown1 hgrow)
     have bT8:=blk_ne (b':=ba) (i:=t) bT7 (by omega) (.slice (some ⟨gg,0,none⟩) ((ans t).length+1) cap)
     have bO8:=blk_ne (b':=ba) (i:=t) bO7 (by omega) (.slice (some ⟨gg,0,none⟩) ((ans t).length+1) cap)
     have bA8:=blk_ne (b':=ba) (i:=t) bA7 (by omega) (.slice (some ⟨gg,0,none⟩) ((ans t).length+1) cap)
     have bC8:=blk_ne (b':=ba) (i:=t) bC7 hM6.out.ne.2.2.2.2.2.2.2.1 (.slice (some ⟨gg,0,none⟩) ((ans t).length+1) cap)
     have hp1:=grown_heap hM6.out.kA (hvo.out ba (by simp)) (grown1 hgrow)
     have hq1:=cell_of_heap hp1
     have hf1:=frozen_of_heap hp1
     refine hKK.out _ _ ⟨bT7.cells 0,by rw [bC7.cells ci];simp [hyvh.out],bA7.cells 1⟩ (fun hHeld=>?_)
     clear hKK K hown1 hgrow hat1 hlt1 hp1
     try dsimp only
     refine tk 11 (v:=?_) rfl (by kernel_rfl) (fun _ _ _ h=>h) (by assumption) ?_ ?_
     rotate_left
     · (intro w hSw;(try dsimp only at hSw);go_simp;try with_reducible rfl)
     try simp only [put_pack]
     refine wpAnyH_ready (rs:=[12]) (by kernel_rfl) (by simp) ?_
     refine AllReadyH.cons rfl (fun K hKK=>?_) (AllReadyH.nil)
     go_simp
     refine hKK.out _ _ ⟨bT8.cells 0,by rw [bC8.cells ci];simp [hyvh.out],bA8.cells 1⟩ (fun hHeld=>?_)
     clear hKK K hq1 hf1 bT7 bO7 bA7 bC7
     try dsimp only
     have hbb:=Lib.hid (And.intro bT8 bO8)
     clear bT8 bO8 bA8 bC8
     refine wpAnyH_done (by kernel_rfl) ?_ _
     go_simp
     go_wp2_with fail
     go_meet
     exact⟨gg,cap,hM7,hbb.out.1,hbb.out.2⟩
   · go_simp
     refine hKK.out _ _ hSe (fun hHeld=>?_)
     clear hKK K
     try dsimp only
     refine wpAnyH_ready (rs:=[3]) (by kernel_rfl) (by simp) ?_
     refine AllReadyH.cons rfl (fun K hKK=>?_) (AllReadyH.nil)
     go_simp
     refine hKK.out _ _ hSe (fun hHeld=>?_)
     clear hKK K
     try dsimp only
     refine wpAnyH_ready (rs:=[10]) (by kernel_rfl) (by simp) ?_
     refine AllReadyH.cons rfl (fun K hKK=>?_) (AllReadyH.nil)
     refine step_append_lies _ (by rfl) _ _ _ (by rfl) w0.heap.size 3 i0 _ 1 8 Try.underlying28 hi hz0 hz1 hz2 rfl (by omega) (Value.slice A (ans t).length c5) (ans t).length (rowOf (ans t)) (by rfl) ((World.ownsRow.drew hrow6.out).alloc _) ⟨wc.heap.size,0,none⟩ 1 1 [.int .i64 yv] (by rfl) (by rfl) (cells_new1 wc _ _) (by simp [Value.oneCell']) (by omega) (by unfold maxLen;omega) (by omega) (by simp;omega) (wc.heap.size+1) (by simp) ?_
     intro gg cap w1' hown1 hgrow hat1 hlt1
     have hM7:=Lib.hid (hM6.out.grow ht4 hvt hown1 (grown1 hgrow) (hat1.imp id (by omega)))
     have bT7:Blk w1' bz (.cells #[.int .i64 t] 3):=grown_heap bT6 hvz (grown1 hgrow)
     have bO7:Blk w1' bo (.cells #[.bool false,.slice (some ⟨bk,0,none⟩) ((ans t).length+1) c3,.slice D3 S1.nts.length d3,.slice E3 n3 k3] 30):=grown_heap bO6 hvo1 (grown1 hgrow)
     have bA7:Blk w1' bA' (.cells #[.int .i64 kk,.int .i64 (ci:Int),.int .i64 vv] 54):=grown_heap bA6 hvA (grown1 hgrow)
     have bC7:Blk w1' bc (.cells (M2.map (Value.int .i64)).toArray 3):=grown_heap hM6.out.kC (hvo.out bc (by simp)) (grown1 hgrow)
     have bT8:=blk_ne (b':=ba) (i:=t) bT7 (by omega) (.slice (some ⟨gg,0,none⟩) ((ans t).length+1) cap)
     have bO8:=blk_ne (b':=ba) (i:=t) bO7 (by omega) (.slice (some ⟨gg,0,none⟩) ((ans t).length+1) cap)
     have bA8:=blk_ne (b':=ba) (i:=t) bA7 (by omega) (.slice (some ⟨gg,0,none⟩) ((ans t).length+1) cap)
     have bC8:=blk_ne (b':=ba) (i:=t) bC7 hM6.out.ne.2.2.2.2.2.2.2.1 (.slice (some ⟨gg,0,none⟩) ((ans t).length+1) cap)
     have hp1:=grown_heap hM6.out.kA (hvo.out ba (by simp)) (grown1 hgrow)
     have hq1:=cell_of_heap hp1
     have hf1:=frozen_of_heap hp1
     refine hKK.out _ _ ⟨bT7.cells 0,by rw [bC7.cells ci];simp [hyvh.out],bA7.cells 1⟩ (fun hHeld=>?_)
     clear hKK K hown1 hgrow hat1 hlt1 hp1
     try dsimp only
     refine tk 11 (v:=?_) rfl (by kernel_rfl) (fun _ _ _ h=>h) (by assumption) ?_ ?_
     rotate_left
     · (intro w hSw;(try dsimp only at hSw);go_simp;try with_reducible rfl)
     try simp only [put_pack]
     refine wpAnyH_ready (rs:=[12]) (by kernel_rfl) (by simp) ?_
     refine AllReadyH.cons rfl (fun K hKK=>?_) (AllReadyH.nil)
     go_simp
     refine hKK.out _ _ ⟨bT8.cells 0,by rw [bC8.cells ci];simp [hyvh.out],bA8.cells 1⟩ (fun hHeld=>?_)
     clear hKK K hq1 hf1 bT7 bO7 bA7 bC7
     try dsimp only
     have hbb:=Lib.hid (And.intro bT8 bO8)
     clear bT8 bO8 bA8 bC8
     refine wpAnyH_done (by kernel_rfl) ?_ _
     go_simp
     go_wp2_with fail
     go_meet
     exact⟨gg,cap,hM7,hbb.out.1,hbb.out.2⟩
   -- dev]
  case rest =>
  clear hM6 bT6 bO6 bA6 c_T c_C c_A c_F c_Td c_Cd c_Ad c_Fd c_Te c_Ce c_Fe c_Ae hrow6 hge6 hvo hvz hvo1 hvA hi hz0 hz1 hz2
  obtain⟨gg,cap,hM8,bT8,bO8⟩:=hcut
  obtain⟨ans2,ha2⟩:∃ f:Nat->List Int,f=(fun s=>if s=t then ans t++[yv] else ans s):=⟨_,rfl⟩
  obtain⟨vs2,hv2⟩:∃ v,v=vs.setIfInBounds t (.slice (some ⟨gg,0,none⟩) ((ans t).length+1) cap):=⟨_,rfl⟩
  rw [<- ha2,<- hv2] at hM8
  have h2t:ans2 t=ans t++[yv]:=by rw [ha2];exact if_pos rfl
  have h2l:(ans2 t).length<=j+1:=by rw [h2t];simp;omega
  have hnx2:=hnx.out
  rw [<- h2t] at hnx2
  have h0:∀ s,(if s=t then [] else ans s)=(if s=t then [] else ans2 s):=fun s=>by
   by_cases e:s=t
   · rw [if_pos e,if_pos e]
   · rw [if_neg e,if_neg e,ha2];exact (if_neg e).symm
  have hnx3:((treeM (eask t m) D (estart (th2 t).ph)).run (TS0 [] (ans2 t))=(none,S2)/\(th3 t).ph=(th2 t).ph/\EInv m D (j+1) th3 F3 turn3 M2 ans2) ∨
     ((treeM (eask t m) D (estart (th2 t).ph)).run (TS0 [] (ans2 t))=(some 0,S2)/\(th3 t).ph=((th2 t).ph+1) % 3/\EInv m D (j+1) th3 F3 turn3 M2 (fun s=>if s=t then [] else ans2 s)):=by
   rcases hnx2 with⟨q1,q2,q3⟩ | ⟨q1,q2,q3⟩
   · refine .inl ⟨q1,q2,?_⟩
     have e:(fun s=>if s=t then ans2 t else ans s)=ans2:=funext fun s=>by
      by_cases e:s=t
      · rw [if_pos e,e]
      · rw [if_neg e,ha2];exact (if_neg e).symm
     rw [e] at q3
     exact q3
   · refine .inr ⟨q1,q2,?_⟩
     rw [funext h0] at q3
     exact q3
  have hnxh:=Lib.hid hnx3
  clear ha2 hv2 h2t hnx hnx2 hnx3 h0 hvt
  obtain⟨A2,c2,hvt2,hI2,hrow2⟩:=hM8.out.rows.ints ht4
  have c_T:wc.cell? ⟨bz,0,none⟩=some (.int .i64 t):=bT8.cells 0
  have c_A:wc.cell? ⟨ba,t,none⟩=some (.slice A2 (ans2 t).length c2):=(hM8.out.kA.cells t).trans hvt2
  have hPl:=play_int 28 #[.pointer (some ⟨bp,0,none⟩),.pointer (some ⟨bz,0,none⟩),.pointer (some ⟨bl,0,none⟩),.pointer (some ⟨bn,0,none⟩)] (treeM (eask t m) D (estart (th2 t).ph)) none 0 [] A2 c2 (ans2 t) wc (Ints.nil _) (by simp) hI2 (by unfold maxAns;omega) (fun k hk=>(own_ge hrow2 hk).2) (fun _ _=>rfl) (fun W p hxW hP=>eiscl _ p m t (th2 t).ph D _ b c bl bn bz bp rs W hP (regsP hb2 hch.out (hM8.out.ext.trans hxW) hP hM8.out.ext.size) heh.out m1 m4 htm (by rw [hDh.out];show (ans2 t).length-0<600;omega) (by have h:=hM8.out.kL.ext hxW;rw [hOLh.out] at h;exact h.cells 0) (by have h:=hM8.out.kN.ext hxW;rw [hONh.out] at h;exact h.cells 0) ((bT8.ext hxW).cells 0) (((hM8.out.kP.ext hxW).cells t).trans (fours_at ht4)))
  obtain⟨rv,dn,hrv⟩:∃ (rv:Option Int) (dn:Bool),(treeM (eask t m) D (estart (th2 t).ph)).run (TS0 [] (ans2 t))=(rv,S2)/\rv.isSome=dn:=by
   rcases hnxh.out with⟨q1,_⟩ | ⟨q1,_⟩
   · exact⟨_,_,q1,rfl⟩
   · exact⟨_,_,q1,rfl⟩
  rw [hrv.1] at hPl
  simp only [hrv.2] at hPl
  go_wp2_with fail
  refine hPl.mono ?_
  clear hPl
  rintro e w4 ⟨v4,rfl,hO4,hx4⟩
  obtain⟨A4,c4,D4,d4,E4,k4,n4,rfl⟩:=hO4.parts
  have hM9:=Lib.hid (hM8.out.keep hx4)
  have bT9:=bT8.ext hx4
  have bO9:=bO8.ext hx4
  clear hM8 bT8 bO8 c_T c_A hx4 hO4 hI2 hrow2 hvt2
  have c_O:=bO9.cells
  have hfO:∀ i,w4.frozen? ⟨bo,i,none⟩=false:=fun i=>frozen_of_heap bO9 i
  go_upto_region 27 with fail
  have hg0:w0.heap.size<=bo:=by have:=hM9.out.ge.1;omega
  have hxo:Ext w0 ((((w4.setCell ⟨bo,0,none⟩ (.bool dn)).setCell ⟨bo,1,none⟩ (.slice A4 S2.acc.length c4)).setCell ⟨bo,2,none⟩ (.slice D4 S2.nts.length d4)).setCell ⟨bo,3,none⟩ (.slice E4 n4 k4)):=(((hM9.out.ext.setCell (p:=⟨bo,0,none⟩) hg0 _).setCell (p:=⟨bo,1,none⟩) hg0 _).setCell (p:=⟨bo,2,none⟩) hg0 _).setCell (p:=⟨bo,3,none⟩) hg0 _
  have hko:∀ q,q≠bo->(((((w4.setCell ⟨bo,0,none⟩ (.bool dn)).setCell ⟨bo,1,none⟩ (.slice A4 S2.acc.length c4)).setCell ⟨bo,2,none⟩ (.slice D4 S2.nts.length d4)).setCell ⟨bo,3,none⟩ (.slice E4 n4 k4))).heap[q]?=w4.heap[q]?:=fun q hq=>by
   rw [heap_setCell_ne _ _ hq,heap_setCell_ne _ _ hq,heap_setCell_ne _ _ hq,heap_setCell_ne _ _ hq]
  have bO5:Blk ((((w4.setCell ⟨bo,0,none⟩ (.bool dn)).setCell ⟨bo,1,none⟩ (.slice A4 S2.acc.length c4)).setCell ⟨bo,2,none⟩ (.slice D4 S2.nts.length d4)).setCell ⟨bo,3,none⟩ (.slice E4 n4 k4)) bo (.cells #[.bool dn,.slice A4 S2.acc.length c4,.slice D4 S2.nts.length d4,.slice E4 n4 k4] 30):=heap_setCell (heap_setCell (heap_setCell (heap_setCell bO9 _) _) _) _
  have hM5:=Lib.hid (hM9.out.far bO9 (by decide) (by omega) hko hxo)
  have bT5:Blk ((((w4.setCell ⟨bo,0,none⟩ (.bool dn)).setCell ⟨bo,1,none⟩ (.slice A4 S2.acc.length c4)).setCell ⟨bo,2,none⟩ (.slice D4 S2.nts.length d4)).setCell ⟨bo,3,none⟩ (.slice E4 n4 k4)) bz (.cells #[.int .i64 t] 3):=(hko bz (by omega)).trans bT9
  clear hM9 bT9 bO9 c_O hfO hxo hko
  generalize World.setCell (World.setCell (World.setCell (World.setCell w4 _ _) _ _) _ _) _ _=W5 at *
  have c_O:=bO5.cells
  cases dn with
  | false =>
    have hI3:Hid (EInv m D (j+1) th3 F3 turn3 M2 ans2)/\(th3 t).ph=(th2 t).ph:=by
     rcases hnxh.out with⟨q1,q2,q3⟩ | ⟨q1,_⟩
     · exact⟨q3,q2⟩
     · rw [hrv.1] at q1
       injection q1 with q1
       have:=hrv.2
       rw [q1] at this
       cases this
    have hM6:Hid (QMem w0 bn bl bc ba bp ON OL W5 M2 (fun s=>((th3 s).ph:Int)) ans2 vs2):=hM5.out.same fun s _=>by
     by_cases e:s=t
     · rw [e,hI3.2]
     · rw [hothh.out s e]
    have hI4:=hI3.1
    clear hI3 hM5 bT5 bO5 hnxh hrv
    go_wp2_with fail
    refine⟨⟨j+1,th3,F3,turn3,M2,ans2,vs2,by first | rfl | go_num,by omega,hI4,hM6⟩,?_⟩
    simp [intOf]
    omega
  | true =>
    have hI3:Hid (EInv m D (j+1) th3 F3 turn3 M2 (fun s=>if s=t then [] else ans2 s))/\(th3 t).ph=((th2 t).ph+1) % 3:=by
     rcases hnxh.out with⟨q1,_⟩ | ⟨q1,q2,q3⟩
     · rw [hrv.1] at q1
       injection q1 with q1
       have:=hrv.2
       rw [q1] at this
       cases this
     · exact⟨q3,q2⟩
    have hp3:=Lib.hid hI3.2
    have hI4:=hI3.1
    clear hI3 hnxh hrv
    have c_T:W5.cell? ⟨bz,0,none⟩=some (.int .i64 t):=bT5.cells 0
    have hfA:W5.frozen? ⟨ba,t,none⟩=false:=frozen_of_heap hM5.out.kA t
    obtain⟨u5,c_A⟩:∃ u5,W5.cell? ⟨ba,t,none⟩=some u5:=by
     obtain⟨A6,c6,q1,_⟩:=hM5.out.rows.ints ht4
     exact⟨_,(hM5.out.kA.cells t).trans q1⟩
    go_upto_region 29 with fail
    have hM6:=Lib.hid (hM5.out.clear t)
    have bT6:=blk_ne (b':=ba) (i:=t) bT5 (by omega) (.slice none 0 0)
    clear hM5 bT5 bO5 c_T hfA c_A c_O
    generalize World.setCell W5 _ _=W6 at *
    have c_T:(World.drew W6).cell? ⟨bz,0,none⟩=some (.int .i64 t):=bT6.cells 0
    have c_P:(World.drew W6).cell? ⟨bp,t,none⟩=some (.int .i64 ((th2 t).ph:Int)):=(hM6.out.kP.cells t).trans (fours_at ht4)
    have hfP:(World.drew W6).frozen? ⟨bp,t,none⟩=false:=frozen_of_heap hM6.out.kP t
    obtain⟨q,hq⟩:∃ q:Nat,(th2 t).ph=q:=⟨_,rfl⟩
    have hq2:q<=2:=by omega
    rw [hq] at c_P
    have hwq:=IntWalk.i64_in ((q:Int)+1) (by omega)
    have htq:((q:Int)+1).tmod 3=((th3 t).ph:Int):=by
     rw [hp3.out,hq,Int.tmod_eq_emod_of_nonneg (by omega)]
     omega
    refine wp_region_held_drew (S:=fun w'=>w'.cell? ⟨bz,0,none⟩=some (.int .i64 t)) rfl c_T (fun hHeld=>?_)
    refine tkb 0 ?_
    iterate 3
     refine tkn (v:=?_) rfl (by kernel_rfl) (fun _ _ _ h=>h) (by assumption) ?_ ?_
     rotate_left
     · (intro w hSw;(try dsimp only at hSw);go_simp;try with_reducible rfl)
     try simp only [put_pack]
    refine tke ?_
    refine wpAnyH_ready (rs:=[3]) (by kernel_rfl) (by simp) ?_
    refine AllReadyH.cons rfl (fun K hKK=>?_) (AllReadyH.nil)
    go_simp
    refine hKK.out _ _ c_T (fun hHeld=>?_)
    clear hKK K
    try dsimp only
    refine tkb 4 ?_
    iterate 3
     refine tkn (v:=?_) rfl (by kernel_rfl) (fun _ _ _ h=>h) (by assumption) ?_ ?_
     rotate_left
     · (intro w hSw;(try dsimp only at hSw);go_simp;try with_reducible rfl)
     try simp only [put_pack]
    refine tke ?_
    refine wpAnyH_ready (rs:=[7]) (by kernel_rfl) (by simp) ?_
    refine AllReadyH.cons rfl (fun K hKK=>?_) (AllReadyH.nil)
    go_simp
    have hM7:Hid (QMem w0 bn bl bc ba bp ON OL ((W6.setCell ⟨bp,t,none⟩ (.int .i64 ((th3 t).ph:Int))).drew) M2 (fun s=>((th3 s).ph:Int)) (fun s=>if s=t then [] else ans2 s) (vs2.setIfInBounds t (.slice none 0 0))):=by
     refine ((hM6.out.setP ht4 ((th3 t).ph:Int)).keep (Ext.refl _).drew).same fun s _=>?_
     by_cases e:s=t
     · rw [e];simp [putF]
     · rw [hothh.out s e];simp [putF,e]
    have bT7:Blk ((W6.setCell ⟨bp,t,none⟩ (.int .i64 ((th3 t).ph:Int))).drew) bz (.cells #[.int .i64 t] 3):=blk_ne (b':=bp) (i:=t) bT6 (by omega) _
    generalize World.drew (World.setCell W6 _ _)=W7 at *
    refine hKK.out _ _ (bT7.cells 0) (fun hHeld=>?_)
    clear hKK K c_T c_P hfP hM6 bT6
    try dsimp only
    refine wpAnyH_done (by kernel_rfl) ?_ _
    go_simp
    have c_T:W7.cell? ⟨bz,0,none⟩=some (.int .i64 t):=bT7.cells 0
    have c_N:W7.cell? ⟨bn,0,none⟩=some (.int .i64 m):=by have h:=hM7.out.kN;rw [hONh.out] at h;exact h.cells 0
    have c_Q:∀ s,s<4->W7.cell? ⟨bp,s,none⟩=some (.int .i64 ((th3 s).ph:Int)):=fun s hs=>(hM7.out.kP.cells s).trans (fours_at hs)
    have hQh:=Lib.hid c_Q
    have bTh:=Lib.hid bT7
    clear hHeld hwq htq hq hp3 hci0 hcil c_Q bT7
    go_wp2_with fail
    go_loopw [16] (fun a16 wr'=>∃ s:Nat,a16=.int .i64 s/\s<=m/\wr'=W7) (fun a16 _=>m-(intOf a16).toNat)
    case atStart=>exact⟨0,rfl,by omega,rfl⟩
    case round =>
     obtain⟨s,rfl,hs,rfl⟩:=hrel
     by_cases hsm:s<m
     · have ds:decide ((s:Int)<(m:Int))=true:=by rw [decide_eq_true_eq];omega
       have hs4:(s:Int)<4:=by omega
       have hs0:(0:Int)<=(s:Int):=by omega
       have c_S:=hQh.out s (by omega)
       have c_T2:=hQh.out t (by omega)
       by_cases hst:s=t
       · have dst:((s:Int) != (t:Int))=false:=by simp;omega
         clear hst c_S c_T2
         go_wp2_with fail
         refine⟨⟨s+1,by go_num,by omega,by first | trivial | rfl⟩,?_⟩
         simp [intOf];omega
       · have dst:((s:Int) != (t:Int))=true:=by simp;omega
         have hno:=hI4.out.alone htm hsm (Ne.symm hst)
         by_cases hp1':(th3 s).ph=1
         · have dp:(((th3 s).ph:Int)==1)=true:=by rw [beq_iff_eq];omega
           have dq:(((th3 t).ph:Int)==1)=false:=by rw [beq_eq_false_iff_ne];intro e;exact hno ⟨by omega,hp1'⟩
           clear hno hst hp1'
           go_wp2_with fail
           refine⟨⟨s+1,by go_num,by omega,by first | trivial | rfl⟩,?_⟩
           simp [intOf];omega
         · have dp:(((th3 s).ph:Int)==1)=false:=by rw [beq_eq_false_iff_ne];omega
           clear hno hst hp1' c_T2
           go_wp2_with fail
           refine⟨⟨s+1,by go_num,by omega,by first | trivial | rfl⟩,?_⟩
           simp [intOf];omega
     · have ds:decide ((s:Int)<(m:Int))=false:=by rw [decide_eq_false_iff_not];omega
       go_wp2_with fail
       refine⟨⟨j+1,th3,F3,turn3,M2,_,_,by first | rfl | go_num,by omega,hI4,hM7⟩,?_⟩
       simp [intOf]
       omega
end Go.Proofs.Ytbphlkaihfbgeaa
namespace Go.Proofs.Ytbphlkaihfbgeaa.eisenOne
open Go.ChangeShapes Go.WideShapes Go.ChangeAt Go.RowKit Kv
set_option maxRecDepth 100000 in
theorem main (H:Type)(enc:TypeId × Value->H)(W:World)(base:Nat)(args:Array Value)(ds:List (DataW H))(p:List MemPlace)
  (hval:∀ (j:Nat) t v,Try.f5.params[j]?=some t->args[j]?=some v->Value.okWide Try.prog W .any base t v)
  (hA:DataW.TrodAll enc Try.prog W 0 (fun _=>true) true Try.f5.params.toList args.toList ds p)(_hL:laidMetH Try.prog Rows.eisenOneRow.laid W) :
  Calls Try.prog 5 args W fun e w'=>e=.returned (.bool true)/\Ext W w':=by
 rw [Try.params5] at hA hval
 obtain⟨v0,vs0,d0,ds0,p0,q0,hargs,rfl,rfl,h0,r0⟩:=trodAll_cons hA
 obtain⟨v1,vs1,d1,ds1,p1,q1,rfl,rfl,rfl,h1,r1⟩:=trodAll_cons r0
 obtain⟨rfl,rfl,rfl⟩:=trodAll_nil r1
 obtain rfl:args=#[v0,v1]:=by cases args;simp_all
 obtain⟨s,rfl,rfl,rfl,ws⟩:=open_int Try.underlying5 (hval 0 5 v0 rfl rfl) h0
 have hs:=bounds_u8 ws
 obtain⟨La,hLa,hLb⟩:=bytes_arg (hval 1 43 v1 rfl rfl) h1
 obtain⟨n,rfl⟩:∃ n:Nat,s=(n:Int):=⟨s.toNat,by omega⟩
 exact eis_walk n v1 La W (by omega) hLa hLb
end Go.Proofs.Ytbphlkaihfbgeaa.eisenOne
namespace Go.Proofs.Ytbphlkaihfbgeaa.eisenOne
open Go.ChangeShapes Go.WideShapes Go.ChangeAt Go.RowKit
theorem laidOut:laidOutB Try.prog=true:=by kernel_rfl
set_option maxRecDepth 100000 in
theorem contract (H:Type)(enc:TypeId × Value->H)(W:World)(base:Nat)(args:Array Value)(ds gs:List (DataW H))(before:List MemPlace)
  (hval:∀ (j:Nat) t v,Try.f5.params[j]?=some t->args[j]?=some v->Value.okWide Try.prog W .any base t v)
  (hW:DataW.Whole enc Try.prog Try.f5.params.toList Rows.eisenOneSpec.vars false W args.toList ds gs before)(hL:laidMetH Try.prog Rows.eisenOneRow.laid W) :
  Calls Try.prog 5 args W fun e W'=>∃ v,e=.returned v/\Rows.eisenOneSpec.post enc Try.prog Try.f5 false true false false W args v W':=by
 refine (main H enc W base args ds before hval (by obtain⟨p,q,hA,hV,hpq,_,_⟩:=hW;obtain⟨_,rfl⟩:=trodVars_none hV;rw [List.append_nil] at hpq;subst hpq;exact hA) hL).mono fun e W' ⟨he,hg⟩=>⟨_,he,?_⟩
 refine law_post (tb:=4) laidOut ?_ (by kernel_rfl) Try.underlying4 rfl ?_ hW hg
 · rw [Try.params5]
   intro t ht
   simp only [List.mem_cons,List.not_mem_nil,or_false] at ht
   rcases ht with rfl | rfl <;> exact⟨by kernel_rfl,of_decide_eq_true (by kernel_rfl)⟩
 · intro ds hl
   rw [Try.params5] at hl
   match ds,hl with
   | [d0,d1],_=>rfl
set_option maxRecDepth 100000 in
theorem laid_met (os:Os):laidMet Try.prog Rows.eisenOneRow.laid (((World.holding Try.prog os ⟨#[],#[],[]⟩)).forCall (fun _ _=>0) ⟨#[],#[.int .u8 0,.slice none 0 0],[]⟩).memory :=
 laidMet_of_run' 8 (by kernel_rfl) (by kernel_rfl)
set_option maxRecDepth 100000 in
theorem reads (os:Os){H:Type}(enc:TypeId × Value->H):∃ places,DataW.whole enc Try.prog (((World.holding Try.prog os ⟨#[],#[],[]⟩)).forCall (fun _ _=>0) ⟨#[],#[.int .u8 0,.slice none 0 0],[]⟩).memory Try.f5.params.toList Rows.eisenOneSpec.vars false (#[.int .u8 0,.slice none 0 0]:Array Value).toList 8=some ([.lit (.int .u8 0),.nil],[],places) :=
 ⟨[],by kernel_rfl⟩
set_option maxRecDepth 100000 in
theorem lifted (os:Os)(started:os.Started)(H:Type)(enc:TypeId × Value->H)(F:Stop.Interp) :
  ReturnsInHanded {} Try.checked os 5 .any ((OpenSpec.ofChange Rows.eisenOneSpec).preRow enc Try.prog Try.f5 Rows.eisenOneRow.domain false Rows.eisenOneRow.laid) (((OpenSpec.ofChange Rows.eisenOneSpec).at F).post enc Try.prog Try.f5 false true false false):=by
 obtain⟨places,hx⟩:=reads os enc
 refine returnsInHanded_of_row (C:=Try.checked) (s:=(OpenSpec.ofChange Rows.eisenOneSpec)) own started (by kernel_rfl) Try.func5
  (witness_row_at (enc:=enc) (C:=Try.checked) false (World.holding Try.prog os ⟨#[],#[],[]⟩) #[.int .u8 0,.slice none 0 0] rfl (by kernel_rfl) (by kernel_rfl) (by kernel_rfl)
    (OpenSpec.preRow_of_cond 8 hx (by kernel_rfl) (fun k hk=>by cases hk) (by kernel_rfl) (laid_met os))) ?_
 intro W base args ds gs before hval hW _ _ _ hL _ _
 exact contract H enc W base args ds gs before hval hW hL
theorem c1:(Rows.eisenOneRow.inPlace==Try.pinned.checked.prog.inPlace 5)=true:=by kernel_rfl
theorem c2:(Rows.eisenOneRow.unfollowed==Try.pinned.checked.prog.unfollowed 5)=true:=by kernel_rfl
theorem c3:(Rows.eisenOneRow.recurses==Try.pinned.checked.prog.recurses 5)=true:=by kernel_rfl
theorem c4:(Rows.eisenOneRow.named==Try.pinned.checked.prog.varsNamed 5)=true:=by kernel_rfl
theorem closed:joinedFacts Try.pinned.checked.prog 5 Try.f5 (OpenSpec.ofChange Rows.eisenOneSpec).bare Rows.eisenOneRow=true:=by
 unfold joinedFacts
 simp only [Bool.and_eq_true]
 repeat' refine And.intro ?_ ?_
 all_goals first | with_reducible exact c1 | with_reducible exact c2 | with_reducible exact c3 | with_reducible exact c4 | kernel_rfl
theorem said:Rows.EisenOneSaid :=
 OpenClaim.holds_of_cond 5 Try.f5 rfl rfl rfl rfl rfl rfl rfl ⟨rfl,rfl,rfl,rfl,rfl⟩ rfl rfl rfl rfl rfl (by kernel_rfl) Try.func5 closed
  (of_decide_eq_true (by kernel_rfl)) (by unfold Func.isWrapper;first | (rw [if_pos (by decide +kernel)];kernel_rfl) | (rw [if_neg (by decide +kernel)];exact⟨rfl,rfl⟩))
  (fun os started H enc _ F=>by rw [OpenClaim.pre_eq_preRow];exact lifted os started H enc F)
end Go.Proofs.Ytbphlkaihfbgeaa.eisenOne
