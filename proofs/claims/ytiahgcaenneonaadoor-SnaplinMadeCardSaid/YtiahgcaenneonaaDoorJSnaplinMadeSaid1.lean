/-
  SnaplinMadeSaid: part 1 of its proof.
-/
import Derived.Test.YtiahgcaenneonaaDoorJSnaplinMadeSaid0
import Derived.Maps.OwnSet
import Derived.Maps.OwnOps
import Derived.Maps.Range
import Derived.DeepKeys4
import Derived.Shelf.Strings.Builder1
import Derived.Shelf.Strings.Builder2
import Derived.Shelf.Strings.OnBuilder
import Derived.Shelf.Strings.BuilderF
import Derived.Shelf.Strconv.Itoa0
import Derived.Shelf.Strconv.Itoa1
import Derived.Shelf.LaysM
import Derived.Shelf.Strconv.Itoa2
import Derived.Shelf.Strconv.Itoa3
import Derived.Shelf.Strings.Prefix
import Derived.Shelf.Bits.Mul64
import Derived.Shelf.Strings.Repeat
import Derived.Shelf.Slices.Reverse
import Derived.Shelf.Slices.Cells
import Derived.Test.YtiahgcaenneonaaDoorProg
import Derived.Carry
import Derived.ProofKit
import Derived.OpenShut
import Derived.Deep.DeepHandedRow
import Derived.WideKeyArgs
import Derived.ChangeSame
import Derived.Deep.Slices
namespace Kv
def freeB (l:List SOp) (s i:Nat):Bool:=(listM s).all fun j=>j==i||!(aheadAt l j i)
def okJ (l:List SOp) (i j:Nat):Bool:=j==i||!(aheadAt l j i)
theorem freeB_all (l:List SOp)(s i:Nat):freeB l s i=(listM s).all (okJ l i):=rfl
end Kv
namespace Go.Proofs.YtiahgcaenneonaaDoor
open Go.RowKit Kv
attribute [local go_sem] Oper.semAt_some
theorem keeps_ext {W W':World}(B:Nat)(h:Ext W W'):KeepsFrom B W W':=⟨h.size,fun k _ _ hk _=>(Below.block h k (Array.getElem?_eq_some_iff.1 hk).1).trans hk⟩
def AllJ (l:List SOp) (i s:Nat) (pre:List (Mem s)):Prop:=∀ x∈pre,okJ l i x.1.val=true
def ExJ (l:List SOp) (i s:Nat) (pre:List (Mem s)):Prop:=∃ x∈pre,okJ l i x.1.val=false
theorem free_all {l:List SOp}{i s:Nat}{ys:List (Mem s)}(h:ys.map (·.1)=listF s)(ha:AllJ l i s ys):freeB l s i=true:=by
 rw [freeB_all,List.all_eq_true]
 intro x hx
 rw [<- listF_val,<- h] at hx
 obtain⟨y,hy,rfl⟩:=List.mem_map.1 hx
 obtain⟨z,hz,rfl⟩:=List.mem_map.1 hy
 exact ha z hz
theorem free_ex {l:List SOp}{i s:Nat}{pre:List (Mem s)}(h:pre.map (·.1) <+: listF s)(he:ExJ l i s pre):freeB l s i=false:=by
 rw [freeB_all,List.all_eq_false]
 obtain⟨z,hz,ho⟩:=he
 refine⟨z.1.val,?_,by simp [ho]⟩
 rw [<- listF_val]
 exact List.mem_map.2 ⟨z.1,h.subset (List.mem_map.2 ⟨z,hz,rfl⟩),rfl⟩
set_option maxRecDepth 100000 in
set_option maxHeartbeats 1000000 in
theorem free_p (A:Option Addr)(c:Nat)(l:List SOp)(s i:Nat)(w:World)(hl:OpsV w A l)(_hn:l.length<=20)(hs:s<18446744073709551616)(hsl:∀ j,s.testBit j=true->j<l.length)(hi:i<l.length)(T:Tabs w) :
  Calls Tryd.prog 82 #[.slice A l.length c,.int .u64 s,.int .i64 i] w fun e w'=>e=.returned (.bool (freeB l s i))/\Ext w w':=by
 refine (callsIn_wide (n:=5)).1 ?_
 refine callsIn_of_wp_marks Tryd.func82 rfl trivial ?_ rfl
 simp only [Tryd.ntmps82,List.size_toArray,List.length_cons,List.length_nil,Nat.reduceAdd,Nat.reduceSub,Array.replicate_succ,Array.replicate_zero,List.push_toArray,List.append_toArray,List.nil_append,List.cons_append]
 gi_wp2_with (refine⟨trivial,?_⟩;gi_at_call 81;refine CallsIn.mono (callsIn_wide.2 (each_p s _)) ?_;rintro e w' ⟨rfl,rfl⟩)
 have k3:=(((Blk.new w (.cells #[.slice A l.length c] 24)).alloc (.cells #[.int .i64 i] 3)).alloc (.cells #[.bool false] 4)).alloc (.cells #[.int .u64 s] 91)
 have k5:=((Blk.new (w.alloc (.cells #[.slice A l.length c] 24)) (.cells #[.int .i64 i] 3)).alloc (.cells #[.bool false] 4)).alloc (.cells #[.int .u64 s] 91)
 have k6:=(Blk.new ((w.alloc (.cells #[.slice A l.length c] 24)).alloc (.cells #[.int .i64 i] 3)) (.cells #[.bool false] 4)).alloc (.cells #[.int .u64 s] 91)
 have kN:=Blk.new (((w.alloc (.cells #[.slice A l.length c] 24)).alloc (.cells #[.int .i64 i] 3)).alloc (.cells #[.bool false] 4)) (.cells #[.int .u64 s] 91)
 have hx0:=((((Ext.refl w).alloc (.cells #[.slice A l.length c] 24)).alloc (.cells #[.int .i64 i] 3)).alloc (.cells #[.bool false] 4)).alloc (.cells #[.int .u64 s] 91)
 simp only [World.size_alloc] at k5 k6 kN
 generalize World.alloc (World.alloc (World.alloc (World.alloc w _) _) _) _=W0 at *
 have hwb:=Lib.hid (show w.heap.size<=w.heap.size+1+1 by omega)
 obtain⟨bN,hbN⟩:∃ b,b=w.heap.size+1+1+1:=⟨_,rfl⟩
 obtain⟨b6,hb6⟩:∃ b,b=w.heap.size+1+1:=⟨_,rfl⟩
 obtain⟨b5,hb5⟩:∃ b,b=w.heap.size+1:=⟨_,rfl⟩
 obtain⟨b3,hb3⟩:∃ b,b=w.heap.size:=⟨_,rfl⟩
 have hw6:w.heap.size<=b6:=by omega
 rw [<- hbN] at kN ⊢
 rw [<- hb6] at k6 ⊢
 rw [<- hb5] at k5 ⊢
 rw [<- hb3] at k3 ⊢
 clear hbN hb6 hb5 hb3 hwb
 refine wpIn_rangeFunc_ownG rfl (by omega) (gf:=90) (lb:=#[.pointer (some ⟨bN,0,none⟩)]) rfl trivial (enters_of Tryd.func90 (by kernel_rfl) rfl)
  (each_stops 4 (by omega) bN W0.heap.size s hs W0 kN.lt (Nat.le_refl _) (kN.cells 0) (fun W' hW=>T.ext (hx0.trans hW))) belowK_t (belowK_b (Nat.le_refl _)) (Below.refl _ _) (fun _=>rfl)
  (fun pre W=>AllJ l i s pre/\Below W0.heap.size W0 W)
  (fun k pre W=>(k=.ret/\ExJ l i s pre)/\Boxed W b6 4 (.bool false)/\Below w.heap.size w W)
  (OwnFrom.and (fun _ _ _ _ h _ _=>h) (ownFrom_below (Nat.le_refl _) (Nat.le_refl _)))
  (fun k=>OwnFrom.and (fun _ _ _ _ h _ _=>h) (OwnFrom.and (Own.from (boxed_own b6 4 (fun _=>.bool false)) _) (ownFrom_below (Nat.le_refl _) (Nat.le_trans hw6 (Nat.le_of_lt k6.lt)))))
  ⟨fun _ h=>(nomatch h),Below.refl _ _⟩
  (fun x=>{ tmps:=#[.slice A l.length c,.int .u64 s,.int .i64 i,.pointer (some ⟨b3,0,none⟩),undef,.pointer (some ⟨b5,0,none⟩),.pointer (some ⟨b6,0,none⟩),.int .i64 (x.1.val:Nat),.int .u64 s,.func (.func 90) #[] #[.pointer (some ⟨bN,0,none⟩)],.int .i64 (x.1.val:Nat),undef,undef,undef,undef,undef,undef,undef,undef,undef,undef,undef,undef,undef,undef],defers:=[] }) ?assign ?body ?done ?stop
 case assign =>
  intro l' x W K hK
  gi_wp2
  exact hK
 case body =>
  rintro l' pre ⟨⟨x,hx64⟩,hxs⟩ W ⟨hpre,hB⟩ hlt
  have hE:Ext W0 W:=hB
  have hxl:x<l.length:=hsl x hxs
  obtain⟨p,hp⟩:∃ o,l[x]?=some o:=⟨_,List.getElem?_eq_getElem hxl⟩
  obtain⟨q,hq⟩:∃ o,l[i]?=some o:=⟨_,List.getElem?_eq_getElem hi⟩
  obtain⟨bl,rfl,hbl,p0,p1,p2,p3,p4⟩:=op_at (op_ext hl (hx0.trans hE)) hp
  obtain⟨bm,e,hbm,q0,q1,q2,q3,q4⟩:=op_at (op_ext hl (hx0.trans hE)) hq
  have e:bl=bm:=by injection e with e;injection e with e _ _
  subst e
  have c50:=(k5.ext hE).cells 0
  have c30:=(k3.ext hE).cells 0
  have h5b:=(k5.ext hE).lt
  have h3b:=(k3.ext hE).lt
  have k6W:=Lib.hid (k6.ext hE)
  have hSx:Hid (∀ V,Ext W V->V.cell? ⟨b5,0,none⟩=some (.int .i64 i)/\V.cell? ⟨b3,0,none⟩=some (.slice (some ⟨bl,0,none⟩) l.length c)/\V.cell? ⟨bl,x*5,none⟩=some (.int .i64 p.fr)/\V.cell? ⟨bl,x*5+1,none⟩=some (.int .i64 p.te)/\V.cell? ⟨bl,x*5+2,none⟩=some (.bool p.wr)/\V.cell? ⟨bl,x*5+3,none⟩=some (.int .i64 p.val)/\V.cell? ⟨bl,x*5+4,none⟩=some (.int .i64 p.th)/\V.cell? ⟨bl,i*5,none⟩=some (.int .i64 q.fr)/\V.cell? ⟨bl,i*5+1,none⟩=some (.int .i64 q.te)/\V.cell? ⟨bl,i*5+2,none⟩=some (.bool q.wr)/\V.cell? ⟨bl,i*5+3,none⟩=some (.int .i64 q.val)/\V.cell? ⟨bl,i*5+4,none⟩=some (.int .i64 q.th)):=Lib.hid fun V h=>⟨(h.cell (p:=⟨b5,_,none⟩) h5b).trans c50,(h.cell (p:=⟨b3,_,none⟩) h3b).trans c30,(h.cell (p:=⟨bl,_,none⟩) hbl).trans p0,(h.cell (p:=⟨bl,_,none⟩) hbl).trans p1,(h.cell (p:=⟨bl,_,none⟩) hbl).trans p2,(h.cell (p:=⟨bl,_,none⟩) hbl).trans p3,(h.cell (p:=⟨bl,_,none⟩) hbl).trans p4,(h.cell (p:=⟨bl,_,none⟩) hbl).trans q0,(h.cell (p:=⟨bl,_,none⟩) hbl).trans q1,(h.cell (p:=⟨bl,_,none⟩) hbl).trans q2,(h.cell (p:=⟨bl,_,none⟩) hbl).trans q3,(h.cell (p:=⟨bl,_,none⟩) hbl).trans q4⟩
  have hE0:=(Ext.refl W).drew
  have hS:=hSx.out _ hE0
  have hfin:=Lib.hid (And.intro hE hx0)
  have hpreh:=Lib.hid hpre
  have hw6h:=Lib.hid hw6
  have hlh:=Lib.hid hl
  have hok:=Lib.hid (show okJ l i x=(x==i||!isAhead p q) by unfold okJ aheadAt;rw [hp,hq])
  clear hB hE hlt c50 c30 p0 p1 p2 p3 p4 q0 q1 q2 q3 q4 k3 k5 k6 kN hp hq hx0 hpre hl T hw6
  refine wpIn_block ?_
  refine wpIn_seq_k fun K2 hK2=>?_
  have hK2h:=Lib.hid hK2
  clear hK2
  refine wpIn_region_held (S:=fun w'=>w'.cell? ⟨b5,0,none⟩=some (.int .i64 i)/\w'.cell? ⟨b3,0,none⟩=some (.slice (some ⟨bl,0,none⟩) l.length c)/\w'.cell? ⟨bl,x*5,none⟩=some (.int .i64 p.fr)/\w'.cell? ⟨bl,x*5+1,none⟩=some (.int .i64 p.te)/\w'.cell? ⟨bl,x*5+2,none⟩=some (.bool p.wr)/\w'.cell? ⟨bl,x*5+3,none⟩=some (.int .i64 p.val)/\w'.cell? ⟨bl,x*5+4,none⟩=some (.int .i64 p.th)/\w'.cell? ⟨bl,i*5,none⟩=some (.int .i64 q.fr)/\w'.cell? ⟨bl,i*5+1,none⟩=some (.int .i64 q.te)/\w'.cell? ⟨bl,i*5+2,none⟩=some (.bool q.wr)/\w'.cell? ⟨bl,i*5+3,none⟩=some (.int .i64 q.val)/\w'.cell? ⟨bl,i*5+4,none⟩=some (.int .i64 q.th)) (by kernel_rfl) (by kernel_rfl) (fun _ _ h=>h) hS (fun hHeld=>?_)
  by_cases hxi:x=i
  · have d1:((x:Int) != (i:Int))=false:=by simp [hxi]
    have hxih:=Lib.hid hxi
    clear hxi
    refine tkb 0 ?_
    iterate 4
     refine tkn (v:=?_) rfl (by kernel_rfl) (fun _ _ _ h=>h) (by assumption) ?_ ?_
     rotate_left
     · (intro w hSw;(try dsimp only at hSw);go_simp;try with_reducible rfl)
     try simp only [put_pack]
    refine tke ?_
    refine sk 4 rfl (by kernel_rfl) (fun _ _ _ h=>h) (by assumption) ?_
    try simp only [put_pack]
    refine sk 5 rfl (by kernel_rfl) (fun _ _ _ h=>h) (by assumption) ?_
    try simp only [put_pack]
    refine sk 6 rfl (by kernel_rfl) (fun _ _ _ h=>h) (by assumption) ?_
    try simp only [put_pack]
    refine sk 7 rfl (by kernel_rfl) (fun _ _ _ h=>h) (by assumption) ?_
    try simp only [put_pack]
    refine sk 8 rfl (by kernel_rfl) (fun _ _ _ h=>h) (by assumption) ?_
    try simp only [put_pack]
    refine sk 9 rfl (by kernel_rfl) (fun _ _ _ h=>h) (by assumption) ?_
    try simp only [put_pack]
    refine sk 10 rfl (by kernel_rfl) (fun _ _ _ h=>h) (by assumption) ?_
    try simp only [put_pack]
    refine sk 11 rfl (by kernel_rfl) (fun _ _ _ h=>h) (by assumption) ?_
    try simp only [put_pack]
    refine sk 12 rfl (by kernel_rfl) (fun _ _ _ h=>h) (by assumption) ?_
    try simp only [put_pack]
    refine tk 13 (v:=?_) rfl (by kernel_rfl) (fun _ _ _ h=>h) (by assumption) ?_ ?_
    rotate_left
    · (intro w hSw;(try dsimp only at hSw);go_simp;try with_reducible rfl)
    try simp only [put_pack]
    refine wpAnyH_done (by kernel_rfl) ?_ _
    simp only [Exit.then]
    go_simp
    have hz:=Lib.hid (show KeepsFrom W0.heap.size W (World.drew W)/\Below W0.heap.size W (World.drew W)/\AllJ l i s (pre++[⟨⟨x,hx64⟩,hxs⟩])/\Below W0.heap.size W0 (World.drew W) from
     ⟨keeps_ext _ hE0,Below.mono hE0 hfin.out.1.size,fun z hz=>by
      rcases List.mem_append.1 hz with hz | hz
      · exact hpreh.out z hz
      · obtain rfl:=List.mem_singleton.1 hz
        rw [hok.out]
        simp [hxih.out],hfin.out.1.trans hE0⟩)
    clear hS hE0
    refine hK2h.out _ _ ?_
    clear hK2h K2
    gi_wp2_with fail
    exact hz.out
  · have d1:((x:Int) != (i:Int))=true:=by simp;omega
    have hxih:=Lib.hid hxi
    clear hxi
    refine tkb 0 ?_
    iterate 12
     refine tkn (v:=?_) rfl (by kernel_rfl) (fun _ _ _ h=>h) (by assumption) ?_ ?_
     rotate_left
     · (intro w hSw;(try dsimp only at hSw);go_simp;try with_reducible rfl)
     try simp only [put_pack]
    refine tke ?_
    refine wpAnyH_ready (rs:=[12]) (by kernel_rfl) (by simp) ?_
    refine AllReadyH.cons rfl (fun K hKK=>?_) (AllReadyH.nil)
    go_simp
    refine (ahead_p p q _).mono ?_
    rintro e wx ⟨rfl,hxa⟩
    have hE1:=hE0.trans hxa
    cases hah:isAhead p q with
    | false =>
      refine hKK.out _ _ (hSx.out _ hE1) (fun hHeld=>?_)
      clear hKK K
      try dsimp only
      refine tk 13 (v:=?_) rfl (by kernel_rfl) (fun _ _ _ h=>h) (by assumption) ?_ ?_
      rotate_left
      · (intro w hSw;(try dsimp only at hSw);go_simp;try with_reducible rfl)
      try simp only [put_pack]
      refine wpAnyH_done (by kernel_rfl) ?_ _
      simp only [Exit.then]
      go_simp
      have hz:=Lib.hid (show KeepsFrom W0.heap.size W wx/\Below W0.heap.size W wx/\AllJ l i s (pre++[⟨⟨x,hx64⟩,hxs⟩])/\Below W0.heap.size W0 wx from
       ⟨keeps_ext _ hE1,Below.mono hE1 hfin.out.1.size,fun z hz=>by
        rcases List.mem_append.1 hz with hz | hz
        · exact hpreh.out z hz
        · obtain rfl:=List.mem_singleton.1 hz
          rw [hok.out]
          simp [hah],hfin.out.1.trans hE1⟩)
      clear hS hE0 hE1 hxa
      refine hK2h.out _ _ ?_
      clear hK2h K2
      gi_wp2_with fail
      first | exact hz.out | exact⟨hz.out.1,⟨rfl,hz.out.2.1.2⟩,hz.out.2.2⟩
    | true =>
      refine hKK.out _ _ (hSx.out _ hE1) (fun hHeld=>?_)
      clear hKK K
      try dsimp only
      refine tk 13 (v:=?_) rfl (by kernel_rfl) (fun _ _ _ h=>h) (by assumption) ?_ ?_
      rotate_left
      · (intro w hSw;(try dsimp only at hSw);go_simp;try with_reducible rfl)
      try simp only [put_pack]
      refine wpAnyH_done (by kernel_rfl) ?_ _
      simp only [Exit.then]
      go_simp
      have k6x:=k6W.out.ext hE1
      have c6:=k6x.cells 0
      have f6:=frozen_of_heap k6x 0
      have hz:=Lib.hid (show KeepsFrom W0.heap.size W (wx.setCell ⟨b6,0,none⟩ (.bool false))/\(True/\ExJ l i s (pre++[⟨⟨x,hx64⟩,hxs⟩]))/\Boxed (wx.setCell ⟨b6,0,none⟩ (.bool false)) b6 4 (.bool false)/\Below w.heap.size w (wx.setCell ⟨b6,0,none⟩ (.bool false)) from
       ⟨(keeps_ext _ hE1).trans ((KeepsOthers.setCell wx ⟨b6,0,none⟩ (.bool false)).from _),⟨trivial,⟨⟨x,hx64⟩,hxs⟩,by simp,by
        rw [hok.out]
        simp [hah]
        exact hxih.out⟩,heap_setCell (i:=0) k6x (.bool false),Ext.setCell ((hfin.out.2.trans hfin.out.1).trans hE1) (p:=⟨b6,0,none⟩) hw6h.out _⟩)
      clear hS hE0 hE1 hxa k6x
      refine hK2h.out _ _ ?_
      clear hK2h K2
      gi_wp2_with fail
      first | exact hz.out | exact⟨hz.out.1,⟨rfl,hz.out.2.1.2⟩,hz.out.2.2⟩
 case done =>
  rintro D ys W hD hys ⟨hall,hB⟩ hK
  have k6W:=k6.ext (show Ext W0 W from hB)
  have hxW:=hx0.trans (show Ext W0 W from hB)
  have c6:=k6W.cells 0
  have f6:=frozen_of_heap k6W 0
  have hfr:=free_all hys hall
  have hWs:w.heap.size<=W0.heap.size:=hx0.size
  clear k3 k5 k6 kN hys hall
  gi_wp2
  have hK2:=(KeepsOthers.setCell W ⟨b6,0,none⟩ (.bool true)).same D _ hK rfl
  have k62:Boxed (W.setCell ⟨b6,0,none⟩ (.bool true)) b6 4 (.bool true):=heap_setCell (i:=0) k6W (.bool true)
  have hB2:Below w.heap.size w (W.setCell ⟨b6,0,none⟩ (.bool true)):=Ext.setCell hxW (p:=⟨b6,0,none⟩) hw6 _
  have hB3:=hB2.trans (belowK_b (w:=w) (Nat.le_refl _) _ D _ (.deferred none) (by omega) hK2 rfl rfl)
  have hc3:=cell_kept k62.cell (grownBy_putObj' (W.setCell ⟨b6,0,none⟩ (.bool true)) D (.deferred none)) (fun r e=>by cases e;exact⟨_,hK2,rfl⟩)
  refine⟨by simp,.inl ⟨_,_,rfl,run_takeDeferred hK2,?_⟩⟩
  refine⟨.bool true,by simp [results,Tryd.results82,go_sem,hc3],by rw [hfr],hB3⟩
 case stop =>
  rintro D k pre W hD hSp ⟨⟨rfl,hno⟩,hbx,hB⟩ hK
  have hfr:=free_ex hSp hno
  have hWs:w.heap.size<=W0.heap.size:=hx0.size
  gi_wp2
  have hB3:=hB.trans (belowK_b (w:=w) (Nat.le_refl _) _ D _ (.deferred none) (by omega) hK rfl rfl)
  have hc3:=cell_kept hbx.cell (grownBy_putObj' W D (.deferred none)) (fun r e=>by cases e;exact⟨_,hK,rfl⟩)
  refine⟨by simp,.inl ⟨_,_,rfl,run_takeDeferred hK,?_⟩⟩
  refine⟨.bool false,by simp [results,Tryd.results82,go_sem,hc3],by rw [hfr],hB3⟩
end Go.Proofs.YtiahgcaenneonaaDoor
namespace Kv
def leftM (n d:Nat):Nat:=(2 ^ n-1) &&& (18446744073709551615-d)
theorem leftM_bit {n d:Nat}(hd:d<18446744073709551616)(hn:n<=20)(j:Nat):(leftM n d).testBit j=(decide (j<n)&&!d.testBit j):=by
 unfold leftM
 rw [Nat.testBit_and,Nat.testBit_two_pow_sub_one]
 by_cases h:j<n
 · rw [decide_eq_true h,Bool.true_and,Bool.true_and,show (18446744073709551615:Nat)-d=2 ^ 64-(d+1) by omega,Nat.testBit_two_pow_sub_succ (by omega)]
   simp
   omega
 · simp [h]
theorem leftM_lt (n d:Nat)(hn:n<=20):leftM n d<18446744073709551616:=by
 unfold leftM
 have:=pow_lt_64 (j:=n) (by omega)
 exact Nat.lt_of_le_of_lt Nat.and_le_left this
theorem range_filter {n:Nat}{p:Nat->Bool}:∀ {m:Nat},n<=m->(List.range m).filter (fun j=>decide (j<n)&&p j)=(List.range n).filter p
 | 0,h=>by
   obtain rfl:n=0:=by omega
   rfl
 | m+1,h=>by
   rw [List.range_succ,List.filter_append]
   by_cases e:n<=m
   · rw [range_filter e]
     simp
     omega
   · obtain rfl:n=m+1:=by omega
     rw [List.range_succ,List.filter_append]
     congr 1
     · exact List.filter_congr fun x hx=>by
        have:=List.mem_range.1 hx
        rw [decide_eq_true (by omega),Bool.true_and]
     · exact List.filter_congr fun x hx=>by
        obtain rfl:=List.mem_singleton.1 hx
        rw [decide_eq_true (by omega),Bool.true_and]
theorem listM_left {n d:Nat}(hd:d<18446744073709551616)(hn:n<=20):listM (leftM n d)=(List.range n).filter fun j=>!d.testBit j:=by
 unfold listM
 rw [show (leftM n d).testBit=fun j=>decide (j<n)&&!d.testBit j from funext (leftM_bit hd hn)]
 exact range_filter (by omega)
theorem free_same {l:List SOp}{d i:Nat}(hd:d<18446744073709551616)(hn:l.length<=20):freeB l (leftM l.length d) i=freeL l d i:=by
 rw [freeB_all,listM_left hd hn]
 unfold freeL
 rw [Bool.eq_iff_iff,List.all_eq_true,List.all_eq_true]
 constructor
 · intro h x hx
   cases hb:d.testBit x with
   | true=>simp
   | false =>
     have:=h x (List.mem_filter.2 ⟨hx,by simp [hb]⟩)
     unfold okJ at this
     simpa using this
 · intro h x hx
   obtain⟨h1,h2⟩:=List.mem_filter.1 hx
   have:=h x h1
   unfold okJ
   have hb:d.testBit x=false:=by simpa using h2
   rw [hb] at this
   simpa using this
theorem next_same {l:List SOp}{d:Nat}(hd:d<18446744073709551616)(hn:l.length<=20):(listM (leftM l.length d)).filter (freeB l (leftM l.length d))=nextL l d:=by
 rw [listM_left hd hn,List.filter_filter]
 unfold nextL
 refine List.filter_congr fun i _=>?_
 rw [free_same hd hn,Bool.and_comm]
def intsN (l:List Nat):List Int:=List.map (fun x:Nat=>(x:Int)) l
end Kv
namespace Go.Proofs.YtiahgcaenneonaaDoor
open Go.RowKit Kv
attribute [local go_sem] Oper.semAt_some
theorem listF_le (s:Nat):(listF s).length<=64:=by
 have h:((listF s).map Fin.val).length<=64:=by
  rw [listF_val]
  unfold listM
  have:=List.length_filter_le s.testBit (List.range 64)
  simpa using this
 simpa using h
def nxP (l:List SOp) (s:Nat) (pre:List (Mem s)):List Nat:=(pre.map (·.1.val)).filter (freeB l s)
theorem nxP_snoc (l:List SOp)(s:Nat)(pre:List (Mem s))(x:Mem s):nxP l s (pre++[x])=if freeB l s x.1.val=true then nxP l s pre++[x.1.val] else nxP l s pre:=by
 unfold nxP
 rw [List.map_append,List.filter_append]
 split <;> rename_i h <;> simp [h]
theorem nxP_len (l:List SOp)(s:Nat)(pre:List (Mem s)):(nxP l s pre).length<=pre.length:=by
 unfold nxP
 have:=List.length_filter_le (freeB l s) (pre.map (·.1.val))
 simpa using this
set_option maxRecDepth 100000 in
set_option maxHeartbeats 1000000 in
theorem next_p (A:Option Addr)(c:Nat)(l:List SOp)(d:Nat)(w:World)(hl:OpsV w A l)(hn:l.length<=20)(hd:d<18446744073709551616)(T:Tabs w) :
  Calls Tryd.prog 64 #[.slice A l.length c,.int .u64 d] w fun e w'=>∃ v,e=.returned v/\IntRow w' w.heap.size v (intsN (nextL l d))/\Ext w w':=by
 obtain⟨i0,hi,hz0,hz1,hz2⟩:=info_parts info_int
 have hand:Hid (bits .andNot .u64 ((firstM (l.length:Int):Nat):Int) (d:Int)=((leftM l.length d:Nat):Int)):=Lib.hid (by
  have hf:firstM (l.length:Int)=2 ^ l.length-1:=by
   unfold firstM
   split
   · have:l.length=0:=by omega
     rw [this]
   · rw [if_neg (by omega),Int.toNat_natCast]
  rw [hf,u64_andNot_nat _ _ (pow_lt_64 (by omega)) hd]
  rfl)
 refine (callsIn_wide (n:=5)).1 ?_
 refine callsIn_of_wp_marks Tryd.func64 rfl trivial ?_ rfl
 simp only [Tryd.ntmps64,List.size_toArray,List.length_cons,List.length_nil,Nat.reduceAdd,Nat.reduceSub,Array.replicate_succ,Array.replicate_zero,List.push_toArray,List.append_toArray,List.nil_append,List.cons_append]
 gi_wp2_with (refine⟨trivial,?_⟩;gi_at_call 80;refine CallsIn.mono (callsIn_wide.2 (first_p _ _)) ?_;rintro e w' ⟨rfl,rfl⟩)
 rw [hand.out]
 have hs:=leftM_lt l.length d hn
 have hsl:∀ j,(leftM l.length d).testBit j=true->j<l.length:=fun j hj=>by
  rw [leftM_bit hd hn] at hj
  simp at hj
  exact hj.1
 have hres:=next_same hd hn
 generalize leftM l.length d=s at *
 gi_wp2_with (refine⟨trivial,?_⟩;gi_at_call 81;refine CallsIn.mono (callsIn_wide.2 (each_p s _)) ?_;rintro e w' ⟨rfl,rfl⟩)
 have k2:=(((Blk.new w (.cells #[.slice A l.length c] 24)).alloc (.cells #[.slice none 0 0] 25)).alloc (.cells #[.int .u64 s] 91)).alloc (.cells #[.int .u64 s] 91)
 have k5:=((Blk.new (w.alloc (.cells #[.slice A l.length c] 24)) (.cells #[.slice none 0 0] 25)).alloc (.cells #[.int .u64 s] 91)).alloc (.cells #[.int .u64 s] 91)
 have k6:=(Blk.new ((w.alloc (.cells #[.slice A l.length c] 24)).alloc (.cells #[.slice none 0 0] 25)) (.cells #[.int .u64 s] 91)).alloc (.cells #[.int .u64 s] 91)
 have kN:=Blk.new (((w.alloc (.cells #[.slice A l.length c] 24)).alloc (.cells #[.slice none 0 0] 25)).alloc (.cells #[.int .u64 s] 91)) (.cells #[.int .u64 s] 91)
 have hx0:=((((Ext.refl w).alloc (.cells #[.slice A l.length c] 24)).alloc (.cells #[.slice none 0 0] 25)).alloc (.cells #[.int .u64 s] 91)).alloc (.cells #[.int .u64 s] 91)
 simp only [World.size_alloc] at k5 k6 kN
 generalize World.alloc (World.alloc (World.alloc (World.alloc w _) _) _) _=W0 at *
 obtain⟨bN,hbN⟩:∃ b,b=w.heap.size+1+1+1:=⟨_,rfl⟩
 obtain⟨b6,hb6⟩:∃ b,b=w.heap.size+1+1:=⟨_,rfl⟩
 obtain⟨b5,hb5⟩:∃ b,b=w.heap.size+1:=⟨_,rfl⟩
 obtain⟨b2,hb2⟩:∃ b,b=w.heap.size:=⟨_,rfl⟩
 have hw5:w.heap.size<=b5/\b2≠b5/\b6≠b5:=by omega
 rw [<- hbN] at kN ⊢
 rw [<- hb6] at k6 ⊢
 rw [<- hb5] at k5 ⊢
 rw [<- hb2] at k2 ⊢
 clear hbN hb6 hb5 hb2
 generalize firstM (l.length:Int)=fM at *
 refine wpIn_rangeFunc_ownG rfl (by omega) (gf:=90) (lb:=#[.pointer (some ⟨bN,0,none⟩)]) rfl trivial (enters_of Tryd.func90 (by kernel_rfl) rfl)
  (each_stops 4 (by omega) bN w.heap.size s hs W0 kN.lt hx0.size (kN.cells 0) (fun W' hW=>T.ext (show Ext w W' from Below.trans hx0 hW))) belowK_t (belowK_b hx0.size) (Below.refl _ _) (fun _=>rfl)
  (fun pre W=>(∃ v,Boxed W b5 25 v/\W.ownsRow w.heap.size 3 1 v (intsN (nxP l s pre)).length (rowOf (intsN (nxP l s pre)))/\True)/\(Boxed W b2 24 (.slice A l.length c)/\Boxed W b6 91 (.int .u64 s))/\Below w.heap.size w W)
  (fun _ _ _=>False)
  (OwnFrom.and (Own.from (holdsRow_own w.heap.size b5 25 3 1 (fun pre=>(intsN (nxP l s pre)).length) (fun pre=>rowOf (intsN (nxP l s pre))) (fun _ _=>True)) _) (OwnFrom.and (OwnFrom.and (Own.from (boxed_own b2 24 (fun _=>.slice A l.length c)) _) (Own.from (boxed_own b6 91 (fun _=>.int .u64 s)) _)) (ownFrom_below (Nat.le_refl _) hx0.size)))
  (fun _ _ _ _ _ hs _ _=>hs)
  ⟨⟨_,k5,World.ownsRow_nil _ _ _ _,trivial⟩,⟨k2,k6⟩,hx0⟩
  (fun x=>{ tmps:=#[.slice A l.length c,.int .u64 d,.pointer (some ⟨b2,0,none⟩),undef,.slice none 0 0,.pointer (some ⟨b5,0,none⟩),.pointer (some ⟨b6,0,none⟩),.int .i64 (x.1.val:Nat),.slice A l.length c,.int .i64 l.length,.int .u64 fM,.int .u64 d,.int .u64 s,.int .u64 s,.func (.func 90) #[] #[.pointer (some ⟨bN,0,none⟩)],.int .i64 (x.1.val:Nat),undef,undef,undef,undef,undef,undef,undef,undef,undef],defers:=[] }) ?assign ?body ?done ?stop
 case assign =>
  intro l' x W K hK
  gi_wp2
  exact hK
 case body =>
  rintro l' pre ⟨⟨x,hx64⟩,hxs⟩ W ⟨⟨v,hv,hrow,_⟩,⟨h2,h6⟩,hB⟩ hlt
  have hE:Ext w W:=hB
  have c2:=h2.cell
  have c6:=h6.cell
  have hxl:x<l.length:=hsl x hxs
  have hfp:=Lib.hid (free_p A c l s x W (op_ext hl hE) hn hs hsl hxl (T.ext hE))
  have hpl:(nxP l s pre).length<64:=by
   have h1:=nxP_len l s pre
   have h2:=listF_le s
   omega
  have hil:(intsN (nxP l s pre)).length=(nxP l s pre).length:=by simp [intsN]
  rw [hil] at hrow
  have hsn:=Lib.hid (nxP_snoc l s pre ⟨⟨x,hx64⟩,hxs⟩)
  clear hlt hres
  obtain⟨A5,c5,e5⟩:∃ A5 c5,v=.slice A5 (nxP l s pre).length c5:=by
   rcases hrow.2 with⟨rfl,h0⟩ | ⟨g,cap,cur,rfl,_⟩
   · exact⟨none,0,by rw [h0]⟩
   · exact⟨_,_,rfl⟩
  subst e5
  have hvh:=Lib.hid hv
  have hrowh:=Lib.hid hrow
  have h2h:=Lib.hid h2
  have h6h:=Lib.hid h6
  have hEh:=Lib.hid hE
  clear hv hrow h2 h6 hB hE hil
  gi_wp2_with fail
  refine⟨trivial,?_⟩
  refine (CallsIn.inRound l' (callsIn_wide.2 hfp.out)).mono ?_
  rintro e W1 ⟨rfl,hx1⟩
  have hv:Boxed W1 b5 25 (.slice A5 (nxP l s pre).length c5):=Blk.ext hvh.out hx1
  have hrow:=row_ext hrowh.out hx1
  have h2:Boxed W1 b2 24 (.slice A l.length c):=Blk.ext h2h.out hx1
  have h6:Boxed W1 b6 91 (.int .u64 s):=Blk.ext h6h.out hx1
  have hE:=hEh.out.trans hx1
  have hkp:=Lib.hid (keeps_ext W0.heap.size hx1)
  have hb1:Below w.heap.size W W1:=Below.mono hx1 hEh.out.size
  have hb1h:=Lib.hid hb1
  clear hvh hrowh h2h h6h hEh hfp c2 c6 hx1 hb1
  cases hfr:freeB l s x with
  | false =>
    have hs2:nxP l s (pre++[⟨⟨x,hx64⟩,hxs⟩])=nxP l s pre:=by rw [hsn.out,if_neg (by rw [hfr];decide)]
    have hz:=Lib.hid (And.intro hv (And.intro hrow (And.intro h2 (And.intro h6 hE))))
    have hs2h:=Lib.hid hs2
    clear hv hrow h2 h6 hE hs2 hsn
    gi_wp2_with fail
    refine⟨hkp.out,hb1h.out,⟨_,hz.out.1,?_,trivial⟩,⟨hz.out.2.2.1,hz.out.2.2.2.1⟩,hz.out.2.2.2.2⟩
    rw [hs2h.out]
    have hil:(intsN (nxP l s pre)).length=(nxP l s pre).length:=by simp [intsN]
    rw [hil]
    exact hz.out.2.1
  | true =>
    have hs2:nxP l s (pre++[⟨⟨x,hx64⟩,hxs⟩])=nxP l s pre++[x]:=by rw [hsn.out,if_pos hfr]
    have hs2h:=Lib.hid hs2
    have hc:=hv.cell
    have hsz:=hE.size
    have hxlt:x<64:=hx64
    clear hsn hs2
    gi_wp2_with (gi_at_builtin;refine wpListIn_append_own _ rfl _ _ 25 rfl w.heap.size 3 i0 (.int .i64 0) 1 8 Tryd.underlying25 hi hz0 hz1 hz2 rfl (by decide) _ _ _ rfl (hrow.alloc _) ⟨W1.heap.size,0,none⟩ 1 1 [.int .i64 (x:Nat)] rfl rfl (cell_one_new _ _ _) (by simp [Value.oneCell']) (by unfold maxLen;omega) (by omega) (by simp;omega) ?_;intro v' w1 hown' hgrow _;obtain⟨g',cap',rfl⟩:=ownsRow_succ hown';obtain⟨hv1,hv2,hr2,hk2,hb2⟩:=hv.appended (by decide) hrow hsz hw5.1 hown' hgrow;have hc1:=hv1.cell;have hf1:=hv1.frozen)
    have h2':=((h2.alloc (.cells #[.int .i64 (x:Nat)] 3)).kept hgrow (h2.not_row (by decide) hrow)).other (B':=b5) hw5.2.1 (.slice (some ⟨g',0,none⟩) ((nxP l s pre).length+1) cap')
    have h6':=((h6.alloc (.cells #[.int .i64 (x:Nat)] 3)).kept hgrow (h6.not_row (by decide) hrow)).other (B':=b5) hw5.2.2 (.slice (some ⟨g',0,none⟩) ((nxP l s pre).length+1) cap')
    refine⟨hkp.out.trans (hk2.from _),hb1h.out.trans hb2,⟨_,hv2,?_,trivial⟩,⟨h2',h6'⟩,Below.trans hE hb2⟩
    rw [hs2h.out]
    have hil:(intsN (nxP l s pre++[x])).length=(nxP l s pre).length+1:=by simp [intsN]
    rw [hil]
    simpa [intsN,rowOf] using hr2
 case done =>
  rintro D ys W hD hys ⟨⟨v,hv,hrow,_⟩,⟨h2,h6⟩,hB⟩ hK
  have hnx:nxP l s ys=nextL l d:=by
   unfold nxP
   rw [<- hres,<- listF_val s,<- hys,List.map_map]
   rfl
  rw [hnx] at hrow
  have hc:=hv.cell
  have hWs:w.heap.size<=W0.heap.size:=hx0.size
  clear k2 k5 k6 kN hys hnx h2 h6
  gi_wp2
  have hrow3:=ownsRow_putObj hrow (.deferred none) hK rfl
  have hB3:=hB.trans (belowK_b (w:=w) (Nat.le_refl _) W D _ (.deferred none) (by omega) hK rfl rfl)
  refine⟨by simp,.inl ⟨_,_,rfl,run_takeDeferred hK,?_⟩⟩
  exact⟨v,by simp [results,Tryd.results64,go_sem],v,rfl,hrow3,hB3⟩
 case stop =>
  rintro D k pre W _ _ h _
  exact h.elim
end Go.Proofs.YtiahgcaenneonaaDoor
namespace Go.Proofs.YtiahgcaenneonaaDoor
open Go.RowKit Kv
open Go.Maps (Keyed)
def rawR (v:Value):Option (DataW Value × List MemPlace):=some (.held v,[])
def MapV (w:World) (P:Program) (k:TypeId) (b n:Nat) (f:Lit->Option Value) (m:Nat):Prop :=
 ∃ D:DataW Value,w.ownsMap P k rawR b n D/\(∀ kl,Maps.has D kl=(f kl).isSome)/\(∀ kl v,f kl=some v->∀ z,D.atKey kl z=.held v)/\Maps.size D=m
section
variable {P:Program} {k t e:TypeId} {b n m:Nat} {f:Lit->Option Value} {w W:World}
theorem MapV.made (w:World)(P:Program)(k:TypeId):MapV (w.alloc (.map #[] 0)) P k w.heap.size 0 (fun _=>none) 0 :=
 ⟨_,World.ownsMap_made w P k rawR,fun _=>rfl,fun _ _ h=>(nomatch h),rfl⟩
theorem MapV.lt (h:MapV w P k b n f m):b<w.heap.size:=by
 obtain⟨D,h1,_⟩:=h
 exact h1.lt
theorem MapV.mono (h:MapV w P k b n f m){n':Nat}(hn:n<=n'):MapV w P k b n' f m:=by
 obtain⟨D,h1,h2⟩:=h
 exact⟨D,h1.mono hn,h2⟩
theorem MapV.kept {row:Option Nat}(h:MapV w P k b n f m)(hg:w.grownBy W row)(hne:some b≠row):MapV W P k b n f m:=by
 obtain⟨D,h1,h2⟩:=h
 exact⟨D,h1.kept hg hne,h2⟩
theorem MapV.same (h:MapV w P k b n f m)(hb:W.heap[b]?=w.heap[b]?):MapV W P k b n f m:=by
 obtain⟨D,⟨es,clock,hh,r⟩,h2⟩:=h
 exact⟨D,⟨es,clock,hb.trans hh,r⟩,h2⟩
theorem MapV.ext (h:MapV w P k b n f m)(hx:Ext w W):MapV W P k b n f m:=h.same (Below.block hx b h.lt)
theorem MapV.alloc (h:MapV w P k b n f m)(o:Obj):MapV (w.alloc o) P k b n f m:=h.kept (World.grownBy_alloc w o none) (by simp)
theorem MapV.drew (h:MapV w P k b n f m):MapV w.drew P k b n f m:=h
theorem MapV.look_ok (h:MapV w P k b n f m)(K:Keyed P k)(ht:P.underlying t=some (.map k e)){z:Value}(hz:(zeroValue e).run P w=.ok z w){key:Value}{kl:Lit}(hkey:keyOf P k key=some kl) :
  (Instr.lookup t (.map (some b)) key true).run P w=.ok (.tuple #[(f kl).getD z,.bool (f kl).isSome]) w:=by
 obtain⟨D,h1,h2,h3,_⟩:=h
 obtain⟨v,ps,hrun,hv⟩:=h1.look_ok K ht hz (zd:=.held z) (zp:=[]) rfl hkey
 rw [hrun,h2 kl]
 simp only [rawR,Option.some.injEq,Prod.mk.injEq] at hv
 cases hf:f kl with
 | none =>
   have:=h2 kl
   rw [hf] at this
   have e1:=Maps.atKey_of_not_has this (.held z)
   rw [e1] at hv
   injection hv.1 with hv
   rw [hv]
   rfl
 | some u =>
   rw [h3 kl u hf] at hv
   injection hv.1 with hv
   rw [hv]
   rfl
theorem MapV.store (h:MapV w P k b n f m)(K:Keyed P k)(ht:P.underlying t=some (.map k e))(hn:n<maxLen){key:Value}(val:Value){kl:Lit}(hkey:keyOf P k key=some kl) :
  ∃ w' g,(Instr.mapUpdate t (.map (some b)) key val).run P w=.ok () w'/\MapV w' P k b (n+1) g (if (f kl).isSome=true then m else m+1)/\g kl=some val/\(∀ x,x≠kl->g x=f x)/\w.mapTurned w' b:=by
 classical
 obtain⟨D,h1,h2,h3,h4⟩:=h
 have hT:=h1.tidy K
 have hk:=K.key hkey
 obtain⟨w',hrun,h5,h6⟩:=h1.store K ht hn (val:=val) hkey (d:=.held val) (ps:=[]) rfl
 refine⟨w',fun x=>if x=kl then some val else f x,hrun,⟨_,h5,fun x=>?_,fun x v hv z=>?_,?_⟩,if_pos rfl,fun x hx=>if_neg hx,h6⟩
 · dsimp only
   by_cases ex:x=kl
   · subst ex
     rw [if_pos rfl,Maps.has_put_same hT.isMap hk]
     rfl
   · rw [if_neg ex,Maps.has_put_other ex]
     exact h2 x
 · dsimp only at hv
   by_cases ex:x=kl
   · subst ex
     rw [if_pos rfl] at hv
     injection hv with hv
     rw [Maps.atKey_put_same hT.isMap hk,hv]
   · rw [if_neg ex] at hv
     rw [Maps.atKey_put_other ex]
     exact h3 x v hv z
 · rw [Maps.size_put hT,h2 kl,h4]
theorem MapV.drop (h:MapV w P k b n f m)(K:Keyed P k)(ht:P.underlying t=some (.map k e)){key:Value}{kl:Lit}(hkey:keyOf P k key=some kl)(ty:TypeId) :
  ∃ w' g,(Builtin.delete_ #[t,k] ty #[.map (some b),key]).run P w=.ok (.tuple #[]) w'/\MapV w' P k b n g (if (f kl).isSome=true then m-1 else m)/\g kl=none/\(∀ x,x≠kl->g x=f x)/\w.mapTurned w' b:=by
 classical
 obtain⟨D,h1,h2,h3,h4⟩:=h
 have hT:=h1.tidy K
 obtain⟨w',hrun,h5,h6⟩:=h1.drop K ht hkey ty
 refine⟨w',fun x=>if x=kl then none else f x,hrun,⟨_,h5,fun x=>?_,fun x v hv z=>?_,?_⟩,if_pos rfl,fun x hx=>if_neg hx,h6⟩
 · dsimp only
   by_cases ex:x=kl
   · subst ex
     rw [if_pos rfl,Maps.has_del_same]
     rfl
   · rw [if_neg ex,Maps.has_del_other ex]
     exact h2 x
 · dsimp only at hv
   by_cases ex:x=kl
   · rw [if_pos ex] at hv
     cases hv
   · rw [if_neg ex] at hv
     rw [Maps.atKey_del_other ex]
     exact h3 x v hv z
 · have:=Maps.size_del hT (k:=kl)
   rw [h2 kl,h4] at this
   split at this <;> rename_i hc
   · rw [if_pos hc];omega
   · rw [if_neg hc];omega
theorem MapV.len (h:MapV w P k b n f m)(ht:P.underlying t=some (.map k e))(ty:TypeId):(Builtin.len_ #[t] ty #[.map (some b)]).run P w=.ok (.int .i64 m) w:=by
 obtain⟨D,h1,_,_,rfl⟩:=h
 exact h1.len ht ty
end
section
variable {P:Program} (w:World) {ops:Array Oper} {rest:List Oper} {o:Oper} {a:Act} {Q:Exit->Act->World->Prop}
theorem wpList_lookok_mapV (hg:o.guard=none)(m x:Operand)(t:TypeId)(hop:o.op=Op.lookup t m x true)(k e:TypeId)(K:Keyed P k)(ht:P.underlying t=some (.map k e)){z:Value}(hz:(zeroValue e).run P w=.ok z w)
  (b n c:Nat)(f:Lit->Option Value)(hm:a.eval m=.map (some b))(h:MapV w P k b n f c)(key:Value)(kl:Lit)(hx:a.eval x=key)(hkey:keyOf P k key=some kl)(v:Value)(hv:(f kl).getD z=v)(y:Bool)(hy:(f kl).isSome=y)
  (hK:wpList P ops Q rest (a.put o.dst (.tuple #[v,.bool y])) w):wpList P ops Q (o :: rest) a w:=by
 refine wpList_plain hg fun K' hK'=>?_
 unfold Oper.wp
 simp [execOp,hop,hm,hx,h.look_ok K ht hz hkey,Result.andThen,hv,hy]
 exact hK' _ _ hK
theorem wpList_store_mapV (hg:o.guard=none)(m x v:Operand)(t:TypeId)(hop:o.op=Op.mapUpdate t m x v)(k e:TypeId)(K:Keyed P k)(ht:P.underlying t=some (.map k e))
  (b n c:Nat)(f:Lit->Option Value)(hm:a.eval m=.map (some b))(h:MapV w P k b n f c)(hn:n<maxLen)(key val:Value)(kl:Lit)(hx:a.eval x=key)(hv:a.eval v=val)(hkey:keyOf P k key=some kl)
  (hK:∀ w' g,MapV w' P k b (n+1) g (if (f kl).isSome=true then c else c+1)->g kl=some val->(∀ x,x≠kl->g x=f x)->w.mapTurned w' b->wpList P ops Q rest (a.put o.dst undef) w'):wpList P ops Q (o :: rest) a w:=by
 refine wpList_plain hg fun K' hK'=>?_
 obtain⟨w',g,hrun,r1,r2,r3,r4⟩:=h.store K ht hn val hkey
 unfold Oper.wp
 simp [execOp,hop,hm,hx,hv,hrun,Result.andThen]
 exact hK' _ _ (hK w' g r1 r2 r3 r4)
end
theorem turned_ext {w0 w W:World}{b:Nat}(hx:Ext w0 w)(hb:w0.heap.size<=b)(ht:w.mapTurned W b):Ext w0 W:=by
 refine Below.grown hx ht.grown hx.size fun k hk=>?_
 injection hk with hk
 omega
def StopD (p:Prop):Prop:=p
theorem stopD {p:Prop}(h:StopD p):p:=h
end Go.Proofs.YtiahgcaenneonaaDoor
namespace Kv
theorem left_zero {n d:Nat}(hd:d<18446744073709551616)(hn:n<=20):leftM n d=0↔∀ i,i<n->d.testBit i=true:=by
 constructor
 · intro h i hi
   have:=leftM_bit hd hn i
   rw [h,Nat.zero_testBit,decide_eq_true hi,Bool.true_and] at this
   simpa using this.symm
 · intro h
   refine Nat.eq_of_testBit_eq fun i=>?_
   rw [leftM_bit hd hn,Nat.zero_testBit]
   by_cases hi:i<n
   · simp [hi,h i hi]
   · simp [hi]
theorem dead_all {l:List SOp}{d v:Nat}(hd:d<18446744073709551616)(hn:l.length<=20)(hz:leftM l.length d≠0)
  (h:∀ i∈nextL l d,∀ o,l[i]?=some o->(tells v o).2=true->Dead l (d ||| 2 ^ i) (tells v o).1):Dead l d v:=fun p hp=>by
 cases p with
 | nil=>exact hz ((left_zero hd hn).2 hp)
 | cons i p =>
   obtain⟨h1,o,h2,h3,h4⟩:=hp
   exact h i h1 o h2 h3 p h4
theorem comp_len {l:List SOp}:∀ {p:List Nat} {d v:Nat},comp l d v p->p.length<=leftN l d
 | [],_,_,_=>by simp
 | i :: p,d,v,h=>by
   obtain⟨h1,o,h2,h3,h4⟩:=h
   obtain⟨g1,g2,_⟩:=next_mem.1 h1
   have:=comp_len h4
   have:=leftN_less g1 g2
   simp
   omega
theorem leftN_le (l:List SOp)(d:Nat):leftN l d<=l.length:=by
 unfold leftN
 have:=List.countP_le_length (p:=fun i=>!d.testBit i) (l:=List.range l.length)
 simpa using this
theorem with_bit {d i n:Nat}(hd:d<2 ^ n)(hn:n<=20)(hi:i<n):withM d (i:Int)=d ||| 2 ^ i/\d ||| 2 ^ i<2 ^ n:=by
 refine⟨?_,Nat.or_lt_two_pow hd (Nat.pow_lt_pow_right (by decide) hi)⟩
 unfold withM
 rw [if_pos (by unfold inSet;omega),Int.toNat_natCast]
theorem tells_lt {v:Nat}{o:SOp}(hv:v<256)(ho:o.wr=true->o.val<4):(tells v o).1<256:=by
 unfold tells
 split
 · rename_i h;exact putN_lt (ho h)
 · exact hv
end Kv
namespace Go.Proofs.YtiahgcaenneonaaDoor
open Go.RowKit Kv
open Go.Maps (Keyed)
theorem laid_out2:laidOutB Tryd.prog=true:=by kernel_rfl
theorem key_state:Keyed Tryd.prog 99:=Keyed.of_law (deep_law_laid laid_out2 (m:=2) (by omega) (of_decide_eq_true (by kernel_rfl)) (by kernel_rfl) (by kernel_rfl))
theorem state_lt:(99:TypeId)<Tryd.prog.types.size:=of_decide_eq_true (by kernel_rfl)
theorem succ_of2 {k n:Nat}(h:k<n):∃ m,n=m+1:=⟨n-1,by omega⟩
def skey (d v:Nat):Lit:=.string (keyBytes [.int .u64 d,.int .i64 v])
theorem zero_i (w:World):(zeroValue 3).run Tryd.prog w=.ok (.int .i64 0) w:=by kernel_rfl
theorem skey_of {d v:Nat}(hd:d<18446744073709551616)(hv:v<256):keyOf Tryd.prog 99 (.agg #[.int .u64 d,.int .i64 v])=some (skey d v):=by
 obtain⟨m,hm⟩:=succ_of2 state_lt
 have hkt:Tryd.prog.keyType 99=true:=by kernel_rfl
 have hc:Tryd.prog.cellsOf 99=2:=by kernel_rfl
 have h1:Tryd.prog.cellsOf 3=1:=by kernel_rfl
 have h2:Tryd.prog.cellsOf 91=1:=by kernel_rfl
 have w1:(Lit.int .u64 (d:Int)).wf=true:=WalkArith.wf_u64 ⟨by omega,by omega⟩
 have w2:(Lit.int .i64 (v:Int)).wf=true:=WalkArith.wf_i64 ⟨by omega,by omega⟩
 unfold keyOf
 simp only [Tryd.underlying99]
 rw [if_pos (by simp [hkt,Value.formed,Tryd.underlying99,hc]),hm]
 unfold Program.keyLits
 simp only [Tryd.underlying99,Value.cells]
 simp [hc,h1,h2,Program.keyLits,Tryd.underlying3,Tryd.underlying91,w1,w2,skey]
theorem skey_inj {d v d' v':Nat}(hd:d<18446744073709551616)(hv:v<256)(hd':d'<18446744073709551616)(hv':v'<256)(h:skey d v=skey d' v'):d=d'/\v=v':=by
 have:=key_state.inj (skey_of hd hv) (h▸skey_of hd' hv')
 injection this with h
 simp only [Array.mk.injEq,List.cons.injEq,Value.int.injEq,true_and,and_true] at h
 omega
theorem ext_grown {w w':World}(h:Ext w w')(row:Option Nat):w.grownBy w' row:=⟨h.os,h.tape,h.output,h.size,fun k hk _=>h.block k hk⟩
def Was (f:Lit->Option Value) (d v:Nat):Prop:=(f (skey d v)).isSome=true
theorem map_cell {w:World}{P:Program}{k:TypeId}{b n m i:Nat}{f:Lit->Option Value}(h:MapV w P k b n f m):w.cell? ⟨b,i,none⟩=none:=by
 obtain⟨D,⟨es,ck,hh,_⟩,_⟩:=h
 simp [World.cell?,hh]
theorem ints_grownM {w w':World}{P:Program}{k:TypeId}{b n m:Nat}{f:Lit->Option Value}{v:Value}{l:List Int}(h:Ints w v l)(hM:MapV w P k b n f m)(hg:w.grownBy w' (some b)):Ints w' v l:=by
 obtain⟨A,c,rfl,h1,h2,h3⟩:=h
 refine⟨A,c,rfl,h1,h2,fun hl=>?_⟩
 obtain⟨g,off,rfl,hb,hc⟩:=h3 hl
 refine⟨g,off,rfl,Nat.lt_of_lt_of_le hb hg.size,fun i x hi=>?_⟩
 rw [<- hc i x hi]
 refine World.cell?_of_block (w:=w) (hg.block g hb fun e=>?_)
 injection e with e
 have:=hc i x hi
 rw [e,map_cell hM] at this
 cases this
theorem blk_grownM {w w':World}{b g:Nat}{o:Obj}(h:Blk w g o)(hg:w.grownBy w' (some b))(hne:g≠b):Blk w' g o:=(hg.block g h.lt fun e=>hne (by injection e)).trans h
theorem row_base {B B':Nat}{w:World}{v:Value}{l:List Int}(h:IntRow w B v l)(hB:B'<=B):IntRow w B' v l:=by
 refine⟨h.1,?_⟩
 rcases h.2 with h2 | ⟨g,cap,cur,e,h1,r⟩
 · exact .inl h2
 · exact .inr ⟨g,cap,cur,e,Nat.le_trans hB h1,r⟩
def FromPost (l:List SOp) (bt d v k:Nat) (f:Lit->Option Value) (w:World) (e:Ending) (w':World):Prop :=
 (∃ x p,e=.returned (.tuple #[x,.bool true])/\comp l d v p/\IntRow w' w.heap.size x (intsN p.reverse)/\w.grownBy w' (some bt)) ∨
 (e=.returned (.tuple #[.slice none 0 0,.bool false])/\Dead l d v/\w.grownBy w' (some bt)/\∃ g m n,n<=k/\MapV w' Tryd.prog 99 bt n g m/\∀ d' v',d'<18446744073709551616->v'<256->Was g d' v'->Was f d' v'∨Dead l d' v')
structure FLoop (l:List SOp) (bt d v k n full:Nat) (f:Lit->Option Value) (wb w:World) (A A9:Option Addr) (c c9 b2 b3 j:Nat) (wr:World):Prop where
 wb:Ext wb wr
 gr:w.grownBy wr (some bt)
 row:Ints wr (.slice A9 (nextL l d).length c9) (intsN (nextL l d))
 k2:Blk wr b2 (.cells #[.slice A l.length c,.int .u64 (full:Int),.map (some bt)] 95)
 k3:Blk wr b3 (.cells #[.int .u64 d,.int .i64 v] 99)
 map:∃ fj mj nj,nj<=n+1+j*sizeS k/\MapV wr Tryd.prog 99 bt nj fj mj/\∀ d' v',d'<18446744073709551616->v'<256->Was fj d' v'->Was f d' v'∨Dead l d' v'∨(d'=d/\v'=v)
 dead:∀ i∈(nextL l d).take j,∀ o,l[i]?=some o->(tells v o).2=true->Dead l (d ||| 2 ^ i) (tells v o).1
theorem FLoop.ext {l:List SOp}{bt d v k n full:Nat}{f:Lit->Option Value}{wb w:World}{A A9:Option Addr}{c c9 b2 b3 j:Nat}{wr W:World}(h:FLoop l bt d v k n full f wb w A A9 c c9 b2 b3 j wr)(hx:Ext wr W):FLoop l bt d v k n full f wb w A A9 c c9 b2 b3 j W :=
 ⟨h.wb.trans hx,World.grownBy.trans h.gr (ext_grown hx _),h.row.ext hx,h.k2.ext hx,h.k3.ext hx,by
  obtain⟨fj,mj,nj,h1,h2,h3⟩:=h.map
  exact⟨fj,mj,nj,h1,h2.ext hx,h3⟩,h.dead⟩
theorem FLoop.skip {l:List SOp}{bt d v k n full:Nat}{f:Lit->Option Value}{wb w:World}{A A9:Option Addr}{c c9 b2 b3 j i:Nat}{wr:World}{o:SOp}(h:FLoop l bt d v k n full f wb w A A9 c c9 b2 b3 j wr)(hi:(nextL l d)[j]?=some i)(ho:l[i]?=some o)(hf:(tells v o).2=false):FLoop l bt d v k n full f wb w A A9 c c9 b2 b3 (j+1) wr :=
 ⟨h.wb,h.gr,h.row,h.k2,h.k3,by
  obtain⟨fj,mj,nj,h1,h2,h3⟩:=h.map
  refine⟨fj,mj,nj,?_,h2,h3⟩
  rw [Nat.succ_mul]
  omega,fun i' hi' o' ho' ht=>by
   rw [List.take_add_one,hi] at hi'
   rcases List.mem_append.1 hi' with hm | hm
   · exact h.dead i' hm o' ho' ht
   · obtain rfl:=List.mem_singleton.1 hm
     rw [ho] at ho'
     injection ho' with ho'
     rw [ho',ht] at hf
     cases hf⟩
theorem FLoop.more {l:List SOp}{bt d v k n full:Nat}{f:Lit->Option Value}{wb w:World}{A A9:Option Addr}{c c9 b2 b3 j i:Nat}{wr W:World}{o:SOp}(h:FLoop l bt d v k n full f wb w A A9 c c9 b2 b3 j wr)(hi:(nextL l d)[j]?=some i)(ho:l[i]?=some o)
  (hD:Dead l (d ||| 2 ^ i) (tells v o).1)(hg:wr.grownBy W (some bt))(hbt:wb.heap.size<=bt)(hbb:b2≠bt/\b3≠bt)
  {fj gj:Lit->Option Value}{nj mj nx mx:Nat}(hn:nj<=n+1+j*sizeS k)(hnx:nx<=nj+sizeS k)(hM:MapV wr Tryd.prog 99 bt nj fj mj)(hx:MapV W Tryd.prog 99 bt nx gj mx)
  (h1:∀ d' v',d'<18446744073709551616->v'<256->Was fj d' v'->Was f d' v'∨Dead l d' v'∨(d'=d/\v'=v))(h2:∀ d' v',d'<18446744073709551616->v'<256->Was gj d' v'->Was fj d' v'∨Dead l d' v'):FLoop l bt d v k n full f wb w A A9 c c9 b2 b3 (j+1) W :=
 ⟨Below.grown h.wb hg h.wb.size fun x hx=>by
  injection hx with hx
  omega,World.grownBy.trans h.gr hg,ints_grownM h.row hM hg,blk_grownM h.k2 hg hbb.1,blk_grownM h.k3 hg hbb.2,by
  refine⟨gj,mx,nx,?_,hx,fun d' v' z1 z2 z3=>?_⟩
  · rw [Nat.succ_mul]
    omega
  · rcases h2 d' v' z1 z2 z3 with z | z
    · exact h1 d' v' z1 z2 z
    · exact .inr (.inl z),fun i' hi' o' ho' ht=>by
    rw [List.take_add_one,hi] at hi'
    rcases List.mem_append.1 hi' with hm | hm
    · exact h.dead i' hm o' ho' ht
    · obtain rfl:=List.mem_singleton.1 hm
      rw [ho] at ho'
      injection ho' with ho'
      rw [<- ho']
      exact hD⟩
set_option maxRecDepth 100000 in
set_option maxHeartbeats 4000000 in
theorem from_p (wb:World)(A:Option Addr)(c:Nat)(l:List SOp)(bt:Nat)(hl:OpsV wb A l)(hn:l.length<=14)(T:Tabs wb)(hbt:wb.heap.size<=bt)(hop:∀ o∈l,o.th<4/\(o.wr=true->o.val<4)) :
  ∀ (k d v n m:Nat) (f:Lit->Option Value) (w:World),Ext wb w->leftN l d<=k->d<2 ^ l.length->v<256->MapV w Tryd.prog 99 bt n f m->n+sizeS k<=4611686018427387904 ->
  (∀ d' v',d'<18446744073709551616->v'<256->Was f d' v'->Dead l d' v'∨leftN l d<leftN l d') ->
  Calls Tryd.prog 41 #[.agg #[.slice A l.length c,.int .u64 ((2 ^ l.length-1:Nat):Int),.map (some bt)],.agg #[.int .u64 d,.int .i64 v]] w (FromPost l bt d v (n+sizeS k) f w):=by
 intro k
 induction k with
 | zero =>
   intro d v n m f w hE hk hd hv hM hnn hinv
   have hd64:d<18446744073709551616:=Nat.lt_of_lt_of_le hd (Nat.pow_le_pow_right (by decide) (show l.length<=64 by omega))
   have hand:=u64_andNot_nat (2 ^ l.length-1) d (pow_lt_64 (by omega)) hd64
   rw [show (2 ^ l.length-1) &&& (18446744073709551615-d)=leftM l.length d from rfl] at hand
   have hlz:=left_zero (n:=l.length) hd64 (by omega)
   have hx2:=((Ext.refl w).alloc (.cells #[.slice A l.length c,.int .u64 ((2 ^ l.length-1:Nat):Int),.map (some bt)] 95)).alloc (.cells #[.int .u64 d,.int .i64 v] 99)
   have k2:=(Blk.new w (.cells #[.slice A l.length c,.int .u64 ((2 ^ l.length-1:Nat):Int),.map (some bt)] 95)).alloc (.cells #[.int .u64 d,.int .i64 v] 99)
   have k3:=Blk.new (w.alloc (.cells #[.slice A l.length c,.int .u64 ((2 ^ l.length-1:Nat):Int),.map (some bt)] 95)) (.cells #[.int .u64 d,.int .i64 v] 99)
   rw [World.size_alloc] at k3
   have hM2:=(hM.alloc (.cells #[.slice A l.length c,.int .u64 ((2 ^ l.length-1:Nat):Int),.map (some bt)] 95)).alloc (.cells #[.int .u64 d,.int .i64 v] 99)
   have hbw:bt≠w.heap.size/\bt≠w.heap.size+1:=by have:=hM.lt;omega
   generalize hfull:2 ^ l.length-1=full at *
   generalize hlM:leftM l.length d=lM at *
   have hz:lM=0:=by
    rw [hlz]
    intro i hi
    have h0:leftN l d=0:=by omega
    unfold leftN at h0
    rw [List.countP_eq_zero] at h0
    have:=h0 i (List.mem_range.2 hi)
    simpa using this
   have hc0:=Lib.hid (show comp l d v [] from fun i hi=>(hlz.1 hz) i hi)
   have e0:((lM:Int)==0)=true:=by simp [hz]
   have hg0:=Lib.hid (ext_grown hx2 (some bt))
   clear hM hinv hlz hM2 k2 k3 hz hE hx2 hk hnn
   go_enter Tryd.func41,Tryd.ntmps41
   go_wp2_with fail
   refine bodyPost_ret (v:=.tuple #[.slice none 0 0,.bool true]) (by simp [results,Tryd.results41,go_sem]) rfl ?_
   exact .inl ⟨_,[],rfl,hc0.out,IntRow.nil _ _,hg0.out⟩
 | succ k ih =>
   intro d v n m f w hE hk hd hv hM hnn hinv
   have hd64:d<18446744073709551616:=Nat.lt_of_lt_of_le hd (Nat.pow_le_pow_right (by decide) (show l.length<=64 by omega))
   have hand:=u64_andNot_nat (2 ^ l.length-1) d (pow_lt_64 (by omega)) hd64
   rw [show (2 ^ l.length-1) &&& (18446744073709551615-d)=leftM l.length d from rfl] at hand
   have hlz:=left_zero (n:=l.length) hd64 (by omega)
   have hx2:=((Ext.refl w).alloc (.cells #[.slice A l.length c,.int .u64 ((2 ^ l.length-1:Nat):Int),.map (some bt)] 95)).alloc (.cells #[.int .u64 d,.int .i64 v] 99)
   have k2:=(Blk.new w (.cells #[.slice A l.length c,.int .u64 ((2 ^ l.length-1:Nat):Int),.map (some bt)] 95)).alloc (.cells #[.int .u64 d,.int .i64 v] 99)
   have k3:=Blk.new (w.alloc (.cells #[.slice A l.length c,.int .u64 ((2 ^ l.length-1:Nat):Int),.map (some bt)] 95)) (.cells #[.int .u64 d,.int .i64 v] 99)
   rw [World.size_alloc] at k3
   have hM2:=(hM.alloc (.cells #[.slice A l.length c,.int .u64 ((2 ^ l.length-1:Nat):Int),.map (some bt)] 95)).alloc (.cells #[.int .u64 d,.int .i64 v] 99)
   have hbw:bt≠w.heap.size/\bt≠w.heap.size+1:=by have:=hM.lt;omega
   generalize hfull:2 ^ l.length-1=full at *
   generalize hlM:leftM l.length d=lM at *
   by_cases hz:lM=0
   · have hc0:=Lib.hid (show comp l d v [] from fun i hi=>(hlz.1 hz) i hi)
     have e0:((lM:Int)==0)=true:=by simp [hz]
     have hg0:=Lib.hid (ext_grown hx2 (some bt))
     clear hM hinv hlz hM2 k2 k3 hz hE hx2 hk hnn ih
     go_enter Tryd.func41,Tryd.ntmps41
     go_wp2_with fail
     refine bodyPost_ret (v:=.tuple #[.slice none 0 0,.bool true]) (by simp [results,Tryd.results41,go_sem]) rfl ?_
     exact .inl ⟨_,[],rfl,hc0.out,IntRow.nil _ _,hg0.out⟩
   have e0:((lM:Int)==0)=false:=by simpa using hz
   have hM2h:=Lib.hid hM2
   have hg0:=Lib.hid (ext_grown hx2 (some bt))
   have hsz1:=sizeS_mono (Nat.le_succ k)
   obtain⟨v0,hv0⟩:∃ x,(f (skey d v)).getD (.int .i64 0)=x:=⟨_,rfl⟩
   have hv0h:=Lib.hid hv0
   clear hv0
   by_cases hw:Was f d v
   · have hdead:=Lib.hid (show Dead l d v from (hinv d v hd64 hv hw).resolve_right (Nat.lt_irrefl _))
     have hwh:=Lib.hid (show (f (skey d v)).isSome=true from hw)
     clear hM hinv hlz hM2 k2 k3 hE hx2 hk hnn ih hw
     go_enter Tryd.func41,Tryd.ntmps41
     go_wp2_with (at_lookup;refine wpList_lookok_mapV _ rfl _ _ 93 rfl 99 3 key_state Tryd.underlying93 (zero_i _) bt n m f rfl hM2h.out _ _ rfl (skey_of hd64 hv) v0 hv0h.out true hwh.out ?_)
     refine bodyPost_ret (v:=.tuple #[.slice none 0 0,.bool false]) (by simp [results,Tryd.results41,go_sem]) rfl ?_
     exact .inr ⟨rfl,hdead.out,hg0.out,f,m,n,by omega,hM2h.out,fun _ _ _ _ h=>.inl h⟩
   have hwf:=Lib.hid (show (f (skey d v)).isSome=false by unfold Was at hw;simpa using hw)
   have hnm:n<maxLen:=by unfold maxLen;omega
   have hE2:=Lib.hid (hE.trans hx2)
   have k2h:=Lib.hid k2
   have k3h:=Lib.hid k3
   have hinvh:=Lib.hid hinv
   have hkh:=Lib.hid hk
   have hnnh:=Lib.hid hnn
   have hzh:=Lib.hid (show leftM l.length d≠0 by rw [hlM];exact hz)
   have ihh:=Lib.hid ih
   have hbwh:=Lib.hid hbw
   have hb2w:=Lib.hid (show w.heap.size<w.heap.size+1+1/\w.heap.size+1<w.heap.size+1+1 by omega)
   have hMlt:=Lib.hid hM.lt
   clear hM hinv hlz hM2 k2 k3 hE hx2 hk hnn ih hw hbw hz
   go_enter Tryd.func41,Tryd.ntmps41
   go_wp2_with (first | (at_lookup;refine wpList_lookok_mapV _ rfl _ _ 93 rfl 99 3 key_state Tryd.underlying93 (zero_i _) bt n m f rfl hM2h.out _ _ rfl (skey_of hd64 hv) v0 hv0h.out false hwf.out ?_) | (at_mapUpdate;refine stopD ?_))
   unfold StopD
   refine wpList_store_mapV _ rfl _ _ _ 93 rfl 99 3 key_state Tryd.underlying93 bt n m f rfl hM2h.out hnm (.agg #[.int .u64 d,.int .i64 v]) (.int .i64 1) _ rfl rfl (skey_of hd64 hv) ?_
   intro w3 g1 z1 z2 z3 z4
   have hE3:=Lib.hid (turned_ext hE2.out hbt z4)
   have hg3:=Lib.hid (World.grownBy.trans hg0.out z4.grown)
   have hM3:=Lib.hid z1
   have hW3:Hid (∀ d' v',d'<18446744073709551616->v'<256->Was g1 d' v'->Was f d' v'∨(d'=d/\v'=v)):=Lib.hid fun d' v' h1 h2 h3=>by
    by_cases e:skey d' v'=skey d v
    · exact .inr (skey_inj h1 h2 hd64 hv e)
    · unfold Was at h3 ⊢
      rw [z3 _ e] at h3
      exact .inl h3
   have k23:=blk_grownM k2h.out z4.grown (Ne.symm hbwh.out.1)
   have k33:=blk_grownM k3h.out z4.grown (Ne.symm hbwh.out.2)
   obtain⟨b3,hb3⟩:∃ b,b=w.heap.size+1:=⟨_,rfl⟩
   obtain⟨b2,hb2⟩:∃ b,b=w.heap.size:=⟨_,rfl⟩
   have hbb:=Lib.hid (show b2≠bt/\b3≠bt by have:=hbwh.out;omega)
   rw [<- hb3] at k33 ⊢
   rw [<- hb2] at k23 ⊢
   clear hb3 hb2 z1 z2 z3 z4 hE2 hg0 hM2h k2h k3h hwf hv0h hbwh hb2w
   have c20:=k23.cells 0
   have c21:=k23.cells 1
   have c22:=k23.cells 2
   have c30:=k33.cells 0
   have c31:=k33.cells 1
   have k2h:=Lib.hid k23
   have k3h:=Lib.hid k33
   clear k23 k33
   go_wp2_with fail
   refine (next_p A c l d w3 (op_ext hl hE3.out) (by omega) hd64 (T.ext hE3.out)).mono ?_
   rintro e w9 ⟨v9,rfl,hrow9,hx9⟩
   have hI9:=IntRow.ints hrow9
   obtain⟨A9,c9,rfl,hc9,hc9m⟩:=hI9.slice
   have hql:(intsN (nextL l d)).length=(nextL l d).length:=by simp [intsN]
   have hqn:(nextL l d).length<=14:=by
    unfold nextL
    have:=List.length_filter_le (fun i=>!d.testBit i&&freeL l d i) (List.range l.length)
    simp at this
    omega
   rw [hql] at hI9
   rw [hql]
   have hst:=Lib.hid (show FLoop l bt d v k n full f wb w A A9 c c9 b2 b3 0 w9 from ⟨hE3.out.trans hx9,World.grownBy.trans hg3.out (ext_grown hx9 _),hI9,k2h.out.ext hx9,k3h.out.ext hx9,⟨g1,_,n+1,by omega,hM3.out.ext hx9,fun d' v' h1 h2 h3=>by
    rcases hW3.out d' v' h1 h2 h3 with h | h
    · exact .inl h
    · exact .inr (.inr h)⟩,fun i hi=>by simp at hi⟩)
   clear hE3 hg3 hM3 hW3 k2h k3h c20 c21 c22 c30 c31 hI9 hrow9 hx9 hc9 hc9m hql hnm hand e0 hlM
   generalize hgl:(nextL l d).length=len9 at *
   go_wp2_with fail
   go_loopw [37] (fun a37 wr=>∃ j:Nat,a37=.int .i64 j/\j<=len9/\Hid (FLoop l bt d v k n full f wb w A A9 c c9 b2 b3 j wr)) (fun a37 _=>len9-(intOf a37).toNat)
   case atStart=>exact⟨0,rfl,by omega,hst⟩
   case round =>
    clear hst
    obtain⟨j,rfl,hj,hR⟩:=hrel
    by_cases hjl:j<len9
    rotate_left
    · have dj:decide ((j:Int)<(len9:Int))=false:=by rw [decide_eq_false_iff_not];omega
      have hfin:Hid (Dead l d v/\w.grownBy wr (some bt)/\∃ g m' n',n'<=n+sizeS (k+1)/\MapV wr Tryd.prog 99 bt n' g m'/\∀ d' v',d'<18446744073709551616->v'<256->Was g d' v'->Was f d' v'∨Dead l d' v'):=Lib.hid (by
       have hL:=hR.out
       have hDd:Dead l d v:=dead_all hd64 (by omega) hzh.out fun i hi=>hL.dead i (by rw [List.take_of_length_le (by omega)];exact hi)
       obtain⟨fj,mj,nj,h1,h2,h3⟩:=hL.map
       refine⟨hDd,hL.gr,fj,mj,nj,?_,h2,fun d' v' z1 z2 z3=>?_⟩
       · have:j*sizeS k<=14*sizeS k:=Nat.mul_le_mul_right _ (by omega)
         have e:sizeS (k+1)=1+14*sizeS k:=rfl
         omega
       · rcases h3 d' v' z1 z2 z3 with h | h | ⟨rfl,rfl⟩
         · exact .inl h
         · exact .inr h
         · exact .inr hDd)
      clear hR
      go_wp2_with fail
      refine bodyPost_ret (v:=.tuple #[.slice none 0 0,.bool false]) (by simp [results,Tryd.results41,go_sem]) rfl ?_
      exact .inr ⟨rfl,hfin.out⟩
    · have dj:decide ((j:Int)<(len9:Int))=true:=by rw [decide_eq_true_eq];omega
      have hji:(j:Int)<(len9:Int):=by omega
      obtain⟨i,hi⟩:∃ i,(nextL l d)[j]?=some i:=⟨_,List.getElem?_eq_getElem (by omega)⟩
      obtain⟨hil,hid,_⟩:=next_mem.1 (List.mem_of_getElem? hi)
      obtain⟨o,ho⟩:∃ o,l[i]?=some o:=⟨_,List.getElem?_eq_getElem hil⟩
      obtain⟨hoth,howr⟩:=hop o (List.mem_of_getElem? ho)
      have hL:=hR.out
      have hrow:=hL.row
      rw [hgl] at hrow
      obtain⟨g9,off9,rfl,hb9,hc9⟩:=hrow.at_ hjl
      rw [show (intsN (nextL l d)).getD j 0=(i:Int) by simp [intsN,List.getD_eq_getElem?_getD,hi]] at hc9
      obtain⟨b,rfl,hb,q0,q1,q2,q3,q4⟩:=op_at (op_ext hl hL.wb) ho
      have c20:=hL.k2.cells 0
      have c31:=hL.k3.cells 1
      have h2b:=hL.k2.lt
      have h3b:=hL.k3.lt
      have hih:=Lib.hid hi
      have hoh:=Lib.hid ho
      have hidh:=Lib.hid hid
      have hib:(i:Int)<(l.length:Int):=by omega
      have hi0:(0:Int)<=(i:Int):=by omega
      clear hL hrow hi ho hid
      go_upto_region 10 with fail
      have hSx:Hid (∀ w',Ext wr w'->w'.cell? ⟨b3,1,none⟩=some (.int .i64 v)/\w'.cell? ⟨b2,0,none⟩=some (.slice (some ⟨b,0,none⟩) l.length c)/\w'.cell? ⟨b,i*5,none⟩=some (.int .i64 o.fr)/\w'.cell? ⟨b,i*5+1,none⟩=some (.int .i64 o.te)/\w'.cell? ⟨b,i*5+2,none⟩=some (.bool o.wr)/\w'.cell? ⟨b,i*5+3,none⟩=some (.int .i64 o.val)/\w'.cell? ⟨b,i*5+4,none⟩=some (.int .i64 o.th)):=Lib.hid fun W h=>⟨(h.cell (p:=⟨b3,_,none⟩) h3b).trans c31,(h.cell (p:=⟨b2,_,none⟩) h2b).trans c20,(h.cell (p:=⟨b,_,none⟩) hb).trans q0,(h.cell (p:=⟨b,_,none⟩) hb).trans q1,(h.cell (p:=⟨b,_,none⟩) hb).trans q2,(h.cell (p:=⟨b,_,none⟩) hb).trans q3,(h.cell (p:=⟨b,_,none⟩) hb).trans q4⟩
      have hE0:=(Ext.refl wr).drew
      have hS:=hSx.out _ hE0
      refine wp_region_held_drew (S:=fun w'=>w'.cell? ⟨b3,1,none⟩=some (.int .i64 v)/\w'.cell? ⟨b2,0,none⟩=some (.slice (some ⟨b,0,none⟩) l.length c)/\w'.cell? ⟨b,i*5,none⟩=some (.int .i64 o.fr)/\w'.cell? ⟨b,i*5+1,none⟩=some (.int .i64 o.te)/\w'.cell? ⟨b,i*5+2,none⟩=some (.bool o.wr)/\w'.cell? ⟨b,i*5+3,none⟩=some (.int .i64 o.val)/\w'.cell? ⟨b,i*5+4,none⟩=some (.int .i64 o.th)) rfl hS (fun hHeld=>?_)
      clear c20 c31 q0 q1 q2 q3 q4 h2b h3b hb hb9 hc9
      refine tkb 0 ?_
      iterate 7
       refine tkn (v:=?_) rfl (by kernel_rfl) (fun _ _ _ h=>h) (by assumption) ?_ ?_
       rotate_left
       · (intro w hSw;(try dsimp only at hSw);go_simp;try with_reducible rfl)
       try simp only [put_pack]
      refine tke ?_
      refine wpAnyH_ready (rs:=[7]) (by kernel_rfl) (by simp) ?_
      refine AllReadyH.cons rfl (fun K hKK=>?_) (AllReadyH.nil)
      go_simp
      refine (tells_p v o hv hoth howr _).mono ?_
      rintro e wx ⟨rfl,hxa⟩
      have hE1:=hE0.trans hxa
      have hS1:=hSx.out _ hE1
      refine hKK.out _ _ hS1 (fun hHeld=>?_)
      clear hKK K
      try dsimp only
      refine tkb 8 ?_
      iterate 5
       refine tkn (v:=?_) rfl (by kernel_rfl) (fun _ _ _ h=>h) (by assumption) ?_ ?_
       rotate_left
       · (intro w hSw;(try dsimp only at hSw);go_simp;try with_reducible rfl)
       try simp only [put_pack]
      refine tke ?_
      refine wpAnyH_done (by kernel_rfl) ?_ _
      go_simp
      have hR1:=Lib.hid (hR.out.ext hE1)
      clear hS hS1 hE0 hE1 hxa hSx hR
      generalize hok:(tells v o).2=ok at *
      have hokh:=Lib.hid hok
      clear hok
      cases ok with
      | false =>
        have hR2:=Lib.hid (hR1.out.skip hih.out hoh.out hokh.out)
        clear hR1
        go_wp2_with fail
        refine⟨⟨j+1,by first | rfl | go_num,by omega,hR2⟩,?_⟩
        simp [intOf];omega
      | true =>
        obtain⟨hwb,hwlt⟩:=with_bit hd (by omega) hil
        have hless:=leftN_less hil hidh.out
        obtain⟨fj,mj,nj,hn1,hMj,hWj⟩:=hR1.out.map
        have hv2:=tells_lt hv howr
        have hnk:nj+sizeS k<=n+sizeS (k+1):=by
         have h1:(j+1)*sizeS k<=14*sizeS k:=Nat.mul_le_mul_right _ (by omega)
         have e:sizeS (k+1)=1+14*sizeS k:=rfl
         rw [Nat.succ_mul] at h1
         omega
        have hcall:=Lib.hid (ihh.out (d ||| 2 ^ i) (tells v o).1 nj mj fj (World.drew wx) (hR1.out.wb.drew) (by have:=hkh.out;omega) hwlt hv2 hMj.drew (by have:=hnnh.out;omega) (fun d' v' z1 z2 z3=>by
         rcases hWj d' v' z1 z2 z3 with z | z | ⟨rfl,rfl⟩
         · rcases hinvh.out d' v' z1 z2 z with z | z
           · exact .inl z
           · exact .inr (by omega)
         · exact .inl z
         · exact .inr (by omega)))
        have hMjh:=Lib.hid hMj
        have hWjh:=Lib.hid hWj
        have hn1h:=Lib.hid hn1
        have hnkh:=Lib.hid hnk
        have hwbh:=Lib.hid hwb
        have k2d:=hR1.out.k2.drew
        have k3d:=hR1.out.k3.drew
        have c20:=k2d.cells 0
        have c21:=k2d.cells 1
        have c22:=k2d.cells 2
        have c30:=k3d.cells 0
        clear hMj hWj hn1 hnk hwb hwlt hless
        go_upto_region 12 with fail
        have hSx:Hid (∀ w',(World.drew wx).grownBy w' (some bt)->w'.cell? ⟨b2,0,none⟩=some (.slice (some ⟨b,0,none⟩) l.length c)/\w'.cell? ⟨b2,1,none⟩=some (.int .u64 (full:Int))/\w'.cell? ⟨b2,2,none⟩=some (.map (some bt))/\w'.cell? ⟨b3,0,none⟩=some (.int .u64 d)):=Lib.hid fun W h=>by
         have z2:=(h.block b2 k2d.lt fun e=>hbb.out.1 (by injection e)).trans k2d
         have z3:=(h.block b3 k3d.lt fun e=>hbb.out.2 (by injection e)).trans k3d
         exact⟨Blk.cells z2 0,Blk.cells z2 1,Blk.cells z2 2,Blk.cells z3 0⟩
        have hS:=hSx.out _ (ext_grown (Ext.refl _) _)
        refine wp_region_held_drew (S:=fun w'=>w'.cell? ⟨b2,0,none⟩=some (.slice (some ⟨b,0,none⟩) l.length c)/\w'.cell? ⟨b2,1,none⟩=some (.int .u64 (full:Int))/\w'.cell? ⟨b2,2,none⟩=some (.map (some bt))/\w'.cell? ⟨b3,0,none⟩=some (.int .u64 d)) rfl hS (fun hHeld=>?_)
        clear c20 c21 c22 c30 k2d k3d
        refine tkb 0 ?_
        iterate 4
         refine tkn (v:=?_) rfl (by kernel_rfl) (fun _ _ _ h=>h) (by assumption) ?_ ?_
         rotate_left
         · (intro w hSw;(try dsimp only at hSw);go_simp;try with_reducible rfl)
         try simp only [put_pack]
        refine tke ?_
        refine tk 5 (v:=?_) rfl (by kernel_rfl) (fun _ _ _ h=>h) (by assumption) ?_ ?_
        rotate_left
        · (intro w hSw;(try dsimp only at hSw);go_simp;try with_reducible rfl)
        try simp only [put_pack]
        refine wpAnyH_ready (rs:=[4]) (by kernel_rfl) (by simp) ?_
        refine AllReadyH.cons rfl (fun K hKK=>?_) (AllReadyH.nil)
        go_simp
        refine (with_p d hd64 i _).mono ?_
        rintro e w' ⟨rfl,rfl⟩
        rw [hwbh.out]
        refine hKK.out _ _ hS (fun hHeld=>?_)
        clear hKK K
        try dsimp only
        refine tk 6 (v:=?_) rfl (by kernel_rfl) (fun _ _ _ h=>h) (by assumption) ?_ ?_
        rotate_left
        · (intro w hSw;(try dsimp only at hSw);go_simp;try with_reducible rfl)
        try simp only [put_pack]
        refine wpAnyH_ready (rs:=[7]) (by kernel_rfl) (by simp) ?_
        refine AllReadyH.cons rfl (fun K hKK=>?_) (AllReadyH.nil)
        go_simp
        refine hcall.out.mono ?_
        rintro e W2 hfp
        rcases hfp with⟨x,q,rfl,hcq,hrx,hgx⟩ | ⟨rfl,hDd,hgx,gj,mx,nx,hnx,hMx,hWx⟩
        · have hS2:=hSx.out _ hgx
          refine hKK.out _ _ hS2 (fun hHeld=>?_)
          clear hKK K
          try dsimp only
          refine tkb 8 ?_
          iterate 5
           refine tkn (v:=?_) rfl (by kernel_rfl) (fun _ _ _ h=>h) (by assumption) ?_ ?_
           rotate_left
           · (intro w hSw;(try dsimp only at hSw);go_simp;try with_reducible rfl)
           try simp only [put_pack]
          refine tke ?_
          refine wpAnyH_done (by kernel_rfl) ?_ _
          go_simp
          have hg2:w.grownBy W2 (some bt):=World.grownBy.trans hR1.out.gr (World.grownBy.trans (ext_grown ((Ext.refl wx).drew) _) hgx)
          have hrb:=row_base hrx (show w.heap.size<=(World.drew wx).heap.size from hR1.out.gr.size)
          have hsz:=hg2.size
          have hlen:(intsN q.reverse).length<1000000000000:=by
           have h1:=comp_len hcq
           have h2:=leftN_le l (d ||| 2 ^ i)
           simp [intsN]
           omega
          have hcf:=Lib.hid (show comp l d v (i :: q) from ⟨List.mem_of_getElem? hih.out,o,hoh.out,hokh.out,hcq⟩)
          have hg2h:=Lib.hid hg2
          clear hS hS2 hSx hcall hMjh hWjh hR1 hcq hrx hgx hg2
          go_wp2_with (at_builtin;refine append_int rfl _ _ rfl w.heap.size _ _ (i:Int) hrb rfl rfl hlen hsz ?_)
          intro v' w1' hown hgrow
          have hg3:Hid (w.grownBy w1' (some bt)):=Lib.hid (World.grownBy.andThen (World.grownBy.trans hg2h.out (ext_grown ((Ext.refl W2).alloc _) _)) hgrow (fun g hg=>.inl (World.ownsRow.lt (show World.ownsRow _ _ _ _ _ _ _ from hrb) g hg).1))
          have hown2:Hid (IntRow w1' w.heap.size v' (intsN (i :: q).reverse)):=Lib.hid (by simpa [intsN] using hown)
          clear hown hgrow hrb hsz hlen
          go_wp2_with fail
          refine bodyPost_ret (v:=.tuple #[v',.bool true]) (by simp [results,Tryd.results41,go_sem]) rfl ?_
          exact .inl ⟨v',i :: q,rfl,hcf.out,hown2.out,hg3.out⟩
        · have hS2:=hSx.out _ hgx
          refine hKK.out _ _ hS2 (fun hHeld=>?_)
          clear hKK K
          try dsimp only
          refine tkb 8 ?_
          iterate 5
           refine tkn (v:=?_) rfl (by kernel_rfl) (fun _ _ _ h=>h) (by assumption) ?_ ?_
           rotate_left
           · (intro w hSw;(try dsimp only at hSw);go_simp;try with_reducible rfl)
           try simp only [put_pack]
          refine tke ?_
          refine wpAnyH_done (by kernel_rfl) ?_ _
          go_simp
          have hR2:=Lib.hid (hR1.out.more hih.out hoh.out hDd (World.grownBy.trans (ext_grown ((Ext.refl wx).drew) _) hgx) hbt hbb.out hn1h.out hnx hMjh.out hMx hWjh.out hWx)
          clear hS hS2 hSx hcall hMjh hWjh hR1 hDd hgx hMx hWx
          go_wp2_with fail
          refine⟨⟨j+1,by first | rfl | go_num,by omega,hR2⟩,?_⟩
          simp [intOf];omega
end Go.Proofs.YtiahgcaenneonaaDoor
namespace Go.Proofs
open Go.Shelf
def Tryd.lays112_ren:Go.Shelf.Ren:=⟨fun | 112=>42 | n=>n,fun | 28=>25 | 3=>3 | 4=>4 | 0=>0 | n=>n,fun | n=>n⟩
theorem Tryd.lays112:Go.Proofs.Lays.n112 Tryd.prog Tryd.lays112_ren:={
 mixed:=by kernel_rfl
 f112:=Tryd.func42.trans (congrArg some (by kernel_rfl))
 t0:=Tryd.underlying0
 a0:=Tryd.isAgg0
 z0:=Tryd.sizeOf0
 v0:=Tryd.zeroValue0
 t3:=Tryd.underlying3
 a3:=Tryd.isAgg3
 z3:=Tryd.sizeOf3
 v3:=Tryd.zeroValue3
 t4:=Tryd.underlying4
 a4:=Tryd.isAgg4
 z4:=Tryd.sizeOf4
 v4:=Tryd.zeroValue4
 t28:=Tryd.underlying25
 a28:=Tryd.isAgg25
 z28:=Tryd.sizeOf25
 v28:=Tryd.zeroValue25 }
open Go.RowKit Go.Lib Go.Sort in
theorem Tryd.slices_Reverse_int_empty (a:Option Addr)(cap:Nat)(w:World) :
  Calls Tryd.prog 42 #[.slice a 0 cap] w fun e w'=>e=.returned (.tuple #[])/\w'=w:=Any.slices_Reverse_int_empty Tryd.lays112 a cap w
open Go.RowKit Go.Lib Go.Sort in
theorem Tryd.slices_Reverse_int_cells (b off n c:Nat)(zs:List Int)(w:World)(hz:n<=zs.length)(hbig:n<=9223372036854775807)(hc:∀ j,j<zs.length->w.cell? ⟨b,off+j,none⟩=some (.int .i64 (zs.getD j 0)))(hf:∀ j,j<n->w.frozen? ⟨b,off+j,none⟩=false) :
  Calls Tryd.prog 42 #[.slice (some ⟨b,off,none⟩) n c] w fun e w'=>e=.returned (.tuple #[])/\∃ q,w'=(w.drewN q).setCells b off ((zs.take n).reverse.map (Value.int .i64)):=Any.slices_Reverse_int_cells Tryd.lays112 b off n c zs w hz hbig hc hf
end Go.Proofs
namespace Go.Proofs.YtiahgcaenneonaaDoor
open Go.RowKit Kv
theorem heap_setCells_ex (g:Nat)(t:TypeId):∀ (vs:List Value) (o:Nat) (w:World) (cur:Array Value),w.heap[g]?=some (.cells cur t (0,0))->∃ cur',(w.setCells g o vs).heap[g]?=some (.cells cur' t (0,0))/\cur'.size=cur.size
 | [],_,_,cur,h=>⟨cur,h,rfl⟩
 | v :: r,o,w,cur,h=>by
   obtain⟨cur',h1,h2⟩:=heap_setCells_ex g t r (o+1) (w.setCell ⟨g,o,none⟩ v) _ (heap_setCell (i:=o) h v)
   exact⟨cur',h1,h2.trans (by simp)⟩
theorem Ext.setCells {w0 w:World}(h:Ext w0 w){g:Nat}(hg:w0.heap.size<=g):∀ (vs:List Value) (o:Nat),Ext w0 (w.setCells g o vs):=by
 intro vs
 induction vs generalizing w with
 | nil=>intro o;exact h
 | cons v r ih=>intro o;exact ih (Below.setCell (p:=⟨g,o,none⟩) h hg v) (o+1)
theorem reverse_p {B:Nat}{w0 w:World}{l:List Int}{v:Value}(hx:Ext w0 w)(hB:w0.heap.size<=B)(h:IntRow w B v l)(hl:l.length<=1000) :
  Calls Tryd.prog 42 #[v] w fun e w'=>e=.returned (.tuple #[])/\Ext w0 w'/\IntRow w' B v l.reverse:=by
 rcases h.2 with⟨rfl,h0⟩ | ⟨g,cap,cur,rfl,hb,hg,h1,h2,h3,h4⟩
 · obtain rfl:=List.length_eq_zero_iff.1 h0
   refine (Tryd.slices_Reverse_int_empty none 0 w).mono ?_
   rintro e w' ⟨rfl,rfl⟩
   exact⟨rfl,hx,h⟩
 · have hcell:∀ j,j<l.length->w.cell? ⟨g,0+j,none⟩=some (.int .i64 (l.getD j 0)):=by
    intro j hj
    rw [Nat.zero_add,cell_of_heap hg]
    have e:(cur.toList.take (l.length*1))[j]?=some (.int .i64 (l.getD j 0)):=by
     rw [h4,List.getElem?_map,List.getElem?_eq_getElem hj,List.getD_eq_getElem?_getD,List.getElem?_eq_getElem hj];rfl
    rw [List.getElem?_take,if_pos (by omega)] at e
    rw [<- e];simp
   refine (Tryd.slices_Reverse_int_cells g 0 l.length cap l w (Nat.le_refl _) (by omega) hcell (fun j hj=>by simp [World.frozen?,hg])).mono ?_
   rintro e w' ⟨rfl,q,rfl⟩
   rw [List.take_length]
   have hg':(w.drewN q).heap[g]?=some (.cells cur 3 (0,0)):=hg
   obtain⟨cur',k1,k2⟩:=heap_setCells_ex g 3 (l.reverse.map (Value.int .i64)) 0 (w.drewN q) cur hg'
   refine⟨rfl,Ext.setCells (hx.drewN q) (by omega) _ _,?_,.inr ⟨g,cap,cur',by rw [List.length_reverse],hb,k1,by rw [List.length_reverse];exact h1,h2,by rw [k2];exact h3,?_⟩⟩
   · simp
   · apply List.ext_getElem?
     intro i
     rw [List.length_reverse,List.getElem?_take]
     by_cases hi:i<l.length*1
     · rw [if_pos hi]
       have hc:=World.cell?_setCells_in g (l.reverse.map (Value.int .i64)) 0 (w.drewN q) (fun j hj=>by
        rw [Nat.zero_add,cell_of_heap hg']
        have:j<cur.size:=by simp at hj;omega
        simp [this]) i (by simp;omega)
       rw [Nat.zero_add,cell_of_heap k1] at hc
       rw [Array.getElem?_toList,hc,List.getElem?_eq_getElem]
     · rw [if_neg hi,List.getElem?_eq_none (by simp;omega)]
def FindPost (l:List SOp) (b:Bool) (w:World) (e:Ending) (w':World):Prop :=
 Ext w w'/\((b=false/\e=.returned (.tuple #[.slice none 0 0,.int .i64 1]))∨(b=true/\(Dead l 0 0/\e=.returned (.tuple #[.slice none 0 0,.int .i64 7])∨∃ v p,e=.returned (.tuple #[v,.int .i64 0])/\comp l 0 0 p/\IntRow w' w.heap.size v (intsN p))))
set_option maxRecDepth 100000 in
set_option maxHeartbeats 2000000 in
theorem find52_p (A:Option Addr)(c:Nat)(l:List SOp)(n:Int)(b:Bool)(w:World)(hl:OpsV w A l)(hn:l.length<=14)(T:Tabs w)(hop:b=true->∀ o∈l,o.th<4/\(o.wr=true->o.val<4))
  (hsf:∀ W,Ext w W->Calls Tryd.prog 39 #[.slice A l.length c,.int .i64 n] W fun e w'=>e=.returned (.bool b)/\Ext W w') :
  Calls Tryd.prog 12 #[.slice A l.length c,.int .i64 n] w (FindPost l b w):=by
 have hmm:=@run_makeMap Tryd.prog
 have hsfh:=Lib.hid hsf
 have hlh:=Lib.hid hl
 have hoph:=Lib.hid hop
 clear hsf hl hop
 go_enter Tryd.func12,Tryd.ntmps12
 go_wp2_with fail
 refine (hsfh.out _ (Ext.refl _)).mono ?_
 rintro e w1 ⟨rfl,hx1⟩
 cases b with
 | false =>
   have hx1h:=Lib.hid hx1
   clear hx1 hmm
   go_wp2_with fail
   go_ret2
   exact⟨hx1h.out,.inl ⟨rfl,rfl⟩⟩
 | true =>
   have hx1h:=Lib.hid hx1
   have hl1:=op_ext hlh.out hx1
   clear hx1
   go_wp2_with (refine (over_p A c l _ hl1 (by omega)).mono ?_;rintro e w2 ⟨rfl,hx2⟩)
   have hx3:=hx1h.out.trans hx2
   have hx4:=((Ext.refl w2).alloc (.map #[] 0)).alloc (.cells #[.slice A l.length c,.int .u64 ((2 ^ l.length-1:Nat):Int),.map (some w2.heap.size)] 95)
   have hM:=(MapV.made w2 Tryd.prog 99).alloc (.cells #[.slice A l.length c,.int .u64 ((2 ^ l.length-1:Nat):Int),.map (some w2.heap.size)] 95)
   have hs:=sizeS_mono (a:=l.length) (b:=15) (by omega)
   have hs2:=sizeS_14
   have hf:=from_p w2 A c l w2.heap.size (op_ext hl1 hx2) hn (T.ext hx3) (Nat.le_refl _) (hoph.out trivial) l.length 0 0 0 0 (fun _=>none) _ hx4 (leftN_le l 0) (Nat.two_pow_pos _) (by decide) hM (by omega) (fun d' v' _ _ h=>by cases h)
   rw [show ((0:Nat):Int)=0 from rfl] at hf
   refine hf.mono ?_
   have hw3:w2.heap.size<=((w2.alloc (.map #[] 0)).alloc (.cells #[.slice A l.length c,.int .u64 ((2 ^ l.length-1:Nat):Int),.map (some w2.heap.size)] 95)).heap.size:=hx4.size
   have hxw:∀ W,((w2.alloc (.map #[] 0)).alloc (.cells #[.slice A l.length c,.int .u64 ((2 ^ l.length-1:Nat):Int),.map (some w2.heap.size)] 95)).grownBy W (some w2.heap.size)->Ext w W:=fun W hg=>Below.grown (hx3.trans hx4) hg (hx3.trans hx4).size fun x hx=>by
    injection hx with hx
    have:=hx3.size
    omega
   have hsz3:=hx3.size
   clear hf hM hs hs2 hx4 hx1h hx2 hl1 hmm hsfh hoph
   generalize World.alloc (World.alloc w2 _) _=W3 at *
   rintro e W4 hfp
   rcases hfp with⟨x,q,rfl,hcq,hrx,hgx⟩ | ⟨rfl,hDd,hgx,gj,mx,nx,hnx,hMx,hWx⟩
   · have hx5:=hxw _ hgx
     have hlen:(intsN q.reverse).length<=1000:=by
      have h1:=comp_len hcq
      have h2:=leftN_le l 0
      simp [intsN]
      omega
     have hrev:=reverse_p hx5 (Nat.le_trans hsz3 hw3) hrx hlen
     have hcqh:=Lib.hid hcq
     have hBh:=Lib.hid (Nat.le_trans hsz3 hw3)
     clear hrx hgx hx5 hlen hxw hcq hw3 hsz3 hx3
     go_wp2_with fail
     refine hrev.mono ?_
     rintro e W5 ⟨rfl,hx6,hr6⟩
     have hx6h:=Lib.hid hx6
     have hr6h:=Lib.hid hr6
     clear hrev hx6 hr6
     go_wp2_with fail
     go_ret2
     refine⟨hx6h.out,.inr ⟨rfl,.inr ⟨x,q,rfl,hcqh.out,row_base ?_ hBh.out⟩⟩⟩
     have:=hr6h.out
     rw [show (intsN q.reverse).reverse=intsN q by simp [intsN]] at this
     exact this
   · have hx5:=Lib.hid (hxw _ hgx)
     have hDh:=Lib.hid hDd
     clear hDd hgx hMx hWx hxw hw3 hsz3 hx3
     go_wp2_with fail
     go_ret2
     exact⟨hx5.out,.inr ⟨rfl,.inl ⟨hDh.out,rfl⟩⟩⟩
def HasPost (l:List SOp) (b:Bool) (w:World) (e:Ending) (w':World):Prop :=
 Ext w w'/\((b=false/\e=.returned (.tuple #[.bool false,.int .i64 1]))∨(b=true/\((Dead l 0 0/\e=.returned (.tuple #[.bool false,.int .i64 0]))∨((∃ p,comp l 0 0 p)/\e=.returned (.tuple #[.bool true,.int .i64 0])))))
theorem has52_p (A:Option Addr)(c:Nat)(l:List SOp)(n:Int)(b:Bool)(w:World)(hl:OpsV w A l)(hn:l.length<=14)(T:Tabs w)(hop:b=true->∀ o∈l,o.th<4/\(o.wr=true->o.val<4))
  (hsf:∀ W,Ext w W->Calls Tryd.prog 39 #[.slice A l.length c,.int .i64 n] W fun e w'=>e=.returned (.bool b)/\Ext W w') :
  Calls Tryd.prog 11 #[.slice A l.length c,.int .i64 n] w (HasPost l b w):=by
 have hf:=find52_p A c l n b w hl hn T hop hsf
 clear hl T hop hsf
 go_enter Tryd.func11,Tryd.ntmps11
 go_wp2_with fail
 refine hf.mono ?_
 clear hf
 rintro e w1 ⟨hx,h⟩
 have hxh:=Lib.hid hx
 clear hx
 rcases h with⟨rfl,rfl⟩ | ⟨rfl,⟨hD,rfl⟩ | ⟨v,p,rfl,hc,hr⟩⟩
 · go_wp2_with fail
   go_ret2
   exact⟨hxh.out,.inl ⟨rfl,rfl⟩⟩
 · have hDh:=Lib.hid hD
   clear hD
   go_wp2_with fail
   go_ret2
   exact⟨hxh.out,.inr ⟨rfl,.inl ⟨hDh.out,rfl⟩⟩⟩
 · have hDh:=Lib.hid (show ∃ p,comp l 0 0 p from ⟨p,hc⟩)
   clear hc hr
   go_wp2_with fail
   go_ret2
   exact⟨hxh.out,.inr ⟨rfl,.inr ⟨hDh.out,rfl⟩⟩⟩
end Go.Proofs.YtiahgcaenneonaaDoor
namespace Kv
def orL (d:Nat) (p:List Nat):Nat:=p.foldl (fun d i=>d ||| 2 ^ i) d
def viewL (l:List SOp) (v:Nat) (p:List Nat):Nat:=p.foldl (fun v i=>match l[i]? with | some o=>(tells v o).1 | none=>v) v
theorem orL_snoc (d:Nat)(p:List Nat)(i:Nat):orL d (p++[i])=orL d p ||| 2 ^ i:=by unfold orL;rw [List.foldl_append];rfl
theorem orL_bit (d:Nat)(p:List Nat)(j:Nat):(orL d p).testBit j=(d.testBit j||decide (j∈p)):=by
 induction p generalizing d with
 | nil=>simp [orL]
 | cons i p ih =>
   have:=ih (d ||| 2 ^ i)
   rw [show orL d (i :: p)=orL (d ||| 2 ^ i) p from rfl,this,or_bit]
   by_cases e:i=j
   · simp [e]
   · have e2:¬ j=i:=fun h=>e h.symm
     simp [e,e2]
theorem viewL_snoc (l:List SOp)(v:Nat)(p:List Nat){i:Nat}{o:SOp}(h:l[i]?=some o):viewL l v (p++[i])=(tells (viewL l v p) o).1:=by unfold viewL;rw [List.foldl_append];simp [h]
theorem comp_split {l:List SOp}:∀ {q p:List Nat} {d v:Nat},comp l d v (q++p)->comp l (orL d q) (viewL l v q) p
 | [],_,_,_,h=>h
 | i :: q,p,d,v,h=>by
   obtain⟨_,o,h2,_,h4⟩:=h
   have:=comp_split (q:=q) h4
   rw [show orL d (i :: q)=orL (d ||| 2 ^ i) q from rfl,show viewL l v (i :: q)=viewL l (tells v o).1 q by unfold viewL;rw [List.foldl_cons];simp [h2]]
   exact this
theorem comp_at {l:List SOp}{d v k i:Nat}{p:List Nat}(h:comp l d v p)(hk:p[k]?=some i):i<l.length/\(orL d (p.take k)).testBit i=false/\freeL l (orL d (p.take k)) i=true/\∃ o,l[i]?=some o/\(tells (viewL l v (p.take k)) o).2=true:=by
 have hd:p.drop k=i :: p.drop (k+1):=by
  obtain⟨hl,he⟩:=List.getElem?_eq_some_iff.1 hk
  rw [List.drop_eq_getElem_cons hl,he]
 have h2:comp l (orL d (p.take k)) (viewL l v (p.take k)) (p.drop k):=comp_split (by rw [List.take_append_drop];exact h)
 rw [hd] at h2
 obtain⟨g1,o,g2,g3,_⟩:=h2
 obtain⟨z1,z2,z3⟩:=next_mem.1 g1
 exact⟨z1,z2,z3,o,g2,g3⟩
theorem comp_end {l:List SOp}{d v:Nat}{p:List Nat}(h:comp l d v p):∀ i,i<l.length->(orL d p).testBit i=true:=by
 have:comp l (orL d p) (viewL l v p) []:=comp_split (by rw [List.append_nil];exact h)
 exact this
theorem comp_apart {l:List SOp}{d v k m i x:Nat}{p:List Nat}(h:comp l d v p)(hk:p[k]?=some i)(hm:p[m]?=some x)(hlt:m<k):aheadAt l i x=false:=by
 obtain⟨h1,h2,_⟩:=comp_at h hk
 obtain⟨_,_,h5,_⟩:=comp_at h hm
 rw [orL_bit] at h2
 have hx:x∈p.take k:=List.mem_of_getElem? (i:=m) (by rw [List.getElem?_take,if_pos hlt,hm])
 simp at h2
 unfold freeL at h5
 rw [List.all_eq_true] at h5
 have h6:=h5 i (List.mem_range.2 h1)
 rw [orL_bit] at h6
 have hne:i≠x:=fun e=>h2.2 (e▸hx)
 have hnm:i ∉ p.take m:=fun hi=>h2.2 (by
  have:p.take m=(p.take k).take m:=by rw [List.take_take,Nat.min_eq_left (by omega)]
  rw [this] at hi
  exact List.mem_of_mem_take hi)
 simpa [h2.1,hne,hnm] using h6
theorem orL_lt {n:Nat}:∀ {p:List Nat} {d:Nat},d<2 ^ n->(∀ i∈p,i<n)->orL d p<2 ^ n
 | [],_,hd,_=>hd
 | i :: p,d,hd,h=>orL_lt (p:=p) (Nat.or_lt_two_pow hd (Nat.pow_lt_pow_right (by decide) (h i (by simp)))) fun x hx=>h x (by simp [hx])
theorem comp_mem {l:List SOp}{d v:Nat}{p:List Nat}(h:comp l d v p):∀ i∈p,i<l.length:=fun i hi=>by
 obtain⟨k,hk⟩:=List.getElem?_of_mem hi
 exact (comp_at h hk).1
theorem viewL_lt {l:List SOp}(ho:∀ o∈l,o.wr=true->o.val<4):∀ {p:List Nat} {v:Nat},v<256->viewL l v p<256
 | [],_,hv=>hv
 | i :: p,v,hv=>by
   rw [show viewL l v (i :: p)=viewL l (match l[i]? with | some o=>(tells v o).1 | none=>v) p from rfl]
   refine viewL_lt ho ?_
   split
   · rename_i o h
     exact tells_lt hv (ho o (List.mem_of_getElem? h))
   · exact hv
theorem intsN_at {p:List Nat}{k i:Nat}(h:p[k]?=some i):(intsN p).getD k 0=(i:Int):=by simp [intsN,List.getD_eq_getElem?_getD,h]
theorem intsN_len (p:List Nat):(intsN p).length=p.length:=by simp [intsN]
end Kv
namespace Go.Proofs.YtiahgcaenneonaaDoor
open Go.RowKit Kv
set_option maxRecDepth 100000 in
set_option maxHeartbeats 4000000 in
theorem respects_p (A:Option Addr)(c:Nat)(l:List SOp)(Av:Option Addr)(cv:Nat)(p:List Nat)(v0:Nat)(w:World)(hl:OpsV w A l)(hn:l.length<=14)(hv:Ints w (.slice Av p.length cv) (intsN p))(hc:comp l 0 v0 p) :
  Calls Tryd.prog 43 #[.slice A l.length c,.slice Av p.length cv] w fun e w'=>e=.returned (.bool true)/\Ext w w':=by
 have hlh:=Lib.hid hl
 have hvh:=Lib.hid hv
 have hch:=Lib.hid hc
 have hx0:=Lib.hid (Ext.refl w)
 have hpl:p.length<=14:=by
  have h1:=comp_len hc
  have h2:=leftN_le l 0
  omega
 have hcv:p.length<=cv:=by
  obtain⟨A',c',e,z1,z2⟩:=hv.slice
  injection e with e1 e2 e3
  rw [intsN_len] at z1
  omega
 clear hl hv hc
 go_enter Tryd.func43,Tryd.ntmps43
 go_wp2_with fail
 go_loopw [5,12] (fun a5 a12 wr=>∃ k:Nat,a5=.int .u64 ((orL 0 (p.take k):Nat):Int)/\a12=.int .i64 k/\k<=p.length/\Hid (Ext w wr)) (fun _ a12 _=>p.length-(intOf a12).toNat)
 case atStart=>exact⟨0,by simp [orL],rfl,by omega,hx0⟩
 case round =>
  clear hx0
  obtain⟨k,rfl,rfl,hk,hx⟩:=hrel
  by_cases hkl:k<p.length
  rotate_left
  · have dj:decide ((k:Int)<(p.length:Int))=false:=by rw [decide_eq_false_iff_not];omega
    obtain rfl:k=p.length:=by omega
    rw [List.take_length] at *
    have hlo:=op_ext hlh.out hx.out
    have ho64:orL 0 p<18446744073709551616:=Nat.lt_of_lt_of_le (orL_lt (Nat.two_pow_pos _) (comp_mem hch.out)) (Nat.pow_le_pow_right (by decide) (show l.length<=64 by omega))
    have hand:=u64_andNot_nat (2 ^ l.length-1) (orL 0 p) (pow_lt_64 (by omega)) ho64
    rw [show (2 ^ l.length-1) &&& (18446744073709551615-orL 0 p)=leftM l.length (orL 0 p) from rfl,(left_zero ho64 (by omega)).2 (comp_end hch.out)] at hand
    have hxh:=Lib.hid hx.out
    clear hx
    go_wp2_with fail
    refine (over_p A c l _ hlo (by omega)).mono ?_
    rintro e w2 ⟨rfl,hx2⟩
    have hx3:=Lib.hid (hxh.out.trans hx2)
    clear hx2
    go_wp2_with fail
    first | exact⟨rfl,hx3.out⟩ | (go_ret;exact⟨rfl,hx3.out⟩) | (go_ret;exact⟨ret_bool (by simp),hx3.out⟩)
  · have dj:decide ((k:Int)<(p.length:Int))=true:=by rw [decide_eq_true_eq];omega
    have hki:(k:Int)<(p.length:Int):=by omega
    obtain⟨i,hi⟩:∃ i,p[k]?=some i:=⟨_,List.getElem?_eq_getElem hkl⟩
    obtain⟨hil,hib,_,o,ho,_⟩:=comp_at hch.out hi
    have hv:=hvh.out.ext hx.out
    obtain⟨g9,off9,rfl,hb9,hc9⟩:=hv.at_ hkl
    rw [intsN_at hi] at hc9
    have ho64:orL 0 (p.take k)<18446744073709551616:=Nat.lt_of_lt_of_le (orL_lt (Nat.two_pow_pos _) fun x hx=>comp_mem hch.out x (List.mem_of_mem_take hx)) (Nat.pow_le_pow_right (by decide) (show l.length<=64 by omega))
    have d1:decide ((i:Int)<0)=false:=by rw [decide_eq_false_iff_not];omega
    have d2:decide ((l.length:Int)<=(i:Int))=false:=by rw [decide_eq_false_iff_not];omega
    have d3:decide ((64:Int)<=(i:Int))=false:=by rw [decide_eq_false_iff_not];omega
    have hhas:hasM (orL 0 (p.take k)) (i:Int)=false:=by
     unfold hasM
     rw [if_pos (by unfold inSet;omega),Int.toNat_natCast,hib]
    have hwb:withM (orL 0 (p.take k)) (i:Int)=orL 0 (p.take (k+1)):=by
     unfold withM
     rw [if_pos (by unfold inSet;omega),Int.toNat_natCast,List.take_add_one,hi]
     exact (orL_snoc _ _ _).symm
    have hih:=Lib.hid hi
    have hoh:=Lib.hid ho
    have hwbh:=Lib.hid hwb
    clear hv hi ho hwb hib
    generalize hS:orL 0 (p.take k)=S at *
    go_wp2_with (refine (has_p S ho64 i _).mono ?_;rintro e w' ⟨rfl,rfl⟩;rw [hhas])
    refine (with_p S ho64 i _).mono ?_
    rintro e w2 ⟨rfl,rfl⟩
    rw [hwbh.out]
    have hxh:=Lib.hid hx.out
    clear hx hS ho64 hhas d1 d2 d3 dj hb9 hc9
    generalize hS2:orL 0 (p.take (k+1))=S2 at *
    go_wp2_with fail
    go_loopw [41] (fun a41 wq=>∃ m:Nat,a41=.int .i64 m/\m<=k/\Hid (Ext w wq)) (fun a41 _=>k-(intOf a41).toNat)
    case atStart=>exact⟨0,rfl,by omega,hxh⟩
    case round =>
     clear hxh
     obtain⟨m,rfl,hm,hx⟩:=hrel
     by_cases hmk:m<k
     rotate_left
     · have dm:decide ((m:Int)<(k:Int))=false:=by rw [decide_eq_false_iff_not];omega
       go_wp2_with fail
       refine⟨⟨k+1,by rw [hS2],by first | rfl | go_num,by omega,hx⟩,?_⟩
       simp [intOf];omega
     · have dm:decide ((m:Int)<(k:Int))=true:=by rw [decide_eq_true_eq];omega
       have hmi:(m:Int)<(k:Int):=by omega
       obtain⟨x,hxm⟩:∃ x,p[m]?=some x:=⟨_,List.getElem?_eq_getElem (by omega)⟩
       obtain⟨hxl,_,_,q,hq,_⟩:=comp_at hch.out hxm
       have hap:=comp_apart hch.out hih.out hxm hmk
       have hah:isAhead o q=false:=by
        unfold aheadAt at hap
        rw [hoh.out,hq] at hap
        exact hap
       have hv:=hvh.out.ext hx.out
       obtain⟨g8,off8,e8,hb8,hc8⟩:=hv.at_ (i:=m) (by omega)
       simp only [Option.some.injEq,Addr.mk.injEq,and_true] at e8
       obtain⟨rfl,rfl⟩:=e8
       rw [intsN_at hxm] at hc8
       obtain⟨b,rfl,hb,p0,p1,p2,p3,p4⟩:=op_at (op_ext hlh.out hx.out) hoh.out
       obtain⟨b',e',hb',q0,q1,q2,q3,q4⟩:=op_at (op_ext hlh.out hx.out) hq
       have e':b=b':=by injection e' with e';injection e' with e' _ _
       subst e'
       have hii:(i:Int)<(l.length:Int):=by omega
       have hxi:(x:Int)<(l.length:Int):=by omega
       have hi0:(0:Int)<=(i:Int):=by omega
       have hx0:(0:Int)<=(x:Int):=by omega
       clear hv hq hxm hap hb'
       go_upto_region 11 with fail
       have hSx:Hid (∀ W,Ext wr W->W.cell? ⟨b,i*5,none⟩=some (.int .i64 o.fr)/\W.cell? ⟨b,i*5+1,none⟩=some (.int .i64 o.te)/\W.cell? ⟨b,i*5+2,none⟩=some (.bool o.wr)/\W.cell? ⟨b,i*5+3,none⟩=some (.int .i64 o.val)/\W.cell? ⟨b,i*5+4,none⟩=some (.int .i64 o.th)/\W.cell? ⟨b,x*5,none⟩=some (.int .i64 q.fr)/\W.cell? ⟨b,x*5+1,none⟩=some (.int .i64 q.te)/\W.cell? ⟨b,x*5+2,none⟩=some (.bool q.wr)/\W.cell? ⟨b,x*5+3,none⟩=some (.int .i64 q.val)/\W.cell? ⟨b,x*5+4,none⟩=some (.int .i64 q.th)):=Lib.hid fun W h=>⟨(h.cell (p:=⟨b,_,none⟩) hb).trans p0,(h.cell (p:=⟨b,_,none⟩) hb).trans p1,(h.cell (p:=⟨b,_,none⟩) hb).trans p2,(h.cell (p:=⟨b,_,none⟩) hb).trans p3,(h.cell (p:=⟨b,_,none⟩) hb).trans p4,(h.cell (p:=⟨b,_,none⟩) hb).trans q0,(h.cell (p:=⟨b,_,none⟩) hb).trans q1,(h.cell (p:=⟨b,_,none⟩) hb).trans q2,(h.cell (p:=⟨b,_,none⟩) hb).trans q3,(h.cell (p:=⟨b,_,none⟩) hb).trans q4⟩
       have hE0:=(Ext.refl wr).drew
       have hS:=hSx.out _ hE0
       refine wp_region_held_drew (S:=fun W=>W.cell? ⟨b,i*5,none⟩=some (.int .i64 o.fr)/\W.cell? ⟨b,i*5+1,none⟩=some (.int .i64 o.te)/\W.cell? ⟨b,i*5+2,none⟩=some (.bool o.wr)/\W.cell? ⟨b,i*5+3,none⟩=some (.int .i64 o.val)/\W.cell? ⟨b,i*5+4,none⟩=some (.int .i64 o.th)/\W.cell? ⟨b,x*5,none⟩=some (.int .i64 q.fr)/\W.cell? ⟨b,x*5+1,none⟩=some (.int .i64 q.te)/\W.cell? ⟨b,x*5+2,none⟩=some (.bool q.wr)/\W.cell? ⟨b,x*5+3,none⟩=some (.int .i64 q.val)/\W.cell? ⟨b,x*5+4,none⟩=some (.int .i64 q.th)) rfl hS (fun hHeld=>?_)
       clear p0 p1 p2 p3 p4 q0 q1 q2 q3 q4 hb hb8 hc8
       refine tkb 0 ?_
       iterate 8
        refine tkn (v:=?_) rfl (by kernel_rfl) (fun _ _ _ h=>h) (by assumption) ?_ ?_
        rotate_left
        · (intro w hSw;(try dsimp only at hSw);go_simp;try with_reducible rfl)
        try simp only [put_pack]
       refine tke ?_
       refine wpAnyH_ready (rs:=[8]) (by kernel_rfl) (by simp) ?_
       refine AllReadyH.cons rfl (fun K hKK=>?_) (AllReadyH.nil)
       go_simp
       refine (ahead_p o q _).mono ?_
       rintro e wx ⟨rfl,hxa⟩
       rw [hah]
       have hE1:=hE0.trans hxa
       have hS1:=hSx.out _ hE1
       refine hKK.out _ _ hS1 (fun hHeld=>?_)
       clear hKK K
       try dsimp only
       refine wpAnyH_done (by kernel_rfl) ?_ _
       go_simp
       have hf:=Lib.hid (hx.out.trans hE1)
       clear hS hS1 hE0 hE1 hxa hx hSx
       go_wp2_with fail
       refine⟨⟨m+1,by first | rfl | go_num,by omega,hf⟩,?_⟩
       simp [intOf];omega
set_option maxRecDepth 100000 in
set_option maxHeartbeats 4000000 in
theorem right_p (A:Option Addr)(c:Nat)(l:List SOp)(n:Int)(Av:Option Addr)(cv:Nat)(p:List Nat)(w:World)(hl:OpsV w A l)(hn:l.length<=14)(hv:Ints w (.slice Av p.length cv) (intsN p))(hc:comp l 0 0 p)
  (hop:∀ o∈l,o.th<4/\(o.wr=true->o.val<4))(hsf:∀ W,Ext w W->Calls Tryd.prog 39 #[.slice A l.length c,.int .i64 n] W fun e w'=>e=.returned (.bool true)/\Ext W w') :
  Calls Tryd.prog 13 #[.slice A l.length c,.int .i64 n,.slice Av p.length cv] w fun e w'=>e=.returned (.bool true)/\Ext w w':=by
 have hlh:=Lib.hid hl
 have hvh:=Lib.hid hv
 have hch:=Lib.hid hc
 have hoph:=Lib.hid hop
 have hsfh:=Lib.hid (hsf w (Ext.refl w))
 have hpl:p.length<=14:=by
  have h1:=comp_len hc
  have h2:=leftN_le l 0
  omega
 clear hl hv hc hop hsf
 go_enter Tryd.func13,Tryd.ntmps13
 go_wp2_with fail
 refine hsfh.out.mono ?_
 rintro e w1 ⟨rfl,hx1⟩
 have hrs:=respects_p A c l Av cv p 0 w1 (op_ext hlh.out hx1) hn (hvh.out.ext hx1) hch.out
 have hx1h:=Lib.hid hx1
 clear hx1
 go_wp2_with fail
 refine hrs.mono ?_
 rintro e w2 ⟨rfl,hx2⟩
 have hx0:=Lib.hid (hx1h.out.trans hx2)
 clear hx1h hx2 hrs hsfh
 go_wp2_with fail
 go_loopw [7,23] (fun a7 a23 wr=>∃ k:Nat,a7=.int .i64 ((viewL l 0 (p.take k):Nat):Int)/\a23=.int .i64 k/\k<=p.length/\Hid (Ext w wr)) (fun _ a23 _=>p.length-(intOf a23).toNat)
 case atStart=>exact⟨0,by simp [viewL],rfl,by omega,hx0⟩
 case round =>
  clear hx0
  obtain⟨k,rfl,rfl,hk,hx⟩:=hrel
  by_cases hkl:k<p.length
  rotate_left
  · have dj:decide ((k:Int)<(p.length:Int))=false:=by rw [decide_eq_false_iff_not];omega
    go_wp2_with fail
    first | exact⟨rfl,hx.out⟩ | (go_ret;exact⟨rfl,hx.out⟩)
  · have dj:decide ((k:Int)<(p.length:Int))=true:=by rw [decide_eq_true_eq];omega
    have hki:(k:Int)<(p.length:Int):=by omega
    obtain⟨i,hi⟩:∃ i,p[k]?=some i:=⟨_,List.getElem?_eq_getElem hkl⟩
    obtain⟨hil,_,_,o,ho,hto⟩:=comp_at hch.out hi
    have hv:=hvh.out.ext hx.out
    obtain⟨g9,off9,rfl,hb9,hc9⟩:=hv.at_ hkl
    rw [intsN_at hi] at hc9
    obtain⟨hoth,howr⟩:=hoph.out o (List.mem_of_getElem? ho)
    have hv4:viewL l 0 (p.take k)<256:=viewL_lt (fun o ho=>(hoph.out o ho).2) (by decide)
    have hvs:(tells (viewL l 0 (p.take k)) o).1=viewL l 0 (p.take (k+1)):=by
     rw [List.take_add_one,hi]
     exact (viewL_snoc l 0 _ ho).symm
    obtain⟨b,rfl,hb,p0,p1,p2,p3,p4⟩:=op_at (op_ext hlh.out hx.out) ho
    have hii:(i:Int)<(l.length:Int):=by omega
    have hi0:(0:Int)<=(i:Int):=by omega
    have htp:=Lib.hid (tells_p (viewL l 0 (p.take k)) o hv4 hoth howr)
    rw [hto,hvs] at htp
    have hxh:=Lib.hid hx.out
    clear hv hi ho hto hvs hx
    generalize viewL l 0 (p.take k)=V at *
    generalize hV2:viewL l 0 (p.take (k+1))=V2 at *
    go_wp2_with fail
    refine (htp.out _).mono ?_
    rintro e wx ⟨rfl,hxa⟩
    have hf:=Lib.hid (hxh.out.trans hxa)
    clear hxa hxh htp p0 p1 p2 p3 p4 hb hb9 hc9
    go_wp2_with fail
    refine⟨⟨k+1,by rw [hV2],by first | rfl | go_num,by omega,hf⟩,?_⟩
    simp [intOf];omega
end Go.Proofs.YtiahgcaenneonaaDoor
namespace Kv
def alW:SOp:=⟨0,1,true,2,0⟩
def alD (x:Nat):SOp:=⟨2,3,false,x,1⟩
theorem al_fine (x:Nat):FineL [alW,alD x]:=fun i o h=>by
 match i,h with
 | 0,h =>
   injection h with h
   subst h
   refine⟨by decide,by decide,Nat.zero_le _,fun p hp=>?_⟩
   simp [lastOf] at hp
 | 1,h =>
   injection h with h
   subst h
   refine⟨(by decide:2<=3),(by decide:1<8),(by decide:0<=2),fun p hp=>?_⟩
   simp [lastOf,alW,alD] at hp
theorem al_dead:Dead [alW,alD 0] 0 0:=fun p hp=>by
 cases p with
 | nil=>exact absurd (hp 0 (by decide)) (by decide)
 | cons i p =>
   obtain⟨h1,o,h2,h3,h4⟩:=hp
   have e:nextL [alW,alD 0] 0=[0]:=by decide
   rw [e] at h1
   obtain rfl:=List.mem_singleton.1 h1
   injection h2 with h2
   subst h2
   cases p with
   | nil=>exact absurd (h4 1 (by decide)) (by decide)
   | cons j p =>
     obtain⟨g1,o,g2,g3,_⟩:=h4
     have e:nextL [alW,alD 0] (0 ||| 2 ^ 0)=[1]:=by decide
     rw [e] at g1
     obtain rfl:=List.mem_singleton.1 g1
     injection g2 with g2
     subst g2
     revert g3
     decide
theorem al_comp:comp [alW,alD 2] 0 0 [0,1]:=by
 refine⟨by decide,alW,rfl,by decide,by decide,alD 2,rfl,by decide,fun i hi=>?_⟩
 match i,hi with
 | 0,_=>decide
 | 1,_=>decide
theorem al_only {p:List Nat}(hp:comp [alW,alD 2] 0 0 p):p=[0,1]:=by
 cases p with
 | nil=>exact absurd (hp 0 (by decide)) (by decide)
 | cons i p =>
   obtain⟨h1,o,h2,h3,h4⟩:=hp
   have e:nextL [alW,alD 2] 0=[0]:=by decide
   rw [e] at h1
   obtain rfl:=List.mem_singleton.1 h1
   cases p with
   | nil=>exact absurd (h4 1 (by decide)) (by decide)
   | cons j p =>
     obtain⟨g1,o,g2,g3,g4⟩:=h4
     have e:nextL [alW,alD 2] (0 ||| 2 ^ 0)=[1]:=by decide
     rw [e] at g1
     obtain rfl:=List.mem_singleton.1 g1
     rw [comp_zero (fun i hi=>?_) g4]
     match i,hi with
     | 0,_=>decide
     | 1,_=>decide
theorem al_op (x:Nat):∀ o∈[alW,alD x],o.th<4/\(o.wr=true->o.val<4):=fun o ho=>by
 rcases List.mem_cons.1 ho with rfl | ho
 · exact⟨by decide,fun _=>by decide⟩
 · obtain rfl:=List.mem_singleton.1 ho
   exact⟨by show 1<4;decide,fun h=>by cases h⟩
end Kv
namespace Go.Proofs.YtiahgcaenneonaaDoor
open Go.RowKit Kv
theorem ops_of_blk {w:World}{g:Nat}{t:TypeId}{l:List SOp}(h:Blk w g (.cells (l.flatMap opVals).toArray t)):OpsV w (some ⟨g,0,none⟩) l:=fun _ =>
 ⟨g,rfl,h.lt,fun i x hi=>by rw [h.cells i];simpa using hi⟩
theorem al_ops (W:World)(x:Nat):OpsV (W.alloc (.cells #[.int .i64 0,.int .i64 1,.bool true,.int .i64 2,.int .i64 0,.int .i64 2,.int .i64 3,.bool false,.int .i64 x,.int .i64 1] 28)) (some ⟨W.heap.size,0,none⟩) [alW,alD x]:=ops_of_blk (l:=[alW,alD x]) (Blk.new W (.cells #[.int .i64 0,.int .i64 1,.bool true,.int .i64 2,.int .i64 0,.int .i64 2,.int .i64 3,.bool false,.int .i64 x,.int .i64 1] 28))
theorem al_sf (W:World)(x:Nat)(n:Int)(b:Bool)(h2:n=2/\b=(List.all [alW,alD x] (opOk 2))∨n=1/\b=(List.all [alW,alD x] (opOk 1)))(V:World)(h:Ext (W.alloc (.cells #[.int .i64 0,.int .i64 1,.bool true,.int .i64 2,.int .i64 0,.int .i64 2,.int .i64 3,.bool false,.int .i64 x,.int .i64 1] 28)) V) :
  Calls Tryd.prog 39 #[.slice (some ⟨W.heap.size,0,none⟩) ([alW,alD x]:List SOp).length 2,.int .i64 n] V fun e w'=>e=.returned (.bool b)/\Ext V w':=by
 rcases h2 with⟨rfl,rfl⟩ | ⟨rfl,rfl⟩
 · exact sfine2_p _ 2 _ V (op_ext (al_ops W x) h) (show 2<=20 by decide) (al_fine x)
 · exact sfine1_p _ 2 _ V (op_ext (al_ops W x) h) (show 2<=20 by decide) (al_fine x)
theorem al_has (W:World)(T:Tabs W):Calls Tryd.prog 11 #[.slice (some ⟨W.heap.size,0,none⟩) 2 2,.int .i64 2] (W.alloc (.cells #[.int .i64 0,.int .i64 1,.bool true,.int .i64 2,.int .i64 0,.int .i64 2,.int .i64 3,.bool false,.int .i64 0,.int .i64 1] 28)) fun e w'=>e=.returned (.tuple #[.bool false,.int .i64 0])/\Ext W w':=by
 have hx:Ext W (W.alloc (.cells #[.int .i64 0,.int .i64 1,.bool true,.int .i64 2,.int .i64 0,.int .i64 2,.int .i64 3,.bool false,.int .i64 0,.int .i64 1] 28)):=(Ext.refl W).alloc _
 refine (has52_p (some ⟨W.heap.size,0,none⟩) 2 [alW,alD 0] 2 true _ (al_ops W 0) (by decide) (T.ext hx) (fun _=>al_op 0) (al_sf W 0 2 true (.inl ⟨rfl,by decide⟩))).mono ?_
 rintro e w' ⟨hx2,⟨hb,_⟩ | ⟨_,⟨_,rfl⟩ | ⟨⟨p,hp⟩,_⟩⟩⟩
 · cases hb
 · exact⟨rfl,hx.trans hx2⟩
 · exact absurd hp (al_dead p)
theorem al_find (W:World)(T:Tabs W):Calls Tryd.prog 12 #[.slice (some ⟨W.heap.size,0,none⟩) 2 2,.int .i64 2] (W.alloc (.cells #[.int .i64 0,.int .i64 1,.bool true,.int .i64 2,.int .i64 0,.int .i64 2,.int .i64 3,.bool false,.int .i64 2,.int .i64 1] 28)) fun e w'=>(∃ v,e=.returned (.tuple #[v,.int .i64 0])/\Ints w' v [0,1])/\Ext W w':=by
 have hx:Ext W (W.alloc (.cells #[.int .i64 0,.int .i64 1,.bool true,.int .i64 2,.int .i64 0,.int .i64 2,.int .i64 3,.bool false,.int .i64 2,.int .i64 1] 28)):=(Ext.refl W).alloc _
 refine (find52_p (some ⟨W.heap.size,0,none⟩) 2 [alW,alD 2] 2 true _ (al_ops W 2) (by decide) (T.ext hx) (fun _=>al_op 2) (al_sf W 2 2 true (.inl ⟨rfl,by decide⟩))).mono ?_
 rintro e w' ⟨hx2,⟨hb,_⟩ | ⟨_,⟨hd,_⟩ | ⟨v,p,rfl,hp,hr⟩⟩⟩
 · cases hb
 · exact absurd al_comp (hd _)
 · obtain rfl:=al_only hp
   exact⟨⟨v,rfl,hr.ints⟩,hx.trans hx2⟩
theorem al_has1 (W:World)(T:Tabs W):Calls Tryd.prog 11 #[.slice (some ⟨W.heap.size,0,none⟩) 2 2,.int .i64 1] (W.alloc (.cells #[.int .i64 0,.int .i64 1,.bool true,.int .i64 2,.int .i64 0,.int .i64 2,.int .i64 3,.bool false,.int .i64 2,.int .i64 1] 28)) fun e w'=>e=.returned (.tuple #[.bool false,.int .i64 1])/\Ext W w':=by
 have hx:Ext W (W.alloc (.cells #[.int .i64 0,.int .i64 1,.bool true,.int .i64 2,.int .i64 0,.int .i64 2,.int .i64 3,.bool false,.int .i64 2,.int .i64 1] 28)):=(Ext.refl W).alloc _
 refine (has52_p (some ⟨W.heap.size,0,none⟩) 2 [alW,alD 2] 1 false _ (al_ops W 2) (by decide) (T.ext hx) (fun h=>by cases h) (al_sf W 2 1 false (.inr ⟨rfl,by decide⟩))).mono ?_
 rintro e w' ⟨hx2,⟨_,rfl⟩ | ⟨hb,_⟩⟩
 · exact⟨rfl,hx.trans hx2⟩
 · cases hb
theorem al_right (W:World)(_T:Tabs W)(Av:Option Addr)(cv:Nat)(hv:Ints W (.slice Av 2 cv) [0,1]):Calls Tryd.prog 13 #[.slice (some ⟨W.heap.size,0,none⟩) 2 2,.int .i64 2,.slice Av 2 cv] (W.alloc (.cells #[.int .i64 0,.int .i64 1,.bool true,.int .i64 2,.int .i64 0,.int .i64 2,.int .i64 3,.bool false,.int .i64 2,.int .i64 1] 28)) fun e w'=>e=.returned (.bool true)/\Ext W w':=by
 have hx:Ext W (W.alloc (.cells #[.int .i64 0,.int .i64 1,.bool true,.int .i64 2,.int .i64 0,.int .i64 2,.int .i64 3,.bool false,.int .i64 2,.int .i64 1] 28)):=(Ext.refl W).alloc _
 refine (right_p (some ⟨W.heap.size,0,none⟩) 2 [alW,alD 2] 2 Av cv [0,1] _ (al_ops W 2) (by decide) (hv.ext hx) al_comp (al_op 2) (al_sf W 2 2 true (.inl ⟨rfl,by decide⟩))).mono ?_
 rintro e w' ⟨rfl,hx2⟩
 exact⟨rfl,hx.trans hx2⟩
set_option maxRecDepth 100000 in
set_option maxHeartbeats 4000000 in
theorem alive52 (w:World)(T:Tabs w):Calls Tryd.prog 8 #[] w fun e w'=>e=.returned (.bool true)/\Ext w w':=by
 have hT:=Lib.hid T
 have k1:=(Blk.new w (.cells #[.int .i64 0,.int .i64 1,.bool true,.int .i64 2,.int .i64 0] 28)).alloc (.cells #[.int .i64 2,.int .i64 3,.bool false,.int .i64 0,.int .i64 1] 28)
 have k2:=Blk.new (w.alloc (.cells #[.int .i64 0,.int .i64 1,.bool true,.int .i64 2,.int .i64 0] 28)) (.cells #[.int .i64 2,.int .i64 3,.bool false,.int .i64 0,.int .i64 1] 28)
 have hx:=((Ext.refl w).alloc (.cells #[.int .i64 0,.int .i64 1,.bool true,.int .i64 2,.int .i64 0] 28)).alloc (.cells #[.int .i64 2,.int .i64 3,.bool false,.int .i64 0,.int .i64 1] 28)
 rw [World.size_alloc] at k2
 clear T
 go_enter Tryd.func8,Tryd.ntmps8
 go_upto_region 2 with fail
 generalize World.alloc (World.alloc w _) _=W1 at *
 generalize hb2:w.heap.size+1=b2 at *
 generalize hb1:w.heap.size=b1 at *
 have hne:b1≠b2:=by omega
 have hge:w.heap.size<=b2:=by omega
 clear hb1 hb2
 have c10:=k1.cells 0
 have c11:=k1.cells 1
 have c12:=k1.cells 2
 have c13:=k1.cells 3
 have c14:=k1.cells 4
 have c20:=k2.cells 0
 have c21:=k2.cells 1
 have c22:=k2.cells 2
 have c23:=k2.cells 3
 have c24:=k2.cells 4
 have k1h:=Lib.hid k1
 have k2h:=Lib.hid k2
 have hxh:=Lib.hid hx
 clear k1 k2 hx
 go_wp2_with fail
 refine (al_has W1 (hT.out.ext hxh.out)).mono ?_
 rintro e W2 ⟨rfl,hx2⟩
 replace k1h:=Lib.hid (k1h.out.ext hx2)
 replace k2h:=Lib.hid (k2h.out.ext hx2)
 replace hxh:=Lib.hid (hxh.out.trans hx2)
 clear hx2 c10 c11 c12 c13 c14 c20 c21 c22 c23 c24
 have c23:=k2h.out.cells 3
 have f23:=frozen_of_heap k2h.out 3
 go_upto_region 4 with fail
 have k2:Blk (W2.setCell ⟨b2,3,none⟩ (.int .i64 2)) b2 (.cells #[.int .i64 2,.int .i64 3,.bool false,.int .i64 2,.int .i64 1] 28):=heap_setCell (i:=3) k2h.out (.int .i64 2)
 have k1:=k1h.out.set5 (c:=b2) (i:=3) hne (.int .i64 2)
 have hx:=hxh.out.setCell (p:=⟨b2,3,none⟩) hge (.int .i64 2)
 clear k1h k2h hxh c23 f23
 generalize World.setCell W2 _ _=W3 at *
 have c10:=k1.cells 0
 have c11:=k1.cells 1
 have c12:=k1.cells 2
 have c13:=k1.cells 3
 have c14:=k1.cells 4
 have c20:=k2.cells 0
 have c21:=k2.cells 1
 have c22:=k2.cells 2
 have c23:=k2.cells 3
 have c24:=k2.cells 4
 have k1h:=Lib.hid k1
 have k2h:=Lib.hid k2
 have hxh:=Lib.hid hx
 clear k1 k2 hx
 go_wp2_with fail
 refine (al_find W3 (hT.out.ext hxh.out)).mono ?_
 rintro e W4 ⟨⟨v,rfl,hv⟩,hx2⟩
 obtain⟨Av,cv,rfl,-,-⟩:=hv.slice
 rw [show (([0,1]:List Int)).length=2 from rfl] at hv
 replace k1h:=Lib.hid (k1h.out.ext hx2)
 replace k2h:=Lib.hid (k2h.out.ext hx2)
 replace hxh:=Lib.hid (hxh.out.trans hx2)
 have hvh:=Lib.hid hv
 clear hx2 hv c10 c11 c12 c13 c14 c20 c21 c22 c23 c24
 have c10:=k1h.out.cells 0
 have c11:=k1h.out.cells 1
 have c12:=k1h.out.cells 2
 have c13:=k1h.out.cells 3
 have c14:=k1h.out.cells 4
 have c20:=k2h.out.cells 0
 have c21:=k2h.out.cells 1
 have c22:=k2h.out.cells 2
 have c23:=k2h.out.cells 3
 have c24:=k2h.out.cells 4
 go_wp2_with fail
 refine (al_has1 W4 (hT.out.ext hxh.out)).mono ?_
 rintro e W5 ⟨rfl,hx2⟩
 replace k1h:=Lib.hid (k1h.out.ext hx2)
 replace k2h:=Lib.hid (k2h.out.ext hx2)
 replace hxh:=Lib.hid (hxh.out.trans hx2)
 replace hvh:=Lib.hid (hvh.out.ext hx2)
 clear hx2 c10 c11 c12 c13 c14 c20 c21 c22 c23 c24
 have c10:=k1h.out.cells 0
 have c11:=k1h.out.cells 1
 have c12:=k1h.out.cells 2
 have c13:=k1h.out.cells 3
 have c14:=k1h.out.cells 4
 have c20:=k2h.out.cells 0
 have c21:=k2h.out.cells 1
 have c22:=k2h.out.cells 2
 have c23:=k2h.out.cells 3
 have c24:=k2h.out.cells 4
 have hir:=ints_r (.slice Av 2 cv) (.slice (some ⟨W5.heap.size,0,none⟩) 2 2) [0,1] [0,1] (W5.alloc (.cells #[.int .i64 0,.int .i64 1] 3)) (hvh.out.ext ((Ext.refl W5).alloc _)) (ints_of_blk [0,1] (by decide) (Blk.new W5 (.cells #[.int .i64 0,.int .i64 1] 3)))
 rw [show decide (([0,1]:List Int)=[0,1])=true from rfl] at hir
 go_wp2_with fail
 refine hir.mono ?_
 rintro e W6 ⟨rfl,hd⟩
 have hx2:Ext W5 W6:=((Ext.refl W5).alloc _).trans hd.ext
 replace k1h:=Lib.hid (k1h.out.ext hx2)
 replace k2h:=Lib.hid (k2h.out.ext hx2)
 replace hxh:=Lib.hid (hxh.out.trans hx2)
 replace hvh:=Lib.hid (hvh.out.ext hx2)
 clear hx2 hd hir c10 c11 c12 c13 c14 c20 c21 c22 c23 c24
 have c10:=k1h.out.cells 0
 have c11:=k1h.out.cells 1
 have c12:=k1h.out.cells 2
 have c13:=k1h.out.cells 3
 have c14:=k1h.out.cells 4
 have c20:=k2h.out.cells 0
 have c21:=k2h.out.cells 1
 have c22:=k2h.out.cells 2
 have c23:=k2h.out.cells 3
 have c24:=k2h.out.cells 4
 go_wp2_with fail
 refine (al_right W6 (hT.out.ext hxh.out) Av cv hvh.out).mono ?_
 rintro e W7 ⟨rfl,hx2⟩
 replace hxh:=Lib.hid (hxh.out.trans hx2)
 clear hx2 k1h k2h hvh c10 c11 c12 c13 c14 c20 c21 c22 c23 c24
 go_wp2_with fail
 first | exact⟨rfl,hxh.out⟩ | (go_ret;exact⟨rfl,hxh.out⟩)
end Go.Proofs.YtiahgcaenneonaaDoor
namespace Go.Proofs.YtiahgcaenneonaaDoor
open Go.RowKit Go.WideShapes Go.ChangeShapes
section
variable {H:Type} {enc:TypeId × Value->H} {P:Program}
theorem post_of_below {f:Func}{s:ChangeSpec}{apart fresh handsOn again:Bool}{W W':World}{args:Array Value}{v:Value}{ds gs:List (DataW H)}{before pa pv:List MemPlace}
  (hW:DataW.Whole enc P f.params.toList s.vars apart W args.toList ds gs before)
  (hres:∀ (b:Nat) (sp:Nat->Bool) (hd:Bool),DataW.TrodAll enc P W' b sp hd f.resultTypes.toList (v.resultList f.resultTypes.size) (s.fn H (ds++gs)).results [])
  (hargs:∀ sp:Nat->Bool,(∀ p∈before,sp p.block=true)->DataW.TrodAll enc P W' 0 sp true f.params.toList args.toList (s.fn H (ds++gs)).args pa)
  (hvars:∀ sp:Nat->Bool,(∀ p∈before,sp p.block=true)->DataW.TrodVars enc P W' sp s.vars (s.fn H (ds++gs)).vars pv)
  (hps:before=pa++pv)(hb:Below W.heap.size W W')
  (hok:∀ (j:Nat) (t:TypeId) (r:Value),f.resultTypes[j]?=some t->(v.resultList f.resultTypes.size)[j]?=some r->Value.okWide P W' .any 0 t r) :
  s.post enc P f apart fresh handsOn again W args v W':=by
 have hlt:∀ p∈before,p.block<W.heap.size:=fun p hp=>hW.lt p hp
 have hold:∀ p∈before,(fun b=>decide (b<W.heap.size)) p.block=true:=fun p hp=>by simpa using hlt p hp
 refine⟨ds,gs,before,[],pa,pv,hW,hres _ _ _,hargs _ hold,hvars _ hold,World.keptBut_mono (fun p hp=>⟨hp,?_⟩) (hb.frame (·∈before)),fun _=>?_⟩
 · rw [hps,List.mem_append] at hp
   exact Or.inr hp
 · obtain⟨_,_,_,_,_,hz,hn⟩:=hW
   refine⟨hok,_,_,([]++pa)++pv,⟨[]++pa,pv,trodAll_append (hargs _ (fun _ _=>rfl)) (hres _ _ _),hvars _ (fun _ _=>rfl),rfl,?_,?_⟩,?_⟩
   · intro b off hp
     have hin:MemPlace.cell b off∈before:=by rw [hps];simpa using hp
     rw [hb.frozen (hlt _ hin)]
     exact hz b off hin
   · intro ha
     have:=hn ha
     rw [hps] at this
     simpa using this
   · intro p hp _
     rw [hps]
     simpa using hp
end
section
variable {H:Type} {enc:TypeId × Value->H} {P:Program}
theorem trodAll_stays (hl:laidOutB P=true):∀ (ts:List TypeId),(∀ t∈ts,P.readableRec t=true/\t<P.types.size)->∀ {W W':World} {sp:Nat->Bool} {vs:List Value} {ds:List (DataW H)} {ps:List MemPlace},
  DataW.TrodAll enc P W 0 (fun _=>true) true ts vs ds ps->(∀ p∈ps,W.sameAt W' p)->(∀ p∈ps,sp p.block=true)->DataW.TrodAll enc P W' 0 sp true ts vs ds ps
 | [],_,W,W',sp,vs,ds,ps,h,_,_=>by
   cases vs <;> cases ds <;> simp_all [DataW.TrodAll]
 | t :: ts,ht,W,W',sp,vs,ds,ps,h,hs,hsp=>by
   obtain⟨v,vs',d,ds',p,q,rfl,rfl,rfl,hp,hq⟩:=trodAll_cons h
   have h1:=ht t (by simp)
   refine trodAll_cons_mk (WideElems.Trod_stays hl h1.1 h1.2 hp (fun x hx=>hs x (by simp [hx])) (fun x hx=>hsp x (by simp [hx]))) ?_
   exact trodAll_stays hl ts (fun t' h'=>ht t' (by simp [h'])) hq (fun x hx=>hs x (by simp [hx])) (fun x hx=>hsp x (by simp [hx]))
theorem trodAll_length:∀ (ts:List TypeId) {W:World} {b:Nat} {sp:Nat->Bool} {held:Bool} {vs:List Value} {ds:List (DataW H)} {ps:List MemPlace},DataW.TrodAll enc P W b sp held ts vs ds ps->ds.length=ts.length
 | [],W,b,sp,held,vs,ds,ps,h=>by cases vs <;> cases ds <;> simp_all [DataW.TrodAll]
 | t :: ts,W,b,sp,held,vs,ds,ps,h=>by
   obtain⟨v,vs',d,ds',p,q,rfl,rfl,rfl,hp,hq⟩:=trodAll_cons h
   simp [trodAll_length ts hq]
theorem law_post {f:Func}{s:ChangeSpec}{W W':World}{args:Array Value}{ds gs:List (DataW H)}{before:List MemPlace}{tb:TypeId}
  (hl:laidOutB P=true)(hr:∀ t∈f.params.toList,P.readableRec t=true/\t<P.types.size)(hres:f.resultTypes=#[tb])(htb:P.underlying tb=some .bool)
  (hvars:s.vars=[])(hspec:∀ ds:List (DataW H),ds.length=f.params.size->s.fn H ds={ results:=[.lit (.bool true)],args:=ds })
  (hW:DataW.Whole enc P f.params.toList s.vars false W args.toList ds gs before)(hx:Ext W W') :
  s.post enc P f false true false false W args (.bool true) W':=by
 have hWlt:∀ p∈before,p.block<W.heap.size:=fun p hp=>hW.lt p hp
 obtain⟨p,q,hA,hV,hpq,hfz,hnd⟩:=hW
 rw [hvars] at hV
 have hgs:gs=[]/\q=[]:=trodVars_none hV
 obtain⟨rfl,rfl⟩:=hgs
 have hlen:=trodAll_length _ hA
 have hsp:=hspec ds (by rw [hlen];simp)
 have hb:before=p:=by rw [hpq];simp
 subst hb
 have hn:f.resultTypes.size=1:=by rw [hres];rfl
 have hlo:(Value.bool true).resultList f.resultTypes.size=[Value.bool true]:=by rw [hn];rfl
 have e0:ds++([]:List (DataW H))=ds:=List.append_nil _
 refine post_of_below (pa:=before) (pv:=[]) (ds:=ds) (gs:=[]) ⟨before,[],hA,by rw [hvars];exact hV,hpq,hfz,hnd⟩ ?_ ?_ ?_ hpq hx ?_
 · intro b sp hd
   rw [e0,hsp,hlo,hres]
   exact trodAll_cons_mk (shut_bool htb _) trodAll_mk0
 · intro sp hsp'
   rw [e0,hsp]
   exact trodAll_stays hl _ hr hA (fun p hp=>Below.same hx (hWlt p hp)) hsp'
 · intro sp _
   rw [e0,hsp,hvars]
   rfl
 · intro j t r ht hr'
   rw [hres] at ht
   rw [hlo] at hr'
   cases j with
   | zero =>
     obtain rfl:tb=t:=by simpa using ht
     obtain rfl:Value.bool true=r:=by simpa using hr'
     exact okWide_bool_mk htb _
   | succ j=>simp at ht
end
end Go.Proofs.YtiahgcaenneonaaDoor
namespace Go.Proofs.YtiahgcaenneonaaDoor
open Go.ChangeShapes Go.WideShapes Go.ChangeAt Go.RowKit Kv
theorem cell_lt {w:World}{a:Addr}{v:Value}(h:w.cell? a=some v):a.block<w.heap.size:=by
 rcases Nat.lt_or_ge a.block w.heap.size with hlt | hge
 · exact hlt
 · simp [World.cell?,Array.getElem?_eq_none hge] at h
abbrev Four:=Nat × Nat × Nat × Nat
def fourVals (q:Four):List Value:=[.int .u8 (q.1:Int),.int .u8 (q.2.1:Int),.int .u8 (q.2.2.1:Int),.int .u8 (q.2.2.2:Int)]
def FoursIn (w:World) (A:Option Addr) (l:List Four):Prop:=l≠[]->∃ b off,A=some ⟨b,off,none⟩/\b<w.heap.size/\∀ i q,l[i]?=some q ->
 w.cell? ⟨b,off+i*4,none⟩=some (.int .u8 (q.1:Int))/\w.cell? ⟨b,off+i*4+1,none⟩=some (.int .u8 (q.2.1:Int))/\w.cell? ⟨b,off+i*4+2,none⟩=some (.int .u8 (q.2.2.1:Int))/\w.cell? ⟨b,off+i*4+3,none⟩=some (.int .u8 (q.2.2.2:Int))
theorem FoursIn.ext {w w':World}{A:Option Addr}{l:List Four}(h:FoursIn w A l)(hx:Ext w w'):FoursIn w' A l:=fun hl=>by
 obtain⟨b,off,e,hb,hc⟩:=h hl
 refine⟨b,off,e,Nat.lt_of_lt_of_le hb hx.size,fun i q hi=>?_⟩
 obtain⟨h0,h1,h2,h3⟩:=hc i q hi
 exact⟨(hx.cell (p:=⟨b,_,none⟩) hb).trans h0,(hx.cell (p:=⟨b,_,none⟩) hb).trans h1,(hx.cell (p:=⟨b,_,none⟩) hb).trans h2,(hx.cell (p:=⟨b,_,none⟩) hb).trans h3⟩
theorem cellsFour:Tryd.prog.cellsOf 26=4:=by kernel_rfl
theorem cellsU8':Tryd.prog.cellsOf 5=1:=by kernel_rfl
set_option maxRecDepth 100000 in
theorem four_cells {H:Type}{enc:TypeId × Value->H}{W:World}{base:Nat}{sp:Nat->Bool}{held:Bool}{fuel:Nat}{cs:List Value}{x:DataW H × List MemPlace}(h:DataW.trod enc Tryd.prog W base sp held fuel 26 cs=some x) :
  ∃ q:Four,cs=fourVals q/\q.1<256/\q.2.1<256/\q.2.2.1<256/\q.2.2.2<256:=by
 obtain⟨xs,n,hs,_,hlen,hxl,hf⟩:=DataW.trod_array Tryd.underlying26 h
 rw [cellsFour] at hlen
 rw [cellsU8'] at hf
 match cs,hlen with
 | [c0,c1,c2,c3],_ =>
   match xs,hxl with
   | [y0,y1,y2,y3],_ =>
     have g0:DataW.trod enc Tryd.prog W base sp held n 5 [c0]=some y0:=hf 0 (by omega)
     have g1:DataW.trod enc Tryd.prog W base sp held n 5 [c1]=some y1:=hf 1 (by omega)
     have g2:DataW.trod enc Tryd.prog W base sp held n 5 [c2]=some y2:=hf 2 (by omega)
     have g3:DataW.trod enc Tryd.prog W base sp held n 5 [c3]=some y3:=hf 3 (by omega)
     obtain⟨a0,e0,_,w0⟩:=DataW.trod_int Tryd.underlying5 g0
     obtain⟨a1,e1,_,w1⟩:=DataW.trod_int Tryd.underlying5 g1
     obtain⟨a2,e2,_,w2⟩:=DataW.trod_int Tryd.underlying5 g2
     obtain⟨a3,e3,_,w3⟩:=DataW.trod_int Tryd.underlying5 g3
     have b0:=bounds_u8 w0
     have b1:=bounds_u8 w1
     have b2:=bounds_u8 w2
     have b3:=bounds_u8 w3
     simp only [List.cons.injEq,and_true] at e0 e1 e2 e3
     subst e0 e1 e2 e3
     refine⟨(a0.toNat,a1.toNat,a2.toNat,a3.toNat),?_,by dsimp only;omega,by dsimp only;omega,by dsimp only;omega,by dsimp only;omega⟩
     unfold fourVals
     dsimp only
     rw [Int.toNat_of_nonneg b0.1,Int.toNat_of_nonneg b1.1,Int.toNat_of_nonneg b2.1,Int.toNat_of_nonneg b3.1]
def fourOk (q:Four):Prop:=q.1<256/\q.2.1<256/\q.2.2.1<256/\q.2.2.2<256
set_option maxRecDepth 100000 in
theorem fours_arg {H:Type}{enc:TypeId × Value->H}{W:World}{b0:Nat}{r:Reach}{v:Value}{d:DataW H}{p:List MemPlace}
  (hv:Value.okWide Tryd.prog W r b0 22 v)(h:DataW.Trod enc Tryd.prog W 0 (fun _=>true) true 22 v d p) :
  ∃ l A c,v=.slice A (l:List Four).length c/\FoursIn W A l/\(∀ q∈l,fourOk q)/\l.length<=9223372036854775807:=by
 obtain⟨a0,len,cap,rfl⟩:=okWide_slice Tryd.underlying22 hv
 obtain⟨fuel,hf⟩:=h
 rcases Deep.open_slice Tryd.underlying22 hf with⟨hcs,hx⟩ | ⟨a,len',cap',m,n,D,Pl,hcs,_,hl,hm,hmm,hx,hcell⟩
 · simp [Value.cells] at hcs
   obtain⟨rfl,rfl,rfl⟩:=hcs
   exact⟨[],none,0,rfl,fun h=>absurd rfl h,by simp,by simp⟩
 · simp [Value.cells] at hcs
   obtain⟨rfl,rfl,rfl⟩:=hcs
   simp only [if_true] at hmm
   have each:∀ i,i<len->∃ q:Four,(W.cells? 0 (a.add (i*4)) 4=some (fourVals q))/\fourOk q:=fun i hi=>by
    obtain⟨cs',h1,h2⟩:=hcell i (by omega)
    rw [cellsFour] at h1
    obtain⟨q,rfl,hq⟩:=four_cells h2
    exact⟨q,h1,hq⟩
   obtain⟨f,hf2⟩:=Deep.choose_lt each
   refine⟨(List.range len).map f,some a,cap,by simp,fun hne=>?_,fun q hq=>?_,by simp;unfold maxLen at hm;omega⟩
   · have hpos:0<len:=by
      rcases Nat.eq_zero_or_pos len with h0 | h0
      · subst h0;simp at hne
      · exact h0
     obtain⟨b,off,spot⟩:=a
     have hcells:∀ i,i<len->∀ k,k<4->W.cell? ((⟨b,off,spot⟩:Addr).add (i*4+k))=(fourVals (f i))[k]?:=fun i hi k hk=>by
      have:=(World.cells?_some (hf2 i hi).1).2.2 k hk
      rw [Deep.add_add] at this
      exact this
     have hspot:spot=none:=by simpa [Addr.add] using World.cell?_spot (hcells 0 hpos 0 (by omega))
     subst hspot
     have hcl:=hcells 0 hpos 0 (by omega)
     rw [Go.WideShapes.add_plain] at hcl
     refine⟨b,off,rfl,cell_lt (a:=⟨b,off+(0*4+0),none⟩) hcl,fun i q hi=>?_⟩
     have hil:i<len:=by
      have:=(List.getElem?_eq_some_iff.1 hi).1
      simpa using this
     rw [List.getElem?_map,List.getElem?_range hil] at hi
     obtain rfl:f i=q:=by simpa using hi
     have q0:=hcells i hil 0 (by omega)
     have q1:=hcells i hil 1 (by omega)
     have q2:=hcells i hil 2 (by omega)
     have q3:=hcells i hil 3 (by omega)
     rw [Go.WideShapes.add_plain] at q0 q1 q2 q3
     exact⟨q0,q1,q2,q3⟩
   · obtain⟨i,hi,rfl⟩:=List.mem_map.1 hq
     exact (hf2 i (by simpa using hi)).2
theorem info_op:(Tryd.prog.info? 28).map (fun i=>(i.zero,i.size,i.bytes))=some (some (.agg #[.int .i64 0,.int .i64 0,.bool false,.int .i64 0,.int .i64 0]),5,40):=by kernel_rfl
def OpRow (w:World) (base:Nat) (v:Value) (l:List SOp):Prop:=w.ownsRow base 28 5 v l.length (l.flatMap opVals)
theorem OpRow.ext {w w':World}{base:Nat}{v:Value}{l:List SOp}(h:OpRow w base v l)(hx:Ext w w'):OpRow w' base v l:=row_ext h hx
theorem OpRow.ops {w:World}{base:Nat}{v:Value}{l:List SOp}(h:OpRow w base v l):∃ A c,v=.slice A l.length c/\OpsV w A l:=by
 obtain⟨A,c,e,_,_,hv⟩:=vals_row h
 exact⟨A,c,e,hv⟩
theorem append_op {ops:Array Oper}{rest:List Oper}{o:Oper}{a:Act}{Q:Exit->Act->World->Prop}{w:World}(hgd:o.guard=none)(s x:Operand)
  (ho:o.op=.call { callee:=.builtin .append,args:=#[s,x],argTypes:=#[24,24] })
  (base:Nat)(v:Value)(l:List SOp)(y:SOp)(hown:OpRow w base v l)(hs:a.eval s=v)(hx:a.eval x=.slice (some ⟨w.heap.size,0,none⟩) 1 1)
  (hlen:l.length<1000000000)(hbase:base<=w.heap.size)
  (h:∀ v' w',OpRow w' base v' (l++[y])->(w.alloc (.cells #[.int .i64 y.fr,.int .i64 y.te,.bool y.wr,.int .i64 y.val,.int .i64 y.th] 28)).grownBy w' v.ownBlock->wpList Tryd.prog ops Q rest (a.put o.dst v') w') :
  wpList Tryd.prog ops Q (o :: rest) a (w.alloc (.cells #[.int .i64 y.fr,.int .i64 y.te,.bool y.wr,.int .i64 y.val,.int .i64 y.th] 28)):=by
 obtain⟨i0,hi,hz0,hz1,hz2⟩:=info_parts info_op
 refine wpList_append_own _ hgd s x 24 ho base 28 i0 _ 5 40 Tryd.underlying24 hi hz0 hz1 hz2 rfl (by decide) v l.length _ hs (World.ownsRow.alloc hown _) ⟨w.heap.size,0,none⟩ 1 1 (opVals y) hx rfl (fun j u hu=>by
  rw [Addr.add_lit,Nat.zero_add]
  exact ((Blk.new w (.cells #[.int .i64 y.fr,.int .i64 y.te,.bool y.wr,.int .i64 y.val,.int .i64 y.th] 28)).cells j).trans (by simpa [opVals] using hu)) (by simp [opVals,Value.oneCell']) (by unfold maxLen;omega) (by omega) (by simp;omega) fun v' w' h1 h2 _=>?_
 refine h v' w' ?_ h2
 unfold OpRow
 rw [List.length_append,List.flatMap_append]
 simpa using h1
theorem OpRow.appended {w wr w':World}{v:Value}{l:List SOp}{o:Obj}(h:Ext w wr)(hown:OpRow wr w.heap.size v l)(hg:(wr.alloc o).grownBy w' v.ownBlock):Ext w w':=by
 refine Below.grown (Below.alloc h h.size o) hg (by have:=h.size;simp;omega) fun k hk=>?_
 obtain⟨_,h2⟩:=hown
 rcases h2 with⟨rfl,_⟩ | ⟨g,cap,cur,rfl,hgb,_⟩
 · simp [Value.ownBlock] at hk
 · simp [Value.ownBlock] at hk
   omega
end Go.Proofs.YtiahgcaenneonaaDoor
