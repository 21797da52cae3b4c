/-
  SnaplinMade holds: a history that was made in some order has one: each operation is done at a moment between its beginning and its end, in any order of these moments, without conditions.
-/
import Derived.Test.YtiahgcaenneonaaDoorJSnaplinMadeSaid1
import Derived.Laws.MakeOwn
import Derived.Test.YtiahgcaenneonaaDoorCards
import Derived.Test.YtiahgcaenneonaaDoorTie
import Derived.ProofKit
import Derived.OpenShut
import Derived.Deep.DeepHandedRow
namespace Kv
theorem mk_op (l:List (Nat × Nat × Nat × Nat)):∀ o∈(mk l).1,opOk 4 o=true/\o.th<4/\(o.wr=true->o.val<4):=fun o ho=>by
 obtain⟨i,hi⟩:=List.getElem?_of_mem ho
 have hl:=mk_len l l.length (Nat.le_refl _)
 rw [List.take_length] at hl
 have hil:i<l.length:=by
  rw [<- hl]
  exact (List.getElem?_eq_some_iff.1 hi).1
 obtain⟨q,hq⟩:∃ q,l[i]?=some q:=⟨_,List.getElem?_eq_getElem hil⟩
 rw [mk_at l hq] at hi
 injection hi with hi
 have hd:=mk_digit l i (by omega)
 have h0:=hd 0
 have h1:=hd 1
 have h2:=hd 2
 have h3:=hd 3
 subst hi
 unfold mkOp opOk viewN
 dsimp only
 by_cases hw:q.2.2.1 % 2=0
 · simp [hw]
   omega
 · simp [hw]
   omega
theorem mk_all (l:List (Nat × Nat × Nat × Nat)):(mk l).1.all (opOk 4)=true:=List.all_eq_true.2 fun o ho=>(mk_op l o ho).1
end Kv
namespace Go.Proofs.YtiahgcaenneonaaDoor
open Go.RowKit Kv
def haves (f:Nat->Nat):Array Value:=#[.int .i64 (f 0:Nat),.int .i64 (f 1:Nat),.int .i64 (f 2:Nat),.int .i64 (f 3:Nat)]
theorem grownBy_set (W:World)(b i:Nat)(v:Value):W.grownBy (W.setCell ⟨b,i,none⟩ v) (some b) :=
 ⟨rfl,rfl,rfl,(KeepsWalks.setCell W _ v).size,fun k _ hk=>Below.heap_setCell _ _ _ k (fun e=>hk (by rw [e]))⟩
theorem OpRow.other {W:World}{base b i:Nat}{x:Value}{l:List SOp}{cur:Array Value}(h:OpRow W base x l)(hb:Blk W b (.cells cur 3))(v:Value):OpRow (W.setCell ⟨b,i,none⟩ v) base x l:=by
 refine World.ownsRow.kept h (grownBy_set W b i v) (.inr fun e=>?_)
 rcases h.2 with⟨rfl,_⟩ | ⟨g,cap,cur2,rfl,_,hg,_⟩
 · simp [Value.ownBlock] at e
 · obtain rfl:g=b:=by simpa [Value.ownBlock] using e
   have:=(show W.heap[g]?=_ from hb).symm.trans hg
   simp at this
theorem OpRow.other2 {W:World}{base b i:Nat}{x:Value}{l:List SOp}(h:OpRow W base x l)(hb:∀ g,x.ownBlock=some g->g≠b)(v:Value):OpRow (W.setCell ⟨b,i,none⟩ v) base x l :=
 World.ownsRow.kept h (grownBy_set W b i v) (.inr fun e=>hb b e rfl)
theorem haves_ints {W:World}{b:Nat}{f:Nat->Nat}(h:Blk W b (.cells (haves f) 3)):Ints W (.slice (some ⟨b,0,none⟩) 4 4) [(f 0:Nat),(f 1:Nat),(f 2:Nat),(f 3:Nat)]:=ints_of_blk [((f 0:Nat):Int),(f 1:Nat),(f 2:Nat),(f 3:Nat)] (by simp) h
theorem view_haves {W:World}{b:Nat}{f:Nat->Nat}(h:Blk W b (.cells (haves f) 3))(hf:∀ t,f t<4):Calls Tryd.prog 9 #[.slice (some ⟨b,0,none⟩) 4 4] W fun e w'=>e=.returned (.int .i64 (viewN (f 0) (f 1) (f 2) (f 3):Nat))/\W=w':=by
 have hv:=view_p (some ⟨b,0,none⟩) _ 4 4 (fun i=>([f 0,f 1,f 2,f 3].map fun x:Nat=>(x:Int)).getD i 0) W (haves_ints h) rfl (by omega) (by omega) (fun i x hi=>by rw [List.getD_eq_getElem?_getD];simp only [List.map_cons,List.map_nil];rw [hi];rfl)
 rw [viewT_four (f 0) (f 1) (f 2) (f 3) (hf 0) (hf 1) (hf 2) (hf 3) _ rfl rfl rfl rfl] at hv
 exact hv
theorem haves_put (f:Nat->Nat){t:Nat}(ht:t<4)(x:Nat):(haves f).setIfInBounds t (.int .i64 (x:Nat))=haves fun s=>if s=t then x else f s:=by
 have:t=0∨t=1∨t=2∨t=3:=by omega
 rcases this with rfl | rfl | rfl | rfl <;> rfl
theorem haves_at (f:Nat->Nat){t:Nat}(ht:t<4):(haves f)[t]?=some (.int .i64 (f t:Nat)):=by
 have:t=0∨t=1∨t=2∨t=3:=by omega
 rcases this with rfl | rfl | rfl | rfl <;> rfl
theorem make_four (w:World):(Instr.makeSlice 25 (.int .i64 4) (.int .i64 4)).run Tryd.prog w=.ok (.slice (some ⟨w.heap.size,0,none⟩) 4 4) (w.alloc (.cells #[.int .i64 0,.int .i64 0,.int .i64 0,.int .i64 0] 3)):=by
 obtain⟨i0,hi,hz0,hz1,hz2⟩:=info_parts info_int
 have hr:=run_makeSlice (P:=Tryd.prog) w 25 3 i0 (.int .i64 0) Tryd.underlying25 hi hz0 .i64 .i64 4 4 (by omega) (by omega) (by rw [hz1];decide) (by rw [hz2];decide) (by omega)
 rw [hz1] at hr
 rw [hr]
 have e:madeCells (Value.int .i64 0).cells 4=#[.int .i64 0,.int .i64 0,.int .i64 0,.int .i64 0]:=by
  apply Array.ext'
  simp [madeCells,Value.cells]
  rfl
 exact congrArg (fun c=>Result.ok (Value.slice (some ⟨w.heap.size,0,none⟩) 4 4) (w.alloc (.cells c 3))) e
set_option maxRecDepth 100000 in
set_option maxHeartbeats 4000000 in
theorem sl_walk (A:Option Addr)(c:Nat)(l:List Four)(w:World)(hl:FoursIn w A l)(hln:l.length<=9223372036854775807)(hb:∀ q∈l,fourOk q)(T:Tabs w) :
  Calls Tryd.prog 3 #[.slice A l.length c] w fun e w'=>e=.returned (.bool true)/\Ext w w':=by
 by_cases h1:l.length<=14
 rotate_left
 · have d1:decide ((14:Int)<(l.length:Int))=true:=by rw [decide_eq_true_eq];omega
   clear hl hb
   go_enter Tryd.func3,Tryd.ntmps3
   go_wp2_with fail
   refine (alive52 _ T).mono ?_
   rintro e w2 ⟨rfl,hx⟩
   have hf:=Lib.hid hx
   clear hx
   go_wp2_with fail
   go_ret
   exact⟨rfl,hf.out⟩
 have d1:decide ((14:Int)<(l.length:Int))=false:=by rw [decide_eq_false_iff_not];omega
 have hlh:=Lib.hid hl
 have hbh:=Lib.hid hb
 have hTh:=Lib.hid T
 have hmk:=make_four w
 have hk0:Blk (w.alloc (.cells #[.int .i64 0,.int .i64 0,.int .i64 0,.int .i64 0] 3)) w.heap.size (.cells (haves fun _=>0) 3):=Blk.new w _
 have hx0:=(Ext.refl w).alloc (.cells #[.int .i64 0,.int .i64 0,.int .i64 0,.int .i64 0] 3)
 clear hl hb T
 go_enter Tryd.func3,Tryd.ntmps3
 go_wp2_with fail
 generalize World.alloc w _=W0 at *
 obtain⟨bh,hbh2⟩:∃ b,b=w.heap.size:=⟨_,rfl⟩
 have hge:=Lib.hid (show w.heap.size<=bh by omega)
 rw [<- hbh2] at hk0 ⊢
 clear hbh2 hmk
 have hst:=Lib.hid (And.intro hk0 hx0)
 clear hk0 hx0
 go_loopw [3,5] (fun a3 a5 wr=>∃ j:Nat,a5=.int .i64 j/\j<=l.length/\OpRow wr w.heap.size a3 (mk (l.take j)).1/\Hid (Blk wr bh (.cells (haves (mk (l.take j)).2) 3)/\Ext w wr)) (fun _ a5 _=>l.length-(intOf a5).toNat)
 case atStart=>exact⟨0,rfl,by omega,⟨rfl,.inl ⟨rfl,rfl⟩⟩,hst⟩
 case round =>
  clear hst
  obtain⟨j,rfl,hj,hrow,hR⟩:=hrel
  obtain⟨Ah,ch,e,hov⟩:=hrow.ops
  have hlj:=mk_len l j hj
  rw [hlj] at e
  subst e
  by_cases hjl:j<l.length
  rotate_left
  · have dj:decide ((j:Int)<(l.length:Int))=false:=by rw [decide_eq_false_iff_not];omega
    have ej:j=l.length:=by omega
    have et:l.take j=l:=by rw [ej,List.take_length]
    have hx:=Lib.hid hR.out.2
    have hmo:=mk_op l
    have hma:=mk_all l
    obtain⟨p0,hc0⟩:=mk_comp l l.length 0 (by omega)
    rw [List.take_zero] at hc0
    have hc1:comp (mk l).1 0 0 p0:=hc0
    clear hc0
    rw [et] at hov hlj
    clear hrow hR et
    generalize (mk l).1=hs at *
    have hsl:hs.length<=14:=by omega
    have hslh:=Lib.hid hsl
    have hsf:FineL hs->Hid (∀ W,Ext wr W->Calls Tryd.prog 39 #[.slice Ah j ch,.int .i64 4] W fun e w'=>e=.returned (.bool true)/\Ext W w'):=fun hF=>Lib.hid fun W hW=>by
     have:=sfine4_p Ah ch hs W (op_ext hov hW) (by omega) hF
     rw [hma,hlj] at this
     exact this
    have hrf:=rfine_p Ah ch hs wr hov (by omega)
    rw [hlj] at hrf
    have hovh:=Lib.hid hov
    have hmoh:=Lib.hid hmo
    have hsfh:=Lib.hid hsf
    have hch:=Lib.hid hc1
    have hljh:=Lib.hid hlj
    clear hov hmo hsf hc1 hlj hma ej hsl
    go_wp2_with fail
    refine hrf.mono ?_
    rintro e W1 ⟨b,rfl,hbF,hx1⟩
    have hx1h:=Lib.hid hx1
    clear hx1 hrf
    cases b with
    | false =>
      clear hbF
      have hT1:=hTh.out.ext (hx.out.trans hx1h.out)
      go_wp2_with fail
      refine (alive52 _ hT1).mono ?_
      rintro e w2 ⟨rfl,hx2⟩
      have hf:=Lib.hid ((hx.out.trans hx1h.out).trans hx2)
      clear hx2 hT1
      go_wp2_with fail
      go_ret
      exact⟨rfl,hf.out⟩
    | true =>
      have hF:=hbF rfl
      have hsf2:=hsfh.out hF
      clear hbF hsfh
      have hhas:=has52_p Ah ch hs 4 true W1 (op_ext hovh.out hx1h.out) hslh.out (hTh.out.ext (hx.out.trans hx1h.out)) (fun _ o ho=>(hmoh.out o ho).2) (fun W hW=>by rw [hljh.out];exact hsf2.out W (hx1h.out.trans hW))
      rw [hljh.out] at hhas
      go_wp2_with fail
      refine hhas.mono ?_
      clear hhas
      rintro e W2 ⟨hx2,⟨hb,_⟩ | ⟨_,⟨hd,_⟩ | ⟨_,rfl⟩⟩⟩
      · cases hb
      · exact absurd hch.out (hd _)
      have hx2h:=Lib.hid (hx1h.out.trans hx2)
      clear hx2 hx1h
      have hfind:=find52_p Ah ch hs 4 true W2 (op_ext hovh.out hx2h.out) hslh.out (hTh.out.ext (hx.out.trans hx2h.out)) (fun _ o ho=>(hmoh.out o ho).2) (fun W hW=>by rw [hljh.out];exact hsf2.out W (hx2h.out.trans hW))
      rw [hljh.out] at hfind
      go_wp2_with fail
      refine hfind.mono ?_
      clear hfind
      rintro e W3 ⟨hx3,⟨hb,_⟩ | ⟨_,⟨hd,_⟩ | ⟨v,p,rfl,hp,hr⟩⟩⟩
      · cases hb
      · exact absurd hch.out (hd _)
      have hi:=IntRow.ints hr
      obtain⟨Av,cv,rfl,_,_⟩:=hi.slice
      rw [intsN_len] at hi ⊢
      have hx3h:=Lib.hid (hx2h.out.trans hx3)
      clear hr hx3 hx2h
      have hright:=right_p Ah ch hs 4 Av cv p W3 (op_ext hovh.out hx3h.out) hslh.out hi hp (fun o ho=>(hmoh.out o ho).2) (fun W hW=>by rw [hljh.out];exact hsf2.out W (hx3h.out.trans hW))
      rw [hljh.out] at hright
      clear hi hp
      go_wp2_with fail
      refine hright.mono ?_
      clear hright
      rintro e W4 ⟨rfl,hx4⟩
      have hx4h:=Lib.hid (hx.out.trans (hx3h.out.trans hx4))
      clear hx4 hx3h hx
      have hT4:=hTh.out.ext hx4h.out
      go_wp2_with fail
      refine (alive52 _ hT4).mono ?_
      rintro e w2 ⟨rfl,hx2⟩
      have hf:=Lib.hid (hx4h.out.trans hx2)
      clear hx2 hT4
      go_wp2_with fail
      go_ret
      exact⟨rfl,hf.out⟩
  have dj:decide ((j:Int)<(l.length:Int))=true:=by rw [decide_eq_true_eq];omega
  obtain⟨q,hq⟩:∃ q,l[j]?=some q:=⟨_,List.getElem?_eq_getElem hjl⟩
  have hqo:=hbh.out q (List.mem_of_getElem? hq)
  obtain⟨b,off,rfl,hbl,hcell⟩:=(hlh.out.ext hR.out.2) (by rintro rfl;simp at hjl)
  obtain⟨c0,c1,c2,c3⟩:=hcell j q hq
  have htk:=Lib.hid (mk_take l hq)
  obtain⟨q0,q1,q2,q3⟩:=q
  obtain⟨z0,z1,z2,z3⟩:=hqo
  dsimp only at c0 c1 c2 c3 z0 z1 z2 z3
  clear hcell hq
  obtain⟨t,ht⟩:∃ t,t=q3 % 4:=⟨_,rfl⟩
  obtain⟨a0,ha0⟩:∃ t,t=q0 % 18:=⟨_,rfl⟩
  obtain⟨a1,ha1⟩:∃ t,t=q1 % 18:=⟨_,rfl⟩
  obtain⟨a2,ha2⟩:∃ t,t=q2 % 2:=⟨_,rfl⟩
  obtain⟨at_,hat⟩:∃ t,t=20*(j+1):=⟨_,rfl⟩
  obtain⟨fr,hfr⟩:∃ t,t=at_-a0:=⟨_,rfl⟩
  obtain⟨te,hte⟩:∃ t,t=at_+a1:=⟨_,rfl⟩
  obtain⟨B,hB⟩:∃ t,t=decide (a2=0):=⟨_,rfl⟩
  have m3:((q3:Nat):Int).tmod 4=(t:Int):=by rw [ht];rfl
  have m0:((q0:Nat):Int).tmod 18=(a0:Int):=by rw [ha0];rfl
  have m1:((q1:Nat):Int).tmod 18=(a1:Int):=by rw [ha1];rfl
  have m2:((q2:Nat):Int).tmod 2=(a2:Int):=by rw [ha2];rfl
  have mat:(20:Int)*((j:Int)+1)=(at_:Int):=by rw [hat];push_cast;rfl
  have mfr:(at_:Int)-(a0:Int)=(fr:Int):=by omega
  have mte:(at_:Int)+(a1:Int)=(te:Int):=by omega
  have mB:((a2:Int)==0)=B:=by rw [hB,Bool.eq_iff_iff];simp
  have w3:=IntWalk.i64_in ((q3:Nat):Int) (by omega)
  have w0:=IntWalk.i64_in ((a0:Nat):Int) (by omega)
  have w1:=IntWalk.i64_in ((a1:Nat):Int) (by omega)
  have wf:=IntWalk.i64_in ((fr:Nat):Int) (by omega)
  have wt:=IntWalk.i64_in ((te:Nat):Int) (by omega)
  have hpk:=Lib.hid (And.intro ht (And.intro ha0 (And.intro ha1 (And.intro ha2 (And.intro hat (And.intro hfr (And.intro hte hB)))))))
  have ht4:t<4:=by omega
  have hji:(j:Int)<(l.length:Int):=by omega
  clear ht ha0 ha1 ha2 hat hfr hte hB
  go_upto_region 10 with fail
  have hSx:Hid (∀ W,Ext wr W->W.cell? ⟨b,off+j*4,none⟩=some (.int .u8 (q0:Int))/\W.cell? ⟨b,off+j*4+1,none⟩=some (.int .u8 (q1:Int))/\W.cell? ⟨b,off+j*4+2,none⟩=some (.int .u8 (q2:Int))):=Lib.hid fun W h=>⟨(h.cell (p:=⟨b,_,none⟩) hbl).trans c0,(h.cell (p:=⟨b,_,none⟩) hbl).trans c1,(h.cell (p:=⟨b,_,none⟩) hbl).trans c2⟩
  have hE0:=(Ext.refl wr).drew
  have hS:=hSx.out _ hE0
  refine wp_region_held_drew (S:=fun W=>W.cell? ⟨b,off+j*4,none⟩=some (.int .u8 (q0:Int))/\W.cell? ⟨b,off+j*4+1,none⟩=some (.int .u8 (q1:Int))/\W.cell? ⟨b,off+j*4+2,none⟩=some (.int .u8 (q2:Int))) rfl hS (fun hHeld=>?_)
  refine tkb 0 ?_
  iterate 27
   refine tkn (v:=?_) rfl (by kernel_rfl) (fun _ _ _ h=>h) (by assumption) ?_ ?_
   rotate_left
   · (intro w hSw;(try dsimp only at hSw);go_simp;try with_reducible rfl)
   try simp only [put_pack]
  refine tke ?_
  refine wpAnyH_ready (rs:=[27]) (by kernel_rfl) (by simp) ?_
  refine AllReadyH.cons rfl (fun K hKK=>?_) (AllReadyH.nil)
  go_simp
  refine hKK.out _ _ (hSx.out _ (((Ext.refl wr).alloc (.cells #[.int .i64 0,.int .i64 0,.bool false,.int .i64 0,.int .i64 0] 28)).drew)) (fun hHeld=>?_)
  clear hKK K
  try dsimp only
  have k8:=(Blk.new wr (.cells #[.int .i64 0,.int .i64 0,.bool false,.int .i64 0,.int .i64 0] 28)).drew
  have hx8:=((Ext.refl wr).alloc (.cells #[.int .i64 0,.int .i64 0,.bool false,.int .i64 0,.int .i64 0] 28)).drew
  have hszw:=hR.out.2.size
  have hbhl:=hR.out.1.lt
  generalize World.drew (World.alloc wr _)=W2 at *
  obtain⟨b8,hb8⟩:∃ b,b=wr.heap.size:=⟨_,rfl⟩
  have hb8h:=Lib.hid hb8
  rw [<- hb8] at k8 ⊢
  clear hb8
  have c80:=k8.cells 0
  have c81:=k8.cells 1
  have c82:=k8.cells 2
  have c83:=k8.cells 3
  have c84:=k8.cells 4
  have f80:=frozen_of_heap k8 0
  have f81:=frozen_of_heap k8 1
  have f82:=frozen_of_heap k8 2
  have f83:=frozen_of_heap k8 3
  have f84:=frozen_of_heap k8 4
  refine wpAnyH_ready (rs:=[28]) (by kernel_rfl) (by simp) ?_
  refine AllReadyH.cons rfl (fun K hKK=>?_) (AllReadyH.nil)
  go_simp
  have k9a:=heap_setCell (i:=0) k8 (.int .i64 fr)
  have k9b:=heap_setCell (i:=1) k9a (.int .i64 te)
  have k9c:=heap_setCell (i:=2) k9b (.bool B)
  have k9d:=heap_setCell (i:=3) k9c (.int .i64 0)
  have k9e:=heap_setCell (i:=4) k9d (.int .i64 t)
  have hle8:wr.heap.size<=b8:=by have:=hb8h.out;omega
  have hx9:=((((hx8.setCell (p:=⟨b8,0,none⟩) hle8 (.int .i64 fr)).setCell (p:=⟨b8,1,none⟩) hle8 (.int .i64 te)).setCell (p:=⟨b8,2,none⟩) hle8 (.bool B)).setCell (p:=⟨b8,3,none⟩) hle8 (.int .i64 0)).setCell (p:=⟨b8,4,none⟩) hle8 (.int .i64 t)
  refine hKK.out _ _ (hSx.out _ hx9) (fun hHeld=>?_)
  clear hKK K k9a k9b k9c k9d k8 c80 c81 c82 c83 c84 f80 f81 f82 f83 f84 hS hE0 hx8
  try dsimp only
  generalize World.setCell (World.setCell (World.setCell (World.setCell (World.setCell W2 _ _) _ _) _ _) _ _) _ _=W3 at *
  have k9:Blk W3 b8 (.cells #[.int .i64 fr,.int .i64 te,.bool B,.int .i64 0,.int .i64 t] 28):=k9e
  clear k9e
  refine wpAnyH_done (by kernel_rfl) ?_ _
  go_simp
  have hS3:=hSx.out _ hx9
  have hrow9:=hrow.ext hx9
  have kh9:=hR.out.1.ext hx9
  have hxw9:=hR.out.2.trans hx9
  have hne8:b8≠bh:=by have:=hb8h.out;omega
  have hge8:w.heap.size<=b8:=by omega
  have hge:=hge.out
  have hrg:∀ g,(Value.slice Ah j ch).ownBlock=some g->g≠b8:=fun g hg=>by have:=(World.ownsRow.lt (show World.ownsRow _ _ _ _ _ _ _ from hrow) g hg).2;omega
  clear hSx hx9 hrow hR hov c0 c1 c2 c3 hHeld
  have c82:=k9.cells 2
  cases B with
  | true =>
    obtain⟨a3,ha3⟩:∃ x,x=q2 / 2:=⟨_,rfl⟩
    obtain⟨a4,ha4⟩:∃ x,x=q2 / 2 % 4:=⟨_,rfl⟩
    have m5:((q2:Nat):Int).tdiv 2=(a3:Int):=by rw [ha3];rfl
    have m6:((a3:Nat):Int).tmod 4=(a4:Int):=by rw [ha3,ha4];rfl
    have m7:((a3:Nat):Int) % 4=(a4:Int):=by rw [ha3,ha4];rfl
    have w5:=IntWalk.i64_in ((a3:Nat):Int) (by omega)
    have hpk2:=Lib.hid ha4
    have cht:=(kh9.cells t).trans (haves_at _ ht4)
    have fht:=frozen_of_heap kh9 t
    have hti:(t:Int)<4:=by omega
    obtain⟨_,_,c22⟩:=hS3
    clear ha3 ha4
    go_upto_region 13 with fail
    have khw0:=heap_setCell (i:=t) kh9 (.int .i64 (a4:Nat))
    rw [haves_put _ ht4] at khw0
    have k9b:=k9.set5 (c:=bh) (i:=t) hne8 (.int .i64 (a4:Nat))
    have hrwb:=hrow9.other (i:=t) kh9 (.int .i64 (a4:Nat))
    have hxb:=hxw9.setCell (p:=⟨bh,t,none⟩) hge (.int .i64 (a4:Nat))
    clear kh9 k9 hrow9 hxw9 cht fht c22 c82
    generalize World.setCell W3 _ _=W4 at *
    have cht2:W4.cell? ⟨bh,t,none⟩=some (.int .i64 (a4:Nat)):=(Blk.cells khw0 t).trans (by rw [haves_at _ ht4,if_pos rfl])
    have c93:=k9b.cells 3
    have f93:=frozen_of_heap k9b 3
    go_upto_region 15 with fail
    have k9c:Blk (W4.setCell ⟨b8,3,none⟩ (.int .i64 (a4:Nat))) b8 (.cells #[.int .i64 fr,.int .i64 te,.bool true,.int .i64 (a4:Nat),.int .i64 t] 28):=heap_setCell (i:=3) k9b (.int .i64 (a4:Nat))
    have khw:=Blk.set5 (c:=b8) (i:=3) khw0 (Ne.symm hne8) (.int .i64 (a4:Nat))
    have hrw:=hrwb.other2 (i:=3) hrg (.int .i64 (a4:Nat))
    have hxw:=hxb.setCell (p:=⟨b8,3,none⟩) hge8 (.int .i64 (a4:Nat))
    clear khw0 k9b hrwb hxb cht2 c93 f93
    generalize World.setCell W4 _ _=W5 at *
    have hfin:Hid (∀ v' w',OpRow w' w.heap.size v' ((mk (l.take j)).1++[⟨fr,te,true,a4,t⟩])->(W5.alloc (.cells #[.int .i64 fr,.int .i64 te,.bool true,.int .i64 (a4:Nat),.int .i64 t] 28)).grownBy w' (Value.slice Ah j ch).ownBlock->OpRow w' w.heap.size v' (mk (l.take (j+1))).1/\Blk w' bh (.cells (haves (mk (l.take (j+1))).2) 3)/\Ext w w'):=Lib.hid fun v' w' hr hg=>by
     refine⟨?_,?_,OpRow.appended hxw hrw hg⟩
     · rw [htk.out]
       have e:mkOp (mk (l.take j)).1.length (mk (l.take j)).2 (q0,q1,q2,q3)=⟨fr,te,true,a4,t⟩:=by
        obtain⟨g1,g2,g3,g4,g5,g6,g7,g8⟩:=hpk.out
        rw [hlj]
        unfold mkOp
        simp only [SOp.mk.injEq]
        have hq:q2 % 2=0:=by
         have:=of_decide_eq_true g8.symm
         omega
        refine⟨by omega,by omega,by simp [hq],by rw [if_pos hq];exact hpk2.out.symm,by omega⟩
       rw [e]
       exact hr
     · rw [htk.out]
       have hb:=(hg.block bh (by have:=khw.lt;simp;omega) (fun e=>by
        rcases hrw.2 with⟨e2,_⟩ | ⟨g,cap,cur2,e2,_,hg2,_⟩
        · rw [e2] at e
          simp [Value.ownBlock] at e
        · rw [e2] at e
          obtain rfl:bh=g:=by simpa [Value.ownBlock] using e
          have:=(show (W5.heap)[bh]?=_ from khw).symm.trans hg2
          simp at this)).trans (khw.alloc _)
       have e:mkHave (mk (l.take j)).2 (q0,q1,q2,q3)=fun s=>if s=t then a4 else (mk (l.take j)).2 s:=by
        obtain⟨g1,g2,g3,g4,g5,g6,g7,g8⟩:=hpk.out
        funext s
        unfold mkHave
        dsimp only
        have hq:q2 % 2=0:=by
         have:=of_decide_eq_true g8.symm
         omega
        rw [<- hpk2.out,<- g1]
        simp [hq]
       rw [e]
       exact hb
    have c90:=k9c.cells 0
    have c91:=k9c.cells 1
    have c92:=k9c.cells 2
    have c93:=k9c.cells 3
    have c94:=k9c.cells 4
    have hsz:=hxw.size
    have hjn:(mk (l.take j)).1.length<1000000000:=by rw [hlj];omega
    clear hpk hpk2 htk khw k9c hxw hrg
    go_wp2_with (at_builtin;refine append_op rfl _ _ rfl w.heap.size _ _ ⟨fr,te,true,a4,t⟩ hrw rfl rfl hjn hsz ?_)
    intro v' w' hown hgrow
    obtain⟨r1,r2,r3⟩:=hfin.out v' w' hown hgrow
    have hr:=Lib.hid (And.intro r2 r3)
    clear hown hgrow hfin r2 r3 hrw c90 c91 c92 c93 c94
    go_wp2_with fail
    refine⟨⟨j+1,by first | rfl | go_num,by omega,r1,hr⟩,?_⟩
    simp [intOf];omega
  | false =>
    have hd4:=mk_digit l j hj
    obtain⟨vv,hvv⟩:∃ x,x=viewN ((mk (l.take j)).2 0) ((mk (l.take j)).2 1) ((mk (l.take j)).2 2) ((mk (l.take j)).2 3):=⟨_,rfl⟩
    have hvc:=view_haves kh9 hd4
    rw [<- hvv] at hvc
    have hpk2:=Lib.hid hvv
    clear hvv hS3
    go_wp2_with fail
    refine hvc.mono ?_
    rintro e w' ⟨rfl,rfl⟩
    have c93:=k9.cells 3
    have f93:=frozen_of_heap k9 3
    clear hvc
    go_upto_region 15 with fail
    have k9c:Blk (W3.setCell ⟨b8,3,none⟩ (.int .i64 (vv:Nat))) b8 (.cells #[.int .i64 fr,.int .i64 te,.bool false,.int .i64 (vv:Nat),.int .i64 t] 28):=heap_setCell (i:=3) k9 (.int .i64 (vv:Nat))
    have khw:=kh9.set5 (c:=b8) (i:=3) (Ne.symm hne8) (.int .i64 (vv:Nat))
    have hrw:=hrow9.other2 (i:=3) hrg (.int .i64 (vv:Nat))
    have hxw:=hxw9.setCell (p:=⟨b8,3,none⟩) hge8 (.int .i64 (vv:Nat))
    clear kh9 k9 hrow9 hxw9 c93 f93 c82
    generalize World.setCell W3 _ _=W5 at *
    have hfin:Hid (∀ v' w',OpRow w' w.heap.size v' ((mk (l.take j)).1++[⟨fr,te,false,vv,t⟩])->(W5.alloc (.cells #[.int .i64 fr,.int .i64 te,.bool false,.int .i64 (vv:Nat),.int .i64 t] 28)).grownBy w' (Value.slice Ah j ch).ownBlock->OpRow w' w.heap.size v' (mk (l.take (j+1))).1/\Blk w' bh (.cells (haves (mk (l.take (j+1))).2) 3)/\Ext w w'):=Lib.hid fun v' w' hr hg=>by
     refine⟨?_,?_,OpRow.appended hxw hrw hg⟩
     · rw [htk.out]
       have e:mkOp (mk (l.take j)).1.length (mk (l.take j)).2 (q0,q1,q2,q3)=⟨fr,te,false,vv,t⟩:=by
        obtain⟨g1,g2,g3,g4,g5,g6,g7,g8⟩:=hpk.out
        rw [hlj]
        unfold mkOp
        simp only [SOp.mk.injEq]
        have hq:¬ q2 % 2=0:=by
         have:=of_decide_eq_false g8.symm
         omega
        refine⟨by omega,by omega,by simp [hq],by rw [if_neg hq];exact hpk2.out.symm,by omega⟩
       rw [e]
       exact hr
     · rw [htk.out]
       have hb:=(hg.block bh (by have:=khw.lt;simp;omega) (fun e=>by
        rcases hrw.2 with⟨e2,_⟩ | ⟨g,cap,cur2,e2,_,hg2,_⟩
        · rw [e2] at e
          simp [Value.ownBlock] at e
        · rw [e2] at e
          obtain rfl:bh=g:=by simpa [Value.ownBlock] using e
          have:=(show (W5.heap)[bh]?=_ from khw).symm.trans hg2
          simp at this)).trans (khw.alloc _)
       have e:mkHave (mk (l.take j)).2 (q0,q1,q2,q3)=(mk (l.take j)).2:=by
        obtain⟨g1,g2,g3,g4,g5,g6,g7,g8⟩:=hpk.out
        funext s
        unfold mkHave
        dsimp only
        have hq:¬ q2 % 2=0:=by
         have:=of_decide_eq_false g8.symm
         omega
        simp [hq]
       rw [e]
       exact hb
    have c90:=k9c.cells 0
    have c91:=k9c.cells 1
    have c92:=k9c.cells 2
    have c93:=k9c.cells 3
    have c94:=k9c.cells 4
    have hsz:=hxw.size
    have hjn:(mk (l.take j)).1.length<1000000000:=by rw [hlj];omega
    clear hpk hpk2 htk khw k9c hxw hrg
    go_wp2_with (at_builtin;refine append_op rfl _ _ rfl w.heap.size _ _ ⟨fr,te,false,vv,t⟩ hrw rfl rfl hjn hsz ?_)
    intro v' w' hown hgrow
    obtain⟨r1,r2,r3⟩:=hfin.out v' w' hown hgrow
    have hr:=Lib.hid (And.intro r2 r3)
    clear hown hgrow hfin r2 r3 hrw c90 c91 c92 c93 c94
    go_wp2_with fail
    refine⟨⟨j+1,by first | rfl | go_num,by omega,r1,hr⟩,?_⟩
    simp [intOf];omega
end Go.Proofs.YtiahgcaenneonaaDoor
namespace Go.Proofs.YtiahgcaenneonaaDoor
open Go.ChangeShapes Go.WideShapes Go.ChangeAt Go.RowKit
theorem gBr:Tryd.prog.globalNamed "math/bits.deBruijn64tab"=some 0:=by kernel_rfl
theorem gBrType:(Tryd.prog.globals[0]?).map (·.type)=some 170:=by kernel_rfl
theorem cellsBr:Tryd.prog.cellsOf 170=64:=by kernel_rfl
theorem own:ownKnob Tryd.prog.godebug=none:=by kernel_rfl
theorem tabs_of {W:World}(h:laidMetH Tryd.prog Rows.snaplinMadeRow.laid W):Tabs W :=
 ⟨Lib.tabIs_of_head (rest:=[]) gBr gBrType Tryd.underlying170 Tryd.underlying5 cellsU8' cellsBr h⟩
def relay (k:IntKind) (zs:List Int):Obj->Obj
 | .cells _ t frozen=>.cells (zs.map fun z=>Value.int k z).toArray t frozen
 | o=>o
noncomputable def laidWorld (os:Os):World :=
 { World.holding Tryd.prog os ⟨#[],#[],[]⟩ with
  heap:=(World.holding Tryd.prog os ⟨#[],#[],[]⟩).heap.modify 0 (relay .u8 deBruijn64) }
end Go.Proofs.YtiahgcaenneonaaDoor
namespace Go.Proofs.YtiahgcaenneonaaDoor.snaplinMade
open Go.ChangeShapes Go.WideShapes Go.ChangeAt Go.RowKit Kv
set_option maxRecDepth 100000 in
theorem main (H:Type)(enc:TypeId × Value->H)(W:World)(base:Nat)(args:Array Value)(ds:List (DataW H))(p:List MemPlace)
  (hval:∀ (j:Nat) t v,Tryd.f3.params[j]?=some t->args[j]?=some v->Value.okWide Tryd.prog W .any base t v)
  (hA:DataW.TrodAll enc Tryd.prog W 0 (fun _=>true) true Tryd.f3.params.toList args.toList ds p)(hL:laidMetH Tryd.prog Rows.snaplinMadeRow.laid W) :
  Calls Tryd.prog 3 args W fun e w'=>e=.returned (.bool true)/\Ext W w':=by
 rw [Tryd.params3] at hA hval
 obtain⟨v0,vs0,d0,ds0,p0,q0,hargs,rfl,rfl,h0,r0⟩:=trodAll_cons hA
 obtain⟨rfl,rfl,rfl⟩:=trodAll_nil r0
 obtain rfl:args=#[v0]:=by cases args;simp_all
 obtain⟨l,A,c,rfl,hl,hb,hln⟩:=fours_arg (hval 0 22 v0 rfl rfl) h0
 exact sl_walk A c l W hl hln hb (tabs_of hL)
end Go.Proofs.YtiahgcaenneonaaDoor.snaplinMade
namespace Go.Proofs.YtiahgcaenneonaaDoor.snaplinMade
open Go.ChangeShapes Go.WideShapes Go.ChangeAt Go.RowKit
theorem laidOut:laidOutB Tryd.prog=true:=by kernel_rfl
set_option maxRecDepth 100000 in
theorem contract (H:Type)(enc:TypeId × Value->H)(W:World)(base:Nat)(args:Array Value)(ds gs:List (DataW H))(before:List MemPlace)
  (hval:∀ (j:Nat) t v,Tryd.f3.params[j]?=some t->args[j]?=some v->Value.okWide Tryd.prog W .any base t v)
  (hW:DataW.Whole enc Tryd.prog Tryd.f3.params.toList Rows.snaplinMadeSpec.vars false W args.toList ds gs before)(hL:laidMetH Tryd.prog Rows.snaplinMadeRow.laid W) :
  Calls Tryd.prog 3 args W fun e W'=>∃ v,e=.returned v/\Rows.snaplinMadeSpec.post enc Tryd.prog Tryd.f3 false true false false W args v W':=by
 refine (main H enc W base args ds before hval (by obtain⟨p,q,hA,hV,hpq,_,_⟩:=hW;obtain⟨_,rfl⟩:=trodVars_none hV;rw [List.append_nil] at hpq;subst hpq;exact hA) hL).mono fun e W' ⟨he,hg⟩=>⟨_,he,?_⟩
 refine law_post (tb:=4) laidOut ?_ (by kernel_rfl) Tryd.underlying4 rfl ?_ hW hg
 · rw [Tryd.params3]
   intro t ht
   simp only [List.mem_cons,List.not_mem_nil,or_false] at ht
   rcases ht with rfl <;> exact⟨by kernel_rfl,of_decide_eq_true (by kernel_rfl)⟩
 · intro ds hl
   rw [Tryd.params3] at hl
   match ds,hl with
   | [d0],_=>rfl
set_option maxRecDepth 100000 in
theorem laid_met (os:Os):laidMet Tryd.prog Rows.snaplinMadeRow.laid (((laidWorld os)).forCall (fun _ _=>0) ⟨#[],#[.slice none 0 0],[]⟩).memory :=
 laidMet_of_run' 8 (by kernel_rfl) (by kernel_rfl)
set_option maxRecDepth 100000 in
theorem reads (os:Os){H:Type}(enc:TypeId × Value->H):∃ places,DataW.whole enc Tryd.prog (((laidWorld os)).forCall (fun _ _=>0) ⟨#[],#[.slice none 0 0],[]⟩).memory Tryd.f3.params.toList Rows.snaplinMadeSpec.vars false (#[.slice none 0 0]:Array Value).toList 8=some ([.nil],[],places) :=
 ⟨[],by kernel_rfl⟩
set_option maxRecDepth 100000 in
theorem lifted (os:Os)(started:os.Started)(H:Type)(enc:TypeId × Value->H)(F:Stop.Interp) :
  ReturnsInHanded {} Tryd.checked os 3 .any ((OpenSpec.ofChange Rows.snaplinMadeSpec).preRow enc Tryd.prog Tryd.f3 Rows.snaplinMadeRow.domain false Rows.snaplinMadeRow.laid) (((OpenSpec.ofChange Rows.snaplinMadeSpec).at F).post enc Tryd.prog Tryd.f3 false true false false):=by
 obtain⟨places,hx⟩:=reads os enc
 refine returnsInHanded_of_row (C:=Tryd.checked) (s:=(OpenSpec.ofChange Rows.snaplinMadeSpec)) own started (by kernel_rfl) Tryd.func3
  (witness_row_at (enc:=enc) (C:=Tryd.checked) false (laidWorld os) #[.slice none 0 0] rfl (by kernel_rfl) (by kernel_rfl) (by kernel_rfl)
    (OpenSpec.preRow_of_cond 8 hx (by kernel_rfl) (fun k hk=>by cases hk) (by kernel_rfl) (laid_met os))) ?_
 intro W base args ds gs before hval hW _ _ _ hL _ _
 exact contract H enc W base args ds gs before hval hW hL
theorem c1:(Rows.snaplinMadeRow.inPlace==Tryd.pinned.checked.prog.inPlace 3)=true:=by kernel_rfl
theorem c2:(Rows.snaplinMadeRow.unfollowed==Tryd.pinned.checked.prog.unfollowed 3)=true:=by kernel_rfl
theorem c3:(Rows.snaplinMadeRow.recurses==Tryd.pinned.checked.prog.recurses 3)=true:=by kernel_rfl
theorem c4:(Rows.snaplinMadeRow.named==Tryd.pinned.checked.prog.varsNamed 3)=true:=by kernel_rfl
theorem closed:joinedFacts Tryd.pinned.checked.prog 3 Tryd.f3 (OpenSpec.ofChange Rows.snaplinMadeSpec).bare Rows.snaplinMadeRow=true:=by
 unfold joinedFacts
 simp only [Bool.and_eq_true]
 repeat' refine And.intro ?_ ?_
 all_goals first | with_reducible exact c1 | with_reducible exact c2 | with_reducible exact c3 | with_reducible exact c4 | kernel_rfl
theorem said:Rows.SnaplinMadeSaid :=
 OpenClaim.holds_of_cond 3 Tryd.f3 rfl rfl rfl rfl rfl rfl rfl ⟨rfl,rfl,rfl,rfl,rfl⟩ rfl rfl rfl rfl rfl (by kernel_rfl) Tryd.func3 closed
  (of_decide_eq_true (by kernel_rfl)) (by unfold Func.isWrapper;first | (rw [if_pos (by decide +kernel)];kernel_rfl) | (rw [if_neg (by decide +kernel)];exact⟨rfl,rfl⟩))
  (fun os started H enc _ F=>by rw [OpenClaim.pre_eq_preRow];exact lifted os started H enc F)
theorem plain (f:FuncId)(fn:Func)(hf:Tryd.pinned.checked.prog.funcNamed "kevel/kevellaw52.SnaplinMade"=some f)(hfn:Tryd.pinned.checked.prog.funcs[f]?=some fn) :
  false=Tryd.pinned.checked.prog.looks []/\∀ (j:Nat) t,fn.params[j]?=some t->Tryd.pinned.checked.prog.wantsStandIn t=false:=by
 obtain rfl:f=3:=Option.some.inj ((show Tryd.prog.funcNamed "kevel/kevellaw52.SnaplinMade"=some 3 by kernel_rfl).symm.trans hf) |>.symm
 obtain rfl:fn=Tryd.f3:=(Option.some.inj (Tryd.func3.symm.trans hfn)).symm
 refine⟨by kernel_rfl,fun j t ht=>?_⟩
 rw [Tryd.params3] at ht
 have hm:=Array.mem_of_getElem? ht
 simp only [List.mem_toArray,List.mem_cons,List.not_mem_nil,or_false] at hm
 rcases hm with rfl <;> exact (show Tryd.prog.wantsStandIn _=false by kernel_rfl)
theorem card:Rows.SnaplinMadeCardSaid :=
 Claim7.holds_tied_plain_at .later [] _ _ _ _ said (fun _ h=>by cases h) (by kernel_rfl) (fun _ h=>by cases h) snaplinMade_row_tie rfl ⟨rfl,rfl⟩ (by kernel_rfl) rfl plain (by kernel_rfl)
end Go.Proofs.YtiahgcaenneonaaDoor.snaplinMade
