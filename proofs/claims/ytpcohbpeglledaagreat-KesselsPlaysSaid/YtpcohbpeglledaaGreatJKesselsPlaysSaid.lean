/-
  KesselsPlays holds: whoever enters or leaves a Kessels lock does what the document says, access by access, whatever it is answered.
-/
import Derived.Test.YtpcohbpeglledaaGreatJKesselsPlaysSaid0
import Derived.Deep.DeepCutAuto
/-
  Kessels: what any thread does that enters, or leaves, is the document's, access by access.
-/
namespace Go.Proofs.YtpcohbpeglledaaGreat
open Go.RowKit Kv
/-- Told by accesses, as a plan lays it for all. -/
theorem told_of {n mode : Int} {r : Reg} (h : Laid n mode ⟨-1, 1⟩ r) (_hm : 1 ≤ mode ∧ mode ≤ 2) (hn : ¬ (n = 1 ∧ mode = 2)) (hn1 : 1 ≤ n) (me : Int) : r.told me := by
  obtain ⟨⟨b, c, rfl, _, _⟩, _⟩ := h
  by_cases h2 : mode = 2
  · refine .inr (.inr ⟨?_, ?_⟩)
    · show kindM mode (-1) = 7
      unfold kindM
      rw [if_pos h2, if_neg (by omega)]
    · show 2 ≤ n
      omega
  · refine .inl ?_
    show kindM mode (-1) = 1
    unfold kindM
    rw [if_neg h2]
theorem kes_leave9_r (B p : Nat) (o : Bool) (S : TS) (q0 q1 r0 r1 : Reg) (side me : Int) (b c : Nat) (w : World) (h : RAt B w p o S) (hl : RegsAt [3, 4, 5] w p b [q0, q1, r0, r1]) (hq0 : q0.ok) (hq1 : q1.ok)
    (hm0 : 0 ≤ me) (hm1 : me < q0.n) (hm2 : me < q1.n) :
    Calls Tryz.prog 32 #[.pointer (some ⟨p, 0, none⟩), .slice (some ⟨b, 0, none⟩) 4 c, .int .i64 side, .int .i64 me] w (RPost encU B p w (kesL q0 q1 side me) o S) := by
  have hb := bit_r side w
  unfold kesL
  obtain ⟨⟨a0, a1, a2, a3, a4, a5, a6⟩, ⟨e0, e1, e2, e3, e4, e5, e6⟩, -, -⟩ := hl.four
  rcases bitM_or side with hs | hs
  · rw [hs] at hb ⊢
    rw [if_neg (by omega)]
    have hz := reg_write_r B p o S q0 me 0 w h hq0 ⟨hm0, hm1⟩
    generalize hR : RPost encU B p w (regW q0 me 0) o S = R
    have hO : ROwes R encU B p w (regW q0 me 0) o S := hR ▸ rowes _ _ _ _ _ _ _
    clear hR
    go_enter Tryz.func32, Tryz.ntmps32
    go_wp2_with fail
    refine hb.mono ?_
    rintro e w' ⟨rfl, rfl⟩
    go_wp2_with fail
    clear a0 a1 a2 a3 a4 a5 a6 e0 e1 e2 e3 e4 e5 e6 hl hb
    refine hz.mono fun e w' hp => ?_
    have hf := hO e w' hp
    obtain ⟨a, o', S', rfl, _⟩ := hp
    clear hO hz h
    go_wp2_with fail
    first | exact hf | (refine bodyPost_ret (results_none rfl _ _ _) rfl ?_; exact hf)
  · rw [hs] at hb ⊢
    rw [if_pos rfl]
    have hz := reg_write_r B p o S q1 me 0 w h hq1 ⟨hm0, hm2⟩
    generalize hR : RPost encU B p w (regW q1 me 0) o S = R
    have hO : ROwes R encU B p w (regW q1 me 0) o S := hR ▸ rowes _ _ _ _ _ _ _
    clear hR
    go_enter Tryz.func32, Tryz.ntmps32
    go_wp2_with fail
    refine hb.mono ?_
    rintro e w' ⟨rfl, rfl⟩
    go_wp2_with fail
    clear a0 a1 a2 a3 a4 a5 a6 e0 e1 e2 e3 e4 e5 e6 hl hb
    refine hz.mono fun e w' hp => ?_
    have hf := hO e w' hp
    obtain ⟨a, o', S', rfl, _⟩ := hp
    clear hO hz h
    go_wp2_with fail
    first | exact hf | (refine bodyPost_ret (results_none rfl _ _ _) rfl ?_; exact hf)
set_option maxRecDepth 100000 in
set_option maxHeartbeats 1000000 in
theorem kessels_walk (N Mode Side Me : Int) (vL vA : Value) (Ll La : List Int) (w : World) (hL : Ints w vL Ll) (hA : Ints w vA La) :
    Calls Tryz.prog 4 #[.agg #[.int .i64 N, .int .i64 Mode, .int .i64 Side, .int .i64 Me, vL, vA]] w fun e w' => e = .returned (.bool true) ∧ Ext w w' := by
  obtain ⟨Al, cl, rfl, p1, p2⟩ := hL.slice
  obtain ⟨Aa, ca, rfl, p3, p4⟩ := hA.slice
  have hmf : ∀ (fn : Fn) (first cap : Array Value) (w : World), (Instr.makeFunc fn first cap).run Tryz.prog w = .ok (.func fn first cap) w := fun _ _ _ _ => rfl
  have hX := Ext.refl w
  have b1 := Blk.new w (.cells #[.int .i64 N, .int .i64 Mode, .int .i64 Side, .int .i64 Me, .slice Al Ll.length cl, .slice Aa La.length ca] 24)
  replace hX := hX.alloc (.cells #[.int .i64 N, .int .i64 Mode, .int .i64 Side, .int .i64 Me, .slice Al Ll.length cl, .slice Aa La.length ca] 24)
  have c_b1 := b1.cells
  go_enter Tryz.func4, Tryz.ntmps4
  go_wp2_with fail
  refine (wants28_r 4 _ (by omega)).mono ?_
  rintro e w1 ⟨v1, rfl, hW, hx⟩
  replace hX := hX.trans hx
  replace b1 := b1.ext hx
  clear c_b1 hx
  have c_b1 := b1.cells
  have hSm := some_r _ _ N Mode w1 hW (by simp)
  have hWh := Lib.hid hW
  obtain ⟨Aw, cw, rfl, _, _, _⟩ := hW
  rw [List.length_replicate] at *
  go_wp2_with fail
  refine hSm.mono ?_
  rintro e w4 ⟨v4, rfl, hx, hrow⟩
  replace hX := hX.trans hx
  replace b1 := b1.ext hx
  have hW1 := Lib.hid (hWh.out.ext hx)
  clear c_b1 hSm hx hWh
  have c_b1 := b1.cells
  generalize hrs : (layM (List.replicate 4 ⟨-1, 1⟩) N Mode 3 2).getD [] = rs at *
  obtain ⟨Ar, cr, rfl, r1, r2, hV⟩ := Recs.of_row hrow
  clear hrow
  have hVh := Lib.hid hV
  have hrsh := Lib.hid hrs
  clear hV hrs
  have g1 := Blk.new w4 (.cells #[.slice Ar rs.length cr] 28)
  have x1 := (Ext.refl w4).alloc (.cells #[.slice Ar rs.length cr] 28)
  have c_g1 := g1.cells
  replace b1 := b1.alloc (.cells #[.slice Ar rs.length cr] 28)
  have c_b1' := b1.cells
  have hXW := hX.alloc (.cells #[.slice Ar rs.length cr] 28)
  have hWW := Lib.hid (hW1.out.ext x1)
  by_cases h1 : Ll.length ≤ 1000 ∧ La.length ≤ 1500 ∧ rs.length = 4 ∧ ¬ (N = 1 ∧ Mode = 2)
  · obtain ⟨h1, h2, h3, h5⟩ := h1
    have d1 : decide ((1000 : Int) < (Ll.length : Int)) = false := by rw [decide_eq_false_iff_not]; omega
    have d2 : decide ((1500 : Int) < (La.length : Int)) = false := by rw [decide_eq_false_iff_not]; omega
    have d3 : ((rs.length : Int) != 4) = false := by rw [bne_eq_false_iff_eq]; omega
    obtain ⟨q0, q1, r0, q3, rfl⟩ : ∃ q0 q1 r0 q3, rs = [q0, q1, r0, q3] := by
      match rs, h3 with
      | [q0, q1, r0, q3], _ => exact ⟨q0, q1, r0, q3, rfl⟩
    have hly : layM (List.replicate 4 ⟨-1, 1⟩) N Mode 3 2 = some [q0, q1, r0, q3] := by
      have := hrsh.out
      cases hc : layM (List.replicate 4 ⟨-1, 1⟩) N Mode 3 2 with
      | none => rw [hc] at this; cases this
      | some rs => rw [hc] at this; simpa using this
    obtain ⟨⟨hmd1, hmd2, n1, n2, _, _⟩, hwr, _⟩ := layM_args hly
    have hlay := fun (i : Nat) (hi : i < 4) => layM_at hly (i := i) (q := ⟨-1, 1⟩) (by rw [List.getElem?_replicate, if_pos hi])
    obtain ⟨y0, hy0, hl0⟩ := hlay 0 (by omega)
    obtain ⟨y1, hy1, hl1⟩ := hlay 1 (by omega)
    obtain ⟨y2, hy2, hl2⟩ := hlay 2 (by omega)
    obtain ⟨y3, hy3, hl3⟩ := hlay 3 (by omega)
    obtain rfl : q0 = y0 := by simpa using hy0
    obtain rfl : q1 = y1 := by simpa using hy1
    obtain rfl : r0 = y2 := by simpa using hy2
    obtain rfl : q3 = y3 := by simpa using hy3
    have hw0 : -1 ≤ (-1 : Int) ∧ (-1 : Int) < N := ⟨by omega, by omega⟩
    obtain ⟨ok0, nn0, _⟩ := hl0.ok ⟨n1, n2⟩ hw0
    obtain ⟨ok1, nn1, _⟩ := hl1.ok ⟨n1, n2⟩ hw0
    obtain ⟨ok2, nn2, _⟩ := hl2.ok ⟨n1, n2⟩ hw0
    obtain ⟨ok3, nn3, _⟩ := hl3.ok ⟨n1, n2⟩ hw0
    have tt0 := fun me => told_of hl0 ⟨hmd1, hmd2⟩ h5 n1 me
    have tt1 := fun me => told_of hl1 ⟨hmd1, hmd2⟩ h5 n1 me
    have tt2 := fun me => told_of hl2 ⟨hmd1, hmd2⟩ h5 n1 me
    have tt3 := fun me => told_of hl3 ⟨hmd1, hmd2⟩ h5 n1 me
    have hw1 := IntWalk.i64_in (N - 1) (by omega)
    have ht := wrapI_bd Me (N - 1)
    rw [show clamp (N - 1) 1099511627776 = N - 1 from by unfold clamp within; omega] at ht
    obtain ⟨b, rfl, hb, hc⟩ := hVh.out (by simp [regVals])
    clear hrsh hVh hly hl0 hl1 hl2 hl3 hy0 hy1 hy2 hy3 hwr h3 hlay
    simp only [List.length_cons, List.length_nil] at *
    by_cases e1 : N = 1
    · subst e1
      have e2 : (Mode == 2) = false := by rw [beq_eq_false_iff_ne]; exact fun h => h5 ⟨rfl, h⟩
      clear h5 ht hw1
      have ht := wrapI_bd Me 0
      rw [show clamp 0 1099511627776 = 0 from by decide] at ht
      go_wp2_with fail
      refine (kwants_p _).mono ?_
      rintro e w5 ⟨v5, rfl, hK5, hx5⟩
      have hK5h := Lib.hid hK5
      obtain ⟨Ak, ck, rfl, _, _, _⟩ := hK5
      replace b1 := b1.ext hx5
      replace g1 := g1.ext hx5
      replace x1 := x1.trans hx5
      replace hXW := hXW.trans hx5
      have hWW2 := Lib.hid (hWW.out.ext hx5)
      clear c_b1 c_b1' c_g1 hx5 hWW hX
      have c_b1 := b1.cells
      have c_g1 := g1.cells
      go_wp2_with fail
      refine (same_w _ _ _ _ hK5h.out hWW2.out (by simp)).mono ?_
      rintro e w6 ⟨rfl, hx6⟩
      replace b1 := b1.ext hx6
      replace g1 := g1.ext hx6
      replace x1 := x1.trans hx6
      replace hXW := hXW.trans hx6
      clear c_b1 c_g1 hx6 hWW2 hK5h
      have c_b1 := b1.cells
      go_wp2_with fail
      refine (wrap_r Me 0 _).mono ?_
      rintro e w' ⟨rfl, rfl⟩
      generalize wrapI Me 0 = t at *
      go_wp2_with fail
      have g2 := Blk.new w6 (.cells #[.int .i64 t] 3)
      replace g1 := g1.alloc (.cells #[.int .i64 t] 3)
      replace b1 := b1.alloc (.cells #[.int .i64 t] 3)
      replace x1 := x1.alloc (.cells #[.int .i64 t] 3)
      have hX := hXW.alloc (.cells #[.int .i64 t] 3)
      clear c_b1 hXW
      generalize World.alloc w6 _ = W1 at *
      have hE := (Ext.refl W1).drew
      have hS : ∀ w', Ext W1 w' → (∀ i, w'.cell? ⟨w.heap.size, i, none⟩ = (#[.int .i64 1, .int .i64 Mode, .int .i64 Side, .int .i64 Me, .slice Al Ll.length cl, .slice Aa La.length ca] : Array Value)[i]?) := fun w' hx => (b1.ext hx).cells
      have hLW := Lib.hid (hL.ext hX)
      have hAW := Lib.hid (hA.ext hX)
      clear hL hA
      go_region_held2 (fun w' => ∀ i, w'.cell? ⟨w.heap.size, i, none⟩ = (#[.int .i64 1, .int .i64 Mode, .int .i64 Side, .int .i64 Me, .slice Al Ll.length cl, .slice Aa La.length ca] : Array Value)[i]?) (exact hS _ hE)
        (first
          | (go_at_call_of 16 (Value.int IntKind.i64 1048576)
             refine (tame_r _ La 1048576 _ (hAW.out.ext hE)).mono ?_
             rintro e wA ⟨va, rfl, hra, hxa⟩
             replace hE := hE.trans hxa)
          | (go_at_call_of 16 (Value.int IntKind.i64 1024)
             refine (tame_r _ Ll 1024 _ (hLW.out.ext hE)).mono ?_
             rintro e wB ⟨vl, rfl, hrl, hxl⟩
             replace hE := hE.trans hxl))
      rename_i hh
      clear hh hS hLW hAW
      have hIa := hra.ints.ext hxl
      have hIl := hrl.ints
      have hba : ∀ k, va.ownBlock = some k → k < wB.heap.size := fun k hk => Nat.lt_of_lt_of_le (hra.lt k hk).2 hxl.size
      have la : (tameL La 1048576).length ≤ 1500 := by unfold tameL; simp; omega
      have ll : (tameL Ll 1024).length ≤ 1000 := by unfold tameL; simp; omega
      clear hra hrl hxa hxl
      generalize tameL La 1048576 = a at *
      generalize tameL Ll 1024 = l at *
      obtain ⟨Aq, cq, rfl, _, _⟩ := hIa.slice
      obtain ⟨Al', cl', rfl, _, _⟩ := hIl.slice
      simp only [Nat.zero_add, Nat.reduceAdd] at g1 r1
      have hleft : (TS0 l a).left < a.length + 1 := by unfold TS.left TS0; simp
      have hPl := play_int 27 #[.pointer (some ⟨w4.heap.size, 0, none⟩), .pointer (some ⟨w.heap.size, 0, none⟩), .pointer (some ⟨w6.heap.size, 0, none⟩)] ((kesM (a.length + 1) q0 q1 r0 q3 Side t).bind fun _ => .ret 0) Al' cl' l Aq cq a wB hIl (by omega) hIa (by unfold maxAns; omega) hba (fun _ _ => rfl) (fun W p hxW hP =>
        kclosE _ p _ _ q0 q1 r0 q3 1 Mode Side Me t (.slice Al Ll.length cl) (.slice Aa La.length ca) b cr w4.heap.size w.heap.size w6.heap.size W hP (regsP hb hc (x1.trans (hE.trans hxW)) hP (x1.trans hE).size) ok0 ok1 ok2 ok3 ht.1 (by omega) (by omega) (by omega) (by omega) (tt0 _) (tt1 _) (tt2 _) (tt3 _) hleft r1 r2 ((g1.ext (hE.trans hxW)).cells 0) ((b1.ext (hE.trans hxW)).cells 2) ((g2.ext (hE.trans hxW)).cells 0))
      have hIah := Lib.hid hIa
      have hIlh := Lib.hid hIl
      clear hIa hIl
      go_wp2_with fail
      refine hPl.mono ?_
      rintro e w7 ⟨v3, rfl, hO, hx7⟩
      generalize hr : ((kesM (a.length + 1) q0 q1 r0 q3 Side t).bind fun _ => Prog.ret (0 : Int)).run (TS0 l a) = r at hO ⊢
      clear hPl
      generalize hq : r.1.getD 0 = q
      have hOh := Lib.hid hO
      obtain ⟨A3, c3, A3', c3', As3, k3, n3, rfl⟩ := hO.parts
      clear hO
      go_wp2_with fail
      have g3 := Blk.new w7 (.cells #[.bool r.fst.isSome, .slice A3 r.snd.acc.length c3, .slice A3' r.snd.nts.length c3', .slice As3 n3 k3] 36)
      have x2 := hx7.alloc (.cells #[.bool r.fst.isSome, .slice A3 r.snd.acc.length c3, .slice A3' r.snd.nts.length c3', .slice As3 n3 k3] 36)
      have hOh2 := Lib.hid (hOh.out.ext ((Ext.refl w7).alloc (.cells #[.bool r.fst.isSome, .slice A3 r.snd.acc.length c3, .slice A3' r.snd.nts.length c3', .slice As3 n3 k3] 36)))
      clear hOh hx7
      generalize World.alloc w7 _ = W2 at *
      have hN := new_any Al' cl' l Aq cq a W2 (hIlh.out.ext x2) (hIah.out.ext x2) (by omega) (by unfold maxAns; omega) (fun k hk => Nat.lt_of_lt_of_le (hba k hk) x2.size)
      refine hN.mono ?_
      rintro e w8 ⟨pm, rfl, hR, hx8⟩
      have y1 := g1.ext (hE.trans (x2.trans hx8))
      have y2 := g2.ext (hE.trans (x2.trans hx8))
      have y3 := b1.ext (hE.trans (x2.trans hx8))
      have c_y1 := y1.cells
      have c_y2 := y2.cells
      have c_y3 := y3.cells
      clear hN
      go_wp2_with fail
      have hx4 : Ext w4 W2 := x1.trans (hE.trans x2)
      refine (kes_enter_r W2.heap.size pm (a.length + 1) false (TS0 l a) q0 q1 r0 q3 Side t b cr w8 hR (regsR hb hc (hx4.trans hx8) hR hx4.size) ok0 ok1 ok2 ok3 ht.1 (by omega) (by omega) (by omega) (by omega) (tt0 _) (tt1 _) (tt2 _) (tt3 _) hleft).mono ?_
      rintro e w9 ⟨u, o', S', rfl, hRef, hR9, hK9⟩
      have hx9 : Ext W2 w9 := Below.trans hx8 hK9.below
      clear y1 y2 y3 c_y1 c_y2 c_y3
      have hrun := (Ref.bind (f := fun _ => Prog.ret (0 : Int)) hRef (Ref.ret (0 : Int) o' S')).outcome
      rw [hr] at hrun
      have hsome : r.1.isSome = !o' := by rw [hrun]; cases o' <;> rfl
      have hS2 : r.2 = S' := by rw [hrun]
      have hO9 := hOh2.out.ext hx9
      rw [hsome, hS2] at hO9 g3
      clear hrun hRef hsome hS2 hq hr hR hK9 hx8 hOh2
      replace g3 := g3.ext hx9
      have x3 := x2.trans hx9
      clear x2 hx9 hx4
      have hOp := Lib.hid hO9
      have hRp := Lib.hid hR9
      clear hO9 hR9
      have hleft : (TS0 l a).left < a.length + 1 := by unfold TS.left TS0; simp
      have y1 := g1.ext (hE.trans x3)
      have y2 := g2.ext (hE.trans x3)
      have y3 := b1.ext (hE.trans x3)
      have hbb : ∀ k, (Value.slice Aq a.length cq).ownBlock = some k → k < w9.heap.size := fun k hk => Nat.lt_of_lt_of_le (hba k hk) x3.size
      have hx4 : Ext w4 w9 := x1.trans (hE.trans x3)
      have hXf := hX.trans (hE.trans x3)
      have hPl := play_int 30 #[.pointer (some ⟨w4.heap.size, 0, none⟩), .pointer (some ⟨w.heap.size, 0, none⟩), .pointer (some ⟨w6.heap.size, 0, none⟩)] ((kesL q0 q1 Side t).bind fun _ => .ret 0) Al' cl' l Aq cq a w9 (hIlh.out.ext x3) (by omega) (hIah.out.ext x3) (by unfold maxAns; omega) hbb (fun _ _ => rfl) (fun W p hxW hP =>
        kclosL _ p _ q0 q1 r0 q3 Side t b cr w4.heap.size w.heap.size w6.heap.size W hP (regsP hb hc (hx4.trans hxW) hP hx4.size) ok0 ok1 ht.1 (by omega) (by omega) ((y1.ext hxW).cells 0) ((y3.ext hxW).cells 2) ((y2.ext hxW).cells 0))
      clear g1 g2 b1 x1 hE hX
      have hI2 := Lib.hid (hIah.out.ext x3)
      have hI3 := Lib.hid (hIlh.out.ext x3)
      clear hIah hIlh hba x3
      go_wp2_with fail
      refine hPl.mono ?_
      rintro e wa ⟨v6, rfl, hO, hx7⟩
      generalize hr : ((kesL q0 q1 Side t).bind fun _ => Prog.ret (0 : Int)).run (TS0 l a) = r2 at hO ⊢
      clear hPl
      generalize hq : r2.1.getD 0 = qq
      have hOh := Lib.hid hO
      obtain ⟨A6, c6, A6', c6', As6, k6, n6, rfl⟩ := hO.parts
      clear hO
      go_wp2_with fail
      have g6 := Blk.new wa (.cells #[.bool r2.fst.isSome, .slice A6 r2.snd.acc.length c6, .slice A6' r2.snd.nts.length c6', .slice As6 n6 k6] 36)
      have x2 := hx7.alloc (.cells #[.bool r2.fst.isSome, .slice A6 r2.snd.acc.length c6, .slice A6' r2.snd.nts.length c6', .slice As6 n6 k6] 36)
      have hOh2 := Lib.hid (hOh.out.ext ((Ext.refl wa).alloc (.cells #[.bool r2.fst.isSome, .slice A6 r2.snd.acc.length c6, .slice A6' r2.snd.nts.length c6', .slice As6 n6 k6] 36)))
      clear hOh hx7
      generalize World.alloc wa _ = W3 at *
      have hN := new_any Al' cl' l Aq cq a W3 (hI3.out.ext x2) (hI2.out.ext x2) (by omega) (by unfold maxAns; omega) (fun k hk => Nat.lt_of_lt_of_le (hbb k hk) x2.size)
      refine hN.mono ?_
      rintro e wb ⟨pn, rfl, hR, hx8⟩
      replace y1 := y1.ext (x2.trans hx8)
      replace y2 := y2.ext (x2.trans hx8)
      replace y3 := y3.ext (x2.trans hx8)
      have c_y1 := y1.cells
      have c_y2 := y2.cells
      have c_y3 := y3.cells
      clear hN
      go_wp2_with fail
      have hx5 : Ext w4 W3 := hx4.trans x2
      refine (kes_leave9_r W3.heap.size pn false (TS0 l a) q0 q1 r0 q3 Side t b cr wb hR (regsR hb hc (hx5.trans hx8) hR hx5.size) ok0 ok1 ht.1 (by omega) (by omega)).mono ?_
      rintro e wc ⟨u2, o6, S6, rfl, hRef, hR9, hK9⟩
      have hx9 : Ext W3 wc := Below.trans hx8 hK9.below
      have hrun := (Ref.bind (f := fun _ => Prog.ret (0 : Int)) hRef (Ref.ret (0 : Int) o6 S6)).outcome
      rw [hr] at hrun
      have hsome : r2.1.isSome = !o6 := by rw [hrun]; cases o6 <;> rfl
      have hS2 : r2.2 = S6 := by rw [hrun]
      have hO9 := hOh2.out.ext hx9
      rw [hsome, hS2] at hO9 g6
      clear hrun hRef hsome hS2 hq hr hR hK9 hx8 hOh2 y1 y2 y3 c_y1 c_y2 c_y3
      replace g6 := g6.ext hx9
      have x3 := x2.trans hx9
      replace g3 := g3.ext x3
      have hOq := Lib.hid hO9
      have hRq := Lib.hid hR9
      have hRp2 := Lib.hid (hRp.out.ext x3)
      have hOp2 := Lib.hid (hOp.out.ext x3)
      have hXg := Lib.hid (hXf.trans x3)
      clear hO9 hR9 hRp hOp hXf x2 x3 hx9 hx4 hx5 hI2 hI3 hbb hleft
      have c_g3 := g3.cells
      have c_g6 := g6.cells
      go_wp2_with fail
      have hE := (Ext.refl wc).drew
      have hS : ∀ w', Ext wc w' → (∀ i, w'.cell? ⟨w7.heap.size, i, none⟩ = (#[.bool (!o'), .slice A3 S'.acc.length c3, .slice A3' S'.nts.length c3', .slice As3 n3 k3] : Array Value)[i]?) ∧ (∀ i, w'.cell? ⟨wa.heap.size, i, none⟩ = (#[.bool (!o6), .slice A6 S6.acc.length c6, .slice A6' S6.nts.length c6', .slice As6 n6 k6] : Array Value)[i]?) := fun w' hx => ⟨(g3.ext hx).cells, (g6.ext hx).cells⟩
      go_region_held2 (fun w' => (∀ i, w'.cell? ⟨w7.heap.size, i, none⟩ = (#[.bool (!o'), .slice A3 S'.acc.length c3, .slice A3' S'.nts.length c3', .slice As3 n3 k3] : Array Value)[i]?) ∧ (∀ i, w'.cell? ⟨wa.heap.size, i, none⟩ = (#[.bool (!o6), .slice A6 S6.acc.length c6, .slice A6' S6.nts.length c6', .slice As6 n6 k6] : Array Value)[i]?)) (exact hS _ hE)
        (first
          | (go_at_call_of 23 (Value.pointer (some (⟨pm, 0, none⟩ : Addr)))
             refine (dout_r _ pm o' S' _ (hRp2.out.ext hE)).mono ?_
             rintro e wd ⟨v9, rfl, hOx, hxd⟩
             replace hE := hE.trans hxd)
          | (go_at_call_of 23 (Value.pointer (some (⟨pn, 0, none⟩ : Addr)))
             refine (dout_r _ pn o6 S6 _ (hRq.out.ext hE)).mono ?_
             rintro e we ⟨v10, rfl, hOy, hxe⟩
             replace hE := hE.trans hxe)
          | (go_at_call_of 22 v9
             refine (same_r _ _ (!o') S' _ (hOp2.out.ext hE) hOx).mono ?_
             rintro e wf ⟨rfl, hxf⟩
             replace hE := hE.trans hxf)
          | (go_at_call_of 22 v10
             refine (same_r _ _ (!o6) S6 _ (hOq.out.ext hE) hOy).mono ?_
             rintro e wf2 ⟨rfl, hxf⟩
             replace hE := hE.trans hxf)
          | (go_at_call 26
             refine (alive29 _).mono ?_
             rintro e wg ⟨rfl, hxg⟩
             replace hE := hE.trans hxg))
      have hf := Lib.hid (hXg.out.trans hE)
      go_wp2_with fail
      go_ret
      exact ⟨rfl, hf.out⟩
    · have e1' : (N == 1) = false := by rw [beq_eq_false_iff_ne]; exact e1
      clear e1 h5
      go_wp2_with fail
      refine (kwants_p _).mono ?_
      rintro e w5 ⟨v5, rfl, hK5, hx5⟩
      have hK5h := Lib.hid hK5
      obtain ⟨Ak, ck, rfl, _, _, _⟩ := hK5
      replace b1 := b1.ext hx5
      replace g1 := g1.ext hx5
      replace x1 := x1.trans hx5
      replace hXW := hXW.trans hx5
      have hWW2 := Lib.hid (hWW.out.ext hx5)
      clear c_b1 c_b1' c_g1 hx5 hWW hX
      have c_b1 := b1.cells
      have c_g1 := g1.cells
      go_wp2_with fail
      refine (same_w _ _ _ _ hK5h.out hWW2.out (by simp)).mono ?_
      rintro e w6 ⟨rfl, hx6⟩
      replace b1 := b1.ext hx6
      replace g1 := g1.ext hx6
      replace x1 := x1.trans hx6
      replace hXW := hXW.trans hx6
      clear c_b1 c_g1 hx6 hWW2 hK5h
      have c_b1 := b1.cells
      go_wp2_with fail
      refine (wrap_r Me (N - 1) _).mono ?_
      rintro e w' ⟨rfl, rfl⟩
      generalize wrapI Me (N - 1) = t at *
      go_wp2_with fail
      have g2 := Blk.new w6 (.cells #[.int .i64 t] 3)
      replace g1 := g1.alloc (.cells #[.int .i64 t] 3)
      replace b1 := b1.alloc (.cells #[.int .i64 t] 3)
      replace x1 := x1.alloc (.cells #[.int .i64 t] 3)
      have hX := hXW.alloc (.cells #[.int .i64 t] 3)
      clear c_b1 hXW
      generalize World.alloc w6 _ = W1 at *
      have hE := (Ext.refl W1).drew
      have hS : ∀ w', Ext W1 w' → (∀ i, w'.cell? ⟨w.heap.size, i, none⟩ = (#[.int .i64 N, .int .i64 Mode, .int .i64 Side, .int .i64 Me, .slice Al Ll.length cl, .slice Aa La.length ca] : Array Value)[i]?) := fun w' hx => (b1.ext hx).cells
      have hLW := Lib.hid (hL.ext hX)
      have hAW := Lib.hid (hA.ext hX)
      clear hL hA
      go_region_held2 (fun w' => ∀ i, w'.cell? ⟨w.heap.size, i, none⟩ = (#[.int .i64 N, .int .i64 Mode, .int .i64 Side, .int .i64 Me, .slice Al Ll.length cl, .slice Aa La.length ca] : Array Value)[i]?) (exact hS _ hE)
        (first
          | (go_at_call_of 16 (Value.int IntKind.i64 1048576)
             refine (tame_r _ La 1048576 _ (hAW.out.ext hE)).mono ?_
             rintro e wA ⟨va, rfl, hra, hxa⟩
             replace hE := hE.trans hxa)
          | (go_at_call_of 16 (Value.int IntKind.i64 1024)
             refine (tame_r _ Ll 1024 _ (hLW.out.ext hE)).mono ?_
             rintro e wB ⟨vl, rfl, hrl, hxl⟩
             replace hE := hE.trans hxl))
      rename_i hh
      clear hh hS hLW hAW
      have hIa := hra.ints.ext hxl
      have hIl := hrl.ints
      have hba : ∀ k, va.ownBlock = some k → k < wB.heap.size := fun k hk => Nat.lt_of_lt_of_le (hra.lt k hk).2 hxl.size
      have la : (tameL La 1048576).length ≤ 1500 := by unfold tameL; simp; omega
      have ll : (tameL Ll 1024).length ≤ 1000 := by unfold tameL; simp; omega
      clear hra hrl hxa hxl
      generalize tameL La 1048576 = a at *
      generalize tameL Ll 1024 = l at *
      obtain ⟨Aq, cq, rfl, _, _⟩ := hIa.slice
      obtain ⟨Al', cl', rfl, _, _⟩ := hIl.slice
      simp only [Nat.zero_add, Nat.reduceAdd] at g1 r1
      have hleft : (TS0 l a).left < a.length + 1 := by unfold TS.left TS0; simp
      have hPl := play_int 27 #[.pointer (some ⟨w4.heap.size, 0, none⟩), .pointer (some ⟨w.heap.size, 0, none⟩), .pointer (some ⟨w6.heap.size, 0, none⟩)] ((kesM (a.length + 1) q0 q1 r0 q3 Side t).bind fun _ => .ret 0) Al' cl' l Aq cq a wB hIl (by omega) hIa (by unfold maxAns; omega) hba (fun _ _ => rfl) (fun W p hxW hP =>
        kclosE _ p _ _ q0 q1 r0 q3 N Mode Side Me t (.slice Al Ll.length cl) (.slice Aa La.length ca) b cr w4.heap.size w.heap.size w6.heap.size W hP (regsP hb hc (x1.trans (hE.trans hxW)) hP (x1.trans hE).size) ok0 ok1 ok2 ok3 ht.1 (by omega) (by omega) (by omega) (by omega) (tt0 _) (tt1 _) (tt2 _) (tt3 _) hleft r1 r2 ((g1.ext (hE.trans hxW)).cells 0) ((b1.ext (hE.trans hxW)).cells 2) ((g2.ext (hE.trans hxW)).cells 0))
      have hIah := Lib.hid hIa
      have hIlh := Lib.hid hIl
      clear hIa hIl
      go_wp2_with fail
      refine hPl.mono ?_
      rintro e w7 ⟨v3, rfl, hO, hx7⟩
      generalize hr : ((kesM (a.length + 1) q0 q1 r0 q3 Side t).bind fun _ => Prog.ret (0 : Int)).run (TS0 l a) = r at hO ⊢
      clear hPl
      generalize hq : r.1.getD 0 = q
      have hOh := Lib.hid hO
      obtain ⟨A3, c3, A3', c3', As3, k3, n3, rfl⟩ := hO.parts
      clear hO
      go_wp2_with fail
      have g3 := Blk.new w7 (.cells #[.bool r.fst.isSome, .slice A3 r.snd.acc.length c3, .slice A3' r.snd.nts.length c3', .slice As3 n3 k3] 36)
      have x2 := hx7.alloc (.cells #[.bool r.fst.isSome, .slice A3 r.snd.acc.length c3, .slice A3' r.snd.nts.length c3', .slice As3 n3 k3] 36)
      have hOh2 := Lib.hid (hOh.out.ext ((Ext.refl w7).alloc (.cells #[.bool r.fst.isSome, .slice A3 r.snd.acc.length c3, .slice A3' r.snd.nts.length c3', .slice As3 n3 k3] 36)))
      clear hOh hx7
      generalize World.alloc w7 _ = W2 at *
      have hN := new_any Al' cl' l Aq cq a W2 (hIlh.out.ext x2) (hIah.out.ext x2) (by omega) (by unfold maxAns; omega) (fun k hk => Nat.lt_of_lt_of_le (hba k hk) x2.size)
      refine hN.mono ?_
      rintro e w8 ⟨pm, rfl, hR, hx8⟩
      have y1 := g1.ext (hE.trans (x2.trans hx8))
      have y2 := g2.ext (hE.trans (x2.trans hx8))
      have y3 := b1.ext (hE.trans (x2.trans hx8))
      have c_y1 := y1.cells
      have c_y2 := y2.cells
      have c_y3 := y3.cells
      clear hN
      go_wp2_with fail
      have hx4 : Ext w4 W2 := x1.trans (hE.trans x2)
      refine (kes_enter_r W2.heap.size pm (a.length + 1) false (TS0 l a) q0 q1 r0 q3 Side t b cr w8 hR (regsR hb hc (hx4.trans hx8) hR hx4.size) ok0 ok1 ok2 ok3 ht.1 (by omega) (by omega) (by omega) (by omega) (tt0 _) (tt1 _) (tt2 _) (tt3 _) hleft).mono ?_
      rintro e w9 ⟨u, o', S', rfl, hRef, hR9, hK9⟩
      have hx9 : Ext W2 w9 := Below.trans hx8 hK9.below
      clear y1 y2 y3 c_y1 c_y2 c_y3
      have hrun := (Ref.bind (f := fun _ => Prog.ret (0 : Int)) hRef (Ref.ret (0 : Int) o' S')).outcome
      rw [hr] at hrun
      have hsome : r.1.isSome = !o' := by rw [hrun]; cases o' <;> rfl
      have hS2 : r.2 = S' := by rw [hrun]
      have hO9 := hOh2.out.ext hx9
      rw [hsome, hS2] at hO9 g3
      clear hrun hRef hsome hS2 hq hr hR hK9 hx8 hOh2
      replace g3 := g3.ext hx9
      have x3 := x2.trans hx9
      clear x2 hx9 hx4
      have hOp := Lib.hid hO9
      have hRp := Lib.hid hR9
      clear hO9 hR9
      have hleft : (TS0 l a).left < a.length + 1 := by unfold TS.left TS0; simp
      have y1 := g1.ext (hE.trans x3)
      have y2 := g2.ext (hE.trans x3)
      have y3 := b1.ext (hE.trans x3)
      have hbb : ∀ k, (Value.slice Aq a.length cq).ownBlock = some k → k < w9.heap.size := fun k hk => Nat.lt_of_lt_of_le (hba k hk) x3.size
      have hx4 : Ext w4 w9 := x1.trans (hE.trans x3)
      have hXf := hX.trans (hE.trans x3)
      have hPl := play_int 30 #[.pointer (some ⟨w4.heap.size, 0, none⟩), .pointer (some ⟨w.heap.size, 0, none⟩), .pointer (some ⟨w6.heap.size, 0, none⟩)] ((kesL q0 q1 Side t).bind fun _ => .ret 0) Al' cl' l Aq cq a w9 (hIlh.out.ext x3) (by omega) (hIah.out.ext x3) (by unfold maxAns; omega) hbb (fun _ _ => rfl) (fun W p hxW hP =>
        kclosL _ p _ q0 q1 r0 q3 Side t b cr w4.heap.size w.heap.size w6.heap.size W hP (regsP hb hc (hx4.trans hxW) hP hx4.size) ok0 ok1 ht.1 (by omega) (by omega) ((y1.ext hxW).cells 0) ((y3.ext hxW).cells 2) ((y2.ext hxW).cells 0))
      clear g1 g2 b1 x1 hE hX
      have hI2 := Lib.hid (hIah.out.ext x3)
      have hI3 := Lib.hid (hIlh.out.ext x3)
      clear hIah hIlh hba x3
      go_wp2_with fail
      refine hPl.mono ?_
      rintro e wa ⟨v6, rfl, hO, hx7⟩
      generalize hr : ((kesL q0 q1 Side t).bind fun _ => Prog.ret (0 : Int)).run (TS0 l a) = r2 at hO ⊢
      clear hPl
      generalize hq : r2.1.getD 0 = qq
      have hOh := Lib.hid hO
      obtain ⟨A6, c6, A6', c6', As6, k6, n6, rfl⟩ := hO.parts
      clear hO
      go_wp2_with fail
      have g6 := Blk.new wa (.cells #[.bool r2.fst.isSome, .slice A6 r2.snd.acc.length c6, .slice A6' r2.snd.nts.length c6', .slice As6 n6 k6] 36)
      have x2 := hx7.alloc (.cells #[.bool r2.fst.isSome, .slice A6 r2.snd.acc.length c6, .slice A6' r2.snd.nts.length c6', .slice As6 n6 k6] 36)
      have hOh2 := Lib.hid (hOh.out.ext ((Ext.refl wa).alloc (.cells #[.bool r2.fst.isSome, .slice A6 r2.snd.acc.length c6, .slice A6' r2.snd.nts.length c6', .slice As6 n6 k6] 36)))
      clear hOh hx7
      generalize World.alloc wa _ = W3 at *
      have hN := new_any Al' cl' l Aq cq a W3 (hI3.out.ext x2) (hI2.out.ext x2) (by omega) (by unfold maxAns; omega) (fun k hk => Nat.lt_of_lt_of_le (hbb k hk) x2.size)
      refine hN.mono ?_
      rintro e wb ⟨pn, rfl, hR, hx8⟩
      replace y1 := y1.ext (x2.trans hx8)
      replace y2 := y2.ext (x2.trans hx8)
      replace y3 := y3.ext (x2.trans hx8)
      have c_y1 := y1.cells
      have c_y2 := y2.cells
      have c_y3 := y3.cells
      clear hN
      go_wp2_with fail
      have hx5 : Ext w4 W3 := hx4.trans x2
      refine (kes_leave9_r W3.heap.size pn false (TS0 l a) q0 q1 r0 q3 Side t b cr wb hR (regsR hb hc (hx5.trans hx8) hR hx5.size) ok0 ok1 ht.1 (by omega) (by omega)).mono ?_
      rintro e wc ⟨u2, o6, S6, rfl, hRef, hR9, hK9⟩
      have hx9 : Ext W3 wc := Below.trans hx8 hK9.below
      have hrun := (Ref.bind (f := fun _ => Prog.ret (0 : Int)) hRef (Ref.ret (0 : Int) o6 S6)).outcome
      rw [hr] at hrun
      have hsome : r2.1.isSome = !o6 := by rw [hrun]; cases o6 <;> rfl
      have hS2 : r2.2 = S6 := by rw [hrun]
      have hO9 := hOh2.out.ext hx9
      rw [hsome, hS2] at hO9 g6
      clear hrun hRef hsome hS2 hq hr hR hK9 hx8 hOh2 y1 y2 y3 c_y1 c_y2 c_y3
      replace g6 := g6.ext hx9
      have x3 := x2.trans hx9
      replace g3 := g3.ext x3
      have hOq := Lib.hid hO9
      have hRq := Lib.hid hR9
      have hRp2 := Lib.hid (hRp.out.ext x3)
      have hOp2 := Lib.hid (hOp.out.ext x3)
      have hXg := Lib.hid (hXf.trans x3)
      clear hO9 hR9 hRp hOp hXf x2 x3 hx9 hx4 hx5 hI2 hI3 hbb hleft
      have c_g3 := g3.cells
      have c_g6 := g6.cells
      go_wp2_with fail
      have hE := (Ext.refl wc).drew
      have hS : ∀ w', Ext wc w' → (∀ i, w'.cell? ⟨w7.heap.size, i, none⟩ = (#[.bool (!o'), .slice A3 S'.acc.length c3, .slice A3' S'.nts.length c3', .slice As3 n3 k3] : Array Value)[i]?) ∧ (∀ i, w'.cell? ⟨wa.heap.size, i, none⟩ = (#[.bool (!o6), .slice A6 S6.acc.length c6, .slice A6' S6.nts.length c6', .slice As6 n6 k6] : Array Value)[i]?) := fun w' hx => ⟨(g3.ext hx).cells, (g6.ext hx).cells⟩
      go_region_held2 (fun w' => (∀ i, w'.cell? ⟨w7.heap.size, i, none⟩ = (#[.bool (!o'), .slice A3 S'.acc.length c3, .slice A3' S'.nts.length c3', .slice As3 n3 k3] : Array Value)[i]?) ∧ (∀ i, w'.cell? ⟨wa.heap.size, i, none⟩ = (#[.bool (!o6), .slice A6 S6.acc.length c6, .slice A6' S6.nts.length c6', .slice As6 n6 k6] : Array Value)[i]?)) (exact hS _ hE)
        (first
          | (go_at_call_of 23 (Value.pointer (some (⟨pm, 0, none⟩ : Addr)))
             refine (dout_r _ pm o' S' _ (hRp2.out.ext hE)).mono ?_
             rintro e wd ⟨v9, rfl, hOx, hxd⟩
             replace hE := hE.trans hxd)
          | (go_at_call_of 23 (Value.pointer (some (⟨pn, 0, none⟩ : Addr)))
             refine (dout_r _ pn o6 S6 _ (hRq.out.ext hE)).mono ?_
             rintro e we ⟨v10, rfl, hOy, hxe⟩
             replace hE := hE.trans hxe)
          | (go_at_call_of 22 v9
             refine (same_r _ _ (!o') S' _ (hOp2.out.ext hE) hOx).mono ?_
             rintro e wf ⟨rfl, hxf⟩
             replace hE := hE.trans hxf)
          | (go_at_call_of 22 v10
             refine (same_r _ _ (!o6) S6 _ (hOq.out.ext hE) hOy).mono ?_
             rintro e wf2 ⟨rfl, hxf⟩
             replace hE := hE.trans hxf)
          | (go_at_call 26
             refine (alive29 _).mono ?_
             rintro e wg ⟨rfl, hxg⟩
             replace hE := hE.trans hxg))
      have hf := Lib.hid (hXg.out.trans hE)
      go_wp2_with fail
      go_ret
      exact ⟨rfl, hf.out⟩
  · by_cases h2 : 1000 < Ll.length
    · have d1 : decide ((1000 : Int) < (Ll.length : Int)) = true := by rw [decide_eq_true_eq]; omega
      go_wp2_with fail
      refine (kwants_p _).mono ?_
      rintro e w5 ⟨v5, rfl, hK5, hx⟩
      have hy := hXW.trans hx
      have hK5h := Lib.hid hK5
      obtain ⟨Ak, ck, rfl, _, _, _⟩ := hK5
      go_wp2_with fail
      refine (same_w _ _ _ _ hK5h.out (hWW.out.ext hx) (by simp)).mono ?_
      rintro e w6 ⟨rfl, hx6⟩
      go_wp2_with fail
      refine (alive29 _).mono ?_
      rintro e w7 ⟨rfl, hx7⟩
      have hf := Lib.hid (hy.trans (hx6.trans hx7))
      go_wp2_with fail
      go_ret
      exact ⟨rfl, hf.out⟩
    · have d1 : decide ((1000 : Int) < (Ll.length : Int)) = false := by rw [decide_eq_false_iff_not]; omega
      by_cases h3 : 1500 < La.length
      · have d2 : decide ((1500 : Int) < (La.length : Int)) = true := by rw [decide_eq_true_eq]; omega
        go_wp2_with fail
        refine (kwants_p _).mono ?_
        rintro e w5 ⟨v5, rfl, hK5, hx⟩
        have hy := hXW.trans hx
        have hK5h := Lib.hid hK5
        obtain ⟨Ak, ck, rfl, _, _, _⟩ := hK5
        go_wp2_with fail
        refine (same_w _ _ _ _ hK5h.out (hWW.out.ext hx) (by simp)).mono ?_
        rintro e w6 ⟨rfl, hx6⟩
        go_wp2_with fail
        refine (alive29 _).mono ?_
        rintro e w7 ⟨rfl, hx7⟩
        have hf := Lib.hid (hy.trans (hx6.trans hx7))
        go_wp2_with fail
        go_ret
        exact ⟨rfl, hf.out⟩
      · have d2 : decide ((1500 : Int) < (La.length : Int)) = false := by rw [decide_eq_false_iff_not]; omega
        by_cases h4 : rs.length = 4
        · have d3 : ((rs.length : Int) != 4) = false := by rw [bne_eq_false_iff_eq]; omega
          obtain ⟨rfl, rfl⟩ : N = 1 ∧ Mode = 2 := by omega
          have hrl := Lib.hid h4
          clear h4 h1 hrsh
          go_wp2_with fail
          refine (kwants_p _).mono ?_
          rintro e w5 ⟨v5, rfl, hK5, hx⟩
          have hy := hXW.trans hx
          have hK5h := Lib.hid hK5
          obtain ⟨Ak, ck, rfl, _, _, _⟩ := hK5
          go_wp2_with fail
          refine (same_w _ _ _ _ hK5h.out (hWW.out.ext hx) (by simp)).mono ?_
          rintro e w6 ⟨rfl, hx6⟩
          go_wp2_with fail
          refine (alive29 _).mono ?_
          rintro e w7 ⟨rfl, hx7⟩
          have hf := Lib.hid (hy.trans (hx6.trans hx7))
          go_wp2_with fail
          go_ret
          exact ⟨rfl, hf.out⟩
        · have d3 : ((rs.length : Int) != 4) = true := by rw [bne_iff_ne]; omega
          go_wp2_with fail
          refine (kwants_p _).mono ?_
          rintro e w5 ⟨v5, rfl, hK5, hx⟩
          have hy := hXW.trans hx
          have hK5h := Lib.hid hK5
          obtain ⟨Ak, ck, rfl, _, _, _⟩ := hK5
          go_wp2_with fail
          refine (same_w _ _ _ _ hK5h.out (hWW.out.ext hx) (by simp)).mono ?_
          rintro e w6 ⟨rfl, hx6⟩
          go_wp2_with fail
          refine (alive29 _).mono ?_
          rintro e w7 ⟨rfl, hx7⟩
          have hf := Lib.hid (hy.trans (hx6.trans hx7))
          go_wp2_with fail
          go_ret
          exact ⟨rfl, hf.out⟩
end Go.Proofs.YtpcohbpeglledaaGreat
/-
  KesselsPlays: the input opened.
-/
namespace Go.Proofs.YtpcohbpeglledaaGreat.kesselsPlays
open Go.ChangeShapes Go.WideShapes Go.ChangeAt Go.RowKit Kv
set_option maxRecDepth 100000 in
theorem main (H : Type) (enc : TypeId × Value → H) (W : World) (base : Nat) (args : Array Value) (ds : List (DataW H)) (p : List MemPlace)
    (hval : ∀ (j : Nat) t v, Tryz.f4.params[j]? = some t → args[j]? = some v → Value.okWide Tryz.prog W .any base t v)
    (hA : DataW.TrodAll enc Tryz.prog W 0 (fun _ => true) true Tryz.f4.params.toList args.toList ds p) (_hL : laidMetH Tryz.prog Rows.kesselsPlaysRow.laid W) :
    Calls Tryz.prog 4 args W fun e w' => e = .returned (.bool true) ∧ Ext W w' := by
  rw [Tryz.params4] at hA hval
  obtain ⟨v0, vs0, d0, ds0, p0, q0, hargs, rfl, rfl, h0, r0⟩ := trodAll_cons hA
  obtain ⟨rfl, rfl, rfl⟩ := trodAll_nil r0
  obtain rfl : args = #[v0] := by cases args; simp_all
  obtain ⟨c0, c1, c2, c3, c4, c5, y0, y1, y2, y3, y4, y5, m, rfl, g0, g1, g2, g3, g4, g5⟩ := open_agg6 Tryz.underlying24 (by kernel_rfl) (by kernel_rfl) (hval 0 24 v0 rfl rfl) h0
  obtain ⟨x0, e0, -, -⟩ := DataW.trod_int Tryz.underlying3 g0
  obtain ⟨x1, e1, -, -⟩ := DataW.trod_int Tryz.underlying3 g1
  obtain ⟨x2, e2, -, -⟩ := DataW.trod_int Tryz.underlying3 g2
  obtain ⟨x3, e3, -, -⟩ := DataW.trod_int Tryz.underlying3 g3
  obtain ⟨Ll, hL, -⟩ := ints_trod g4
  obtain ⟨La, hLa, -⟩ := ints_trod g5
  simp at e0 e1 e2 e3
  subst e0 e1 e2 e3
  exact kessels_walk x0 x1 x2 x3 c4 c5 Ll La W hL hLa
end Go.Proofs.YtpcohbpeglledaaGreat.kesselsPlays
/-
  KesselsPlays holds: whoever enters or leaves a Kessels lock does what the document says, access by access, whatever it is answered.
-/
namespace Go.Proofs.YtpcohbpeglledaaGreat.kesselsPlays
open Go.ChangeShapes Go.WideShapes Go.ChangeAt Go.RowKit

theorem laidOut : laidOutB Tryz.prog = true := by kernel_rfl
set_option maxRecDepth 100000 in
theorem contract (H : Type) (enc : TypeId × Value → H) (W : World) (base : Nat) (args : Array Value) (ds gs : List (DataW H)) (before : List MemPlace)
    (hval : ∀ (j : Nat) t v, Tryz.f4.params[j]? = some t → args[j]? = some v → Value.okWide Tryz.prog W .any base t v)
    (hW : DataW.Whole enc Tryz.prog Tryz.f4.params.toList Rows.kesselsPlaysSpec.vars false W args.toList ds gs before) (hL : laidMetH Tryz.prog Rows.kesselsPlaysRow.laid W) :
    Calls Tryz.prog 4 args W fun e W' => ∃ v, e = .returned v ∧ Rows.kesselsPlaysSpec.post enc Tryz.prog Tryz.f4 false true false false W args v W' := by
  refine (main H enc W base args ds before hval (by obtain ⟨p, q, hA, hV, hpq, _, _⟩ := hW; obtain ⟨_, rfl⟩ := trodVars_none hV; rw [List.append_nil] at hpq; subst hpq; exact hA) hL).mono fun e W' ⟨he, hg⟩ => ⟨_, he, ?_⟩
  refine law_post (tb := 4) laidOut ?_ (by kernel_rfl) Tryz.underlying4 rfl ?_ hW hg
  · rw [Tryz.params4]
    intro t ht
    simp only [List.mem_cons, List.not_mem_nil, or_false] at ht
    rcases ht with rfl <;> exact ⟨by kernel_rfl, of_decide_eq_true (by kernel_rfl)⟩
  · intro ds hl
    rw [Tryz.params4] at hl
    match ds, hl with
    | [d0], _ => rfl
set_option maxRecDepth 100000 in
theorem laid_met (os : Os) : laidMet Tryz.prog Rows.kesselsPlaysRow.laid (((World.holding Tryz.prog os ⟨#[], #[], []⟩)).forCall (fun _ _ => 0) ⟨#[], #[.agg #[.int .i64 0, .int .i64 0, .int .i64 0, .int .i64 0, .slice none 0 0, .slice none 0 0]], []⟩).memory :=
  laidMet_of_run' 8 (by kernel_rfl) (by kernel_rfl)
set_option maxRecDepth 100000 in
theorem reads (os : Os) {H : Type} (enc : TypeId × Value → H) : ∃ places, DataW.whole enc Tryz.prog (((World.holding Tryz.prog os ⟨#[], #[], []⟩)).forCall (fun _ _ => 0) ⟨#[], #[.agg #[.int .i64 0, .int .i64 0, .int .i64 0, .int .i64 0, .slice none 0 0, .slice none 0 0]], []⟩).memory Tryz.f4.params.toList Rows.kesselsPlaysSpec.vars false (#[.agg #[.int .i64 0, .int .i64 0, .int .i64 0, .int .i64 0, .slice none 0 0, .slice none 0 0]] : Array Value).toList 8 = some ([.agg [.lit (.int .i64 0), .lit (.int .i64 0), .lit (.int .i64 0), .lit (.int .i64 0), .nil, .nil]], [], places) :=
  ⟨[], by kernel_rfl⟩
set_option maxRecDepth 100000 in
theorem lifted (os : Os) (started : os.Started) (H : Type) (enc : TypeId × Value → H) (F : Stop.Interp) :
    ReturnsInHanded {} Tryz.checked os 4 .any ((OpenSpec.ofChange Rows.kesselsPlaysSpec).preRow enc Tryz.prog Tryz.f4 Rows.kesselsPlaysRow.domain false Rows.kesselsPlaysRow.laid) (((OpenSpec.ofChange Rows.kesselsPlaysSpec).at F).post enc Tryz.prog Tryz.f4 false true false false) := by
  obtain ⟨places, hx⟩ := reads os enc
  refine returnsInHanded_of_row (C := Tryz.checked) (s := (OpenSpec.ofChange Rows.kesselsPlaysSpec)) own started (by kernel_rfl) Tryz.func4
    (witness_row_at (enc := enc) (C := Tryz.checked) false (World.holding Tryz.prog os ⟨#[], #[], []⟩) #[.agg #[.int .i64 0, .int .i64 0, .int .i64 0, .int .i64 0, .slice none 0 0, .slice none 0 0]] rfl (by kernel_rfl) (by kernel_rfl) (by kernel_rfl)
      (OpenSpec.preRow_of_cond 8 hx (by kernel_rfl) (fun k hk => by cases hk) (by kernel_rfl) (laid_met os))) ?_
  intro W base args ds gs before hval hW _ _ _ hL _ _
  exact contract H enc W base args ds gs before hval hW hL
theorem said : Rows.KesselsPlaysSaid :=
  OpenClaim.holds_of_cond 4 Tryz.f4 rfl rfl rfl rfl rfl rfl rfl ⟨rfl, rfl, rfl, rfl, rfl⟩ rfl rfl rfl rfl rfl (by kernel_rfl) Tryz.func4 (by kernel_rfl)
    (of_decide_eq_true (by kernel_rfl)) (by unfold Func.isWrapper; first | (rw [if_pos (by decide +kernel)]; kernel_rfl) | (rw [if_neg (by decide +kernel)]; exact ⟨rfl, rfl⟩))
    (fun os started H enc _ F => by rw [OpenClaim.pre_eq_preRow]; exact lifted os started H enc F)

end Go.Proofs.YtpcohbpeglledaaGreat.kesselsPlays
