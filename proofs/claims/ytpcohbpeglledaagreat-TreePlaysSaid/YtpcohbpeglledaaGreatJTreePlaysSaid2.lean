/-
  The splitter: what any thread does that passes it is the document's, access by access.
-/
import Derived.Test.YtpcohbpeglledaaGreatJTreePlaysSaid1
import Derived.Deep.DeepCutAuto
import Derived.Laws.EntriesVeiled
/-
  The splitter: what any thread does that passes it is the document's, access by access.
-/
namespace Go.Proofs.YtpcohbpeglledaaGreat
open Go.RowKit Kv
/-- Registers that lay there ahead of a play. -/
theorem regsP {w0 w1 : World} {B p b : Nat} {S : TS} {rs : List Reg} (hb : b < w0.heap.size) (hc : ∀ (i : Nat) u, (rs.flatMap regVals)[i]? = some u → w0.cell? ⟨b, i, none⟩ = some u) (hx : Ext w0 w1) (hP : Plays B w1 p S) (hB : w0.heap.size ≤ B) : RegsAt [2, 3, 4] w1 p b rs := by
  refine ⟨Nat.lt_of_lt_of_le hb hx.size, fun ho => ?_, fun j u hu => (hx.cell (p := ⟨b, j, none⟩) hb).trans (hc j u hu)⟩
  obtain ⟨_, _, _, _, _, _, h⟩ := hP
  have := (h.own ho).1
  omega
theorem regsR {w0 w1 : World} {B p b : Nat} {o : Bool} {S : TS} {rs : List Reg} (hb : b < w0.heap.size) (hc : ∀ (i : Nat) u, (rs.flatMap regVals)[i]? = some u → w0.cell? ⟨b, i, none⟩ = some u) (hx : Ext w0 w1) (hP : RAt B w1 p o S) (hB : w0.heap.size ≤ B) : RegsAt [3, 4, 5] w1 p b rs := by
  refine ⟨Nat.lt_of_lt_of_le hb hx.size, fun ho => ?_, fun j u hu => (hx.cell (p := ⟨b, j, none⟩) hb).trans (hc j u hu)⟩
  obtain ⟨_, _, _, _, _, _, h, _⟩ := hP
  have := (h.own ho).1
  omega
theorem closure31 (B p : Nat) (S : TS) (x y : Reg) (t : Int) (b c bl bt : Nat) (w : World) (h : Plays B w p S) (hl : RegsAt [2, 3, 4] w p b [x, y]) (hx : x.ok) (hy : y.ok) (hm : 0 ≤ t) (hmx : t < x.n) (hmy : t < y.n)
    (c1 : w.cell? ⟨bl, 0, none⟩ = some (.slice (some ⟨b, 0, none⟩) 2 c)) (c2 : w.cell? ⟨bt, 0, none⟩ = some (.int .i64 t)) :
    Calls Tryz.prog 18 #[.pointer (some ⟨p, 0, none⟩), .pointer (some ⟨bl, 0, none⟩), .pointer (some ⟨bt, 0, none⟩)] w (Post encI B p w ((passM x y t).run S)) := by
  generalize hR : Post encI B p w ((passM x y t).run S) = R
  have hO : Owes R encI B p w ((passM x y t).run S) := hR ▸ owes _ _ _ _ _
  clear hR
  have hK := Keep.refl [2, 3, 4] B p w
  go_enter Tryz.func18, Tryz.ntmps18
  go_wp2_with fail
  clear c1 c2
  refine tlast hO hK (pass_p B p S x y t b c w h hl hx hy hm hmx hmy) (fun _ h => ⟨rfl, h⟩) ?_
  intro v S1 w1 hr hP1 hk1 hK1 hO1
  have hf := hO1.done hP1 hK1
  clear hO1 hP1 hK1 hr hk1 hO h hl hK
  go_wp2_with fail
  exact hf
theorem alive31a (B p : Nat) (S : TS) (x y : Reg) (b c bl : Nat) (w : World) (h : Plays B w p S) (hl : RegsAt [2, 3, 4] w p b [x, y]) (hx : x.ok) (hy : y.ok) (hmx : 2 < x.n) (hmy : 2 < y.n)
    (c1 : w.cell? ⟨bl, 0, none⟩ = some (.slice (some ⟨b, 0, none⟩) 2 c)) :
    Calls Tryz.prog 83 #[.pointer (some ⟨p, 0, none⟩), .pointer (some ⟨bl, 0, none⟩)] w (Post encI B p w ((passM x y 2).run S)) := by
  generalize hR : Post encI B p w ((passM x y 2).run S) = R
  have hO : Owes R encI B p w ((passM x y 2).run S) := hR ▸ owes _ _ _ _ _
  clear hR
  have hK := Keep.refl [2, 3, 4] B p w
  go_enter Tryz.func83, Tryz.ntmps83
  go_wp2_with fail
  clear c1
  refine tlast hO hK (pass_p B p S x y 2 b c w h hl hx hy (by omega) hmx hmy) (fun _ h => ⟨rfl, h⟩) ?_
  intro v S1 w1 hr hP1 hk1 hK1 hO1
  have hf := hO1.done hP1 hK1
  clear hO1 hP1 hK1 hr hk1 hO h hl hK
  go_wp2_with fail
  exact hf
theorem alive31b (B p : Nat) (S : TS) (x y : Reg) (b c bl : Nat) (w : World) (h : Plays B w p S) (hl : RegsAt [2, 3, 4] w p b [x, y]) (hx : x.ok) (hy : y.ok) (hmx : 0 < x.n) (hmy : 0 < y.n)
    (c1 : w.cell? ⟨bl, 0, none⟩ = some (.slice (some ⟨b, 0, none⟩) 2 c)) :
    Calls Tryz.prog 84 #[.pointer (some ⟨p, 0, none⟩), .pointer (some ⟨bl, 0, none⟩)] w (Post encI B p w ((passM x y 0).run S)) := by
  generalize hR : Post encI B p w ((passM x y 0).run S) = R
  have hO : Owes R encI B p w ((passM x y 0).run S) := hR ▸ owes _ _ _ _ _
  clear hR
  have hK := Keep.refl [2, 3, 4] B p w
  go_enter Tryz.func84, Tryz.ntmps84
  go_wp2_with fail
  clear c1
  refine tlast hO hK (pass_p B p S x y 0 b c w h hl hx hy (by omega) hmx hmy) (fun _ h => ⟨rfl, h⟩) ?_
  intro v S1 w1 hr hP1 hk1 hK1 hO1
  have hf := hO1.done hP1 hK1
  clear hO1 hP1 hK1 hr hk1 hO h hl hK
  go_wp2_with fail
  exact hf
theorem ints_new (w : World) (l : List Int) (h : l.length ≤ 9223372036854775807) : Ints (w.alloc (.cells (l.map (Value.int .i64)).toArray 3)) (.slice (some ⟨w.heap.size, 0, none⟩) l.length l.length) l := by
  refine ⟨_, _, rfl, Nat.le_refl _, h, fun _ => ⟨w.heap.size, 0, rfl, by simp, fun i x hi => ?_⟩⟩
  have hh := World.alloc_heap_new w (.cells (l.map (Value.int .i64)).toArray 3)
  simp only [World.cell?, hh, Nat.zero_add]
  simp [hi]
/-- An Out's parts. -/
theorem Outs.parts {w : World} {v : Value} {d : Bool} {S : TS} (h : Outs w v d S) : ∃ A c A' c' As k n, v = .agg #[.bool d, .slice A S.acc.length c, .slice A' S.nts.length c', .slice As n k] := by
  obtain ⟨A, c, A', c', vs, L, rfl, hO⟩ := h
  obtain ⟨As, k, rfl, _, _⟩ := hO.locs.slice
  exact ⟨A, c, A', c', As, k, _, rfl⟩
def ra : Reg := ⟨1, 3, 2, 3, -1, -1, 3⟩
def rb : Reg := ⟨1, 4, 2, 3, -1, -1, 1⟩
set_option maxRecDepth 100000 in
theorem alive31 (w : World) : Calls Tryz.prog 14 #[] w fun e w' => e = .returned (.bool true) ∧ Ext w w' := by
  have hlay : layM [⟨-1, nM 3⟩, ⟨-1, 1⟩] 3 1 3 2 = some [ra, rb] := by rfl
  have hra : ra.ok := ⟨.inl rfl, by decide, by decide, by decide, fun h => by cases h⟩
  have hrb : rb.ok := ⟨.inl rfl, by decide, by decide, by decide, fun h => by cases h⟩
  have hmf : ∀ (fn : Fn) (first cap : Array Value) (w : World), (Instr.makeFunc fn first cap).run Tryz.prog w = .ok (.func fn first cap) w := fun _ _ _ _ => rfl
  go_enter Tryz.func14, Tryz.ntmps14
  go_wp2_with fail
  refine (swants_p 3 w).mono ?_
  rintro e w1 ⟨v1, rfl, hW, hX⟩
  have hSm := some_r v1 _ 3 1 w1 hW (by simp)
  rw [hlay] at hSm
  obtain ⟨Aw, cw, rfl, _, _, _⟩ := hW
  clear hlay
  go_wp2_with fail
  refine hSm.mono ?_
  rintro e w2 ⟨v2, rfl, hx2, hrow⟩
  replace hX := hX.trans hx2
  obtain ⟨Ar, cr, rfl, r1, r2, hV⟩ := Recs.of_row hrow
  clear hSm hrow hx2
  obtain ⟨b, rfl, hb, hc⟩ := hV (by simp [regVals])
  simp only [Option.getD_some, List.length_cons, List.length_nil] at *
  go_wp2_with fail
  have g1 := Blk.new w2 (.cells #[.slice (some ⟨b, 0, none⟩) 2 cr] 28)
  have x1 := (Ext.refl w2).alloc (.cells #[.slice (some ⟨b, 0, none⟩) 2 cr] 28)
  have hA := ints_new (w2.alloc (.cells #[.slice (some ⟨b, 0, none⟩) 2 cr] 28)) [0, 0, 0, 3] (by simp)
  replace g1 := g1.alloc (.cells (([0, 0, 0, 3] : List Int).map (Value.int .i64)).toArray 3)
  replace x1 := x1.alloc (.cells (([0, 0, 0, 3] : List Int).map (Value.int .i64)).toArray 3)
  simp only [World.size_alloc, List.map_cons, List.map_nil, List.length_cons, List.length_nil] at hA g1 x1
  have hsz : w2.heap.size + 1 < (World.alloc (World.alloc w2 (.cells #[.slice (some ⟨b, 0, none⟩) 2 cr] 28)) (.cells #[.int .i64 0, .int .i64 0, .int .i64 0, .int .i64 3] 3)).heap.size := by simp
  generalize World.alloc (World.alloc w2 _) _ = W0 at *
  refine (play_int 83 #[.pointer (some ⟨w2.heap.size, 0, none⟩)] (passM ra rb 2) none 0 [] (some ⟨w2.heap.size + 1, 0, none⟩) 4 [0, 0, 0, 3] W0 (Ints.nil _) (by simp) hA (by decide) (fun k hk => by simp only [Value.ownBlock, Option.some.injEq] at hk; omega) (fun _ _ => rfl) (fun W p hxW hP => ?_)).mono ?_
  · exact alive31a _ p _ ra rb b cr w2.heap.size W hP (regsP hb hc (x1.trans hxW) hP (x1.trans (Ext.refl _)).size) hra hrb (by decide) (by decide) ((g1.ext hxW).cells 0)
  rintro e w3 ⟨v3, rfl, hO, hx3⟩
  have e1 : ((passM ra rb 2).run (TS0 [] [0, 0, 0, 3])).1 = some 0 := by rfl
  have e2 : ((passM ra rb 2).run (TS0 [] [0, 0, 0, 3])).2.acc.length = 4 := by rfl
  rw [e1] at hO ⊢
  generalize ((passM ra rb 2).run (TS0 [] [0, 0, 0, 3])).2 = S1 at *
  obtain ⟨A1, c1, A1', c1', As1, k1, n1, rfl⟩ := hO.parts
  rw [e2] at *
  simp only [Option.getD_some, Option.isSome_some]
  replace g1 := g1.ext hx3
  replace x1 := x1.trans hx3
  clear e1 e2 hO hA hsz hx3 hmf
  have hmf : ∀ (fn : Fn) (first cap : Array Value) (w : World), (Instr.makeFunc fn first cap).run Tryz.prog w = .ok (.func fn first cap) w := fun _ _ _ _ => rfl
  go_wp2_with fail
  have g2 := Blk.new w3 (.cells #[.bool true, .slice A1 4 c1, .slice A1' S1.nts.length c1', .slice As1 n1 k1] 36)
  have hA := ints_new (w3.alloc (.cells #[.bool true, .slice A1 4 c1, .slice A1' S1.nts.length c1', .slice As1 n1 k1] 36)) [0, 1] (by simp)
  replace g1 := (g1.alloc (.cells #[.bool true, .slice A1 4 c1, .slice A1' S1.nts.length c1', .slice As1 n1 k1] 36)).alloc (.cells (([0, 1] : List Int).map (Value.int .i64)).toArray 3)
  replace g2 := g2.alloc (.cells (([0, 1] : List Int).map (Value.int .i64)).toArray 3)
  replace x1 := (x1.alloc (.cells #[.bool true, .slice A1 4 c1, .slice A1' S1.nts.length c1', .slice As1 n1 k1] 36)).alloc (.cells (([0, 1] : List Int).map (Value.int .i64)).toArray 3)
  simp only [World.size_alloc, List.map_cons, List.map_nil, List.length_cons, List.length_nil] at hA g1 g2 x1
  have hsz : w3.heap.size + 1 < (World.alloc (World.alloc w3 (.cells #[.bool true, .slice A1 4 c1, .slice A1' S1.nts.length c1', .slice As1 n1 k1] 36)) (.cells #[.int .i64 0, .int .i64 1] 3)).heap.size := by simp
  generalize World.alloc (World.alloc w3 _) _ = W0 at *
  refine (play_int 84 #[.pointer (some ⟨w2.heap.size, 0, none⟩)] (passM ra rb 0) none 0 [] (some ⟨w3.heap.size + 1, 0, none⟩) 2 [0, 1] W0 (Ints.nil _) (by simp) hA (by decide) (fun k hk => by simp only [Value.ownBlock, Option.some.injEq] at hk; omega) (fun _ _ => rfl) (fun W p hxW hP => ?_)).mono ?_
  · exact alive31b _ p _ ra rb b cr w2.heap.size W hP (regsP hb hc (x1.trans hxW) hP x1.size) hra hrb (by decide) (by decide) ((g1.ext hxW).cells 0)
  rintro e w4 ⟨v4, rfl, hO, hx4⟩
  have e1 : ((passM ra rb 0).run (TS0 [] [0, 1])).1 = some 1 := by rfl
  have e2 : ((passM ra rb 0).run (TS0 [] [0, 1])).2.acc.length = 2 := by rfl
  rw [e1] at hO ⊢
  generalize ((passM ra rb 0).run (TS0 [] [0, 1])).2 = S2 at *
  obtain ⟨A2, c2, A2', c2', As2, k2, n2, rfl⟩ := hO.parts
  rw [e2] at *
  simp only [Option.getD_some, Option.isSome_some]
  replace g2 := g2.ext hx4
  replace x1 := x1.trans hx4
  clear e1 e2 hO hA hsz hx4 hmf g1
  have c_g2 := g2.cells
  have hfin := Lib.hid (hX.trans (x1.alloc (.cells #[.bool true, .slice A2 2 c2, .slice A2' S2.nts.length c2', .slice As2 n2 k2] 36)))
  have c_g3 := (g2.alloc (.cells #[.bool true, .slice A2 2 c2, .slice A2' S2.nts.length c2', .slice As2 n2 k2] 36)).cells
  go_wp2_with fail
  go_ret
  exact ⟨rfl, hfin.out⟩
set_option maxRecDepth 100000 in
set_option maxHeartbeats 1000000 in
theorem splits_walk (N Mode Side Me : Int) (vL vA : Value) (Ll La : List Int) (w : World) (hL : Ints w vL Ll) (hA : Ints w vA La) :
    Calls Tryz.prog 3 #[.agg #[.int .i64 N, .int .i64 Mode, .int .i64 Side, .int .i64 Me, vL, vA]] w fun e w' => e = .returned (.bool true) ∧ Ext w w' := by
  obtain ⟨Al, cl, rfl, p1, p2⟩ := hL.slice
  obtain ⟨Aa, ca, rfl, p3, p4⟩ := hA.slice
  have hmf : ∀ (fn : Fn) (first cap : Array Value) (w : World), (Instr.makeFunc fn first cap).run Tryz.prog w = .ok (.func fn first cap) w := fun _ _ _ _ => rfl
  have hX := Ext.refl w
  have b1 := Blk.new w (.cells #[.int .i64 N, .int .i64 Mode, .int .i64 Side, .int .i64 Me, .slice Al Ll.length cl, .slice Aa La.length ca] 24)
  replace hX := hX.alloc (.cells #[.int .i64 N, .int .i64 Mode, .int .i64 Side, .int .i64 Me, .slice Al Ll.length cl, .slice Aa La.length ca] 24)
  have c_b1 := b1.cells
  go_enter Tryz.func3, Tryz.ntmps3
  go_wp2_with fail
  refine (swants_p N _).mono ?_
  rintro e w1 ⟨v1, rfl, hW, hx⟩
  replace hX := hX.trans hx
  replace b1 := b1.ext hx
  clear c_b1 hx
  have c_b1 := b1.cells
  have hWh := Lib.hid hW
  obtain ⟨Aw, cw, rfl, _, _, _⟩ := hW
  go_wp2_with fail
  refine (rwants31_r N _).mono ?_
  rintro e w2 ⟨v2, rfl, hW2, hx⟩
  replace hX := hX.trans hx
  replace b1 := b1.ext hx
  clear c_b1
  have c_b1 := b1.cells
  have hW1 := hWh.out.ext hx
  clear hx hWh
  have hW2h := Lib.hid hW2
  obtain ⟨Aw2, cw2, rfl, _, _, _⟩ := hW2
  go_wp2_with fail
  refine (same_w _ _ _ _ hW1 hW2h.out (by simp)).mono ?_
  rintro e w3 ⟨rfl, hx⟩
  replace hX := hX.trans hx
  replace b1 := b1.ext hx
  clear c_b1
  have c_b1 := b1.cells
  replace hW1 := hW1.ext hx
  clear hx hW2h
  have hSm := some_r _ _ N Mode w3 hW1 (by simp)
  clear hW1
  go_wp2_with fail
  refine hSm.mono ?_
  rintro e w4 ⟨v4, rfl, hx, hrow⟩
  replace hX := hX.trans hx
  replace b1 := b1.ext hx
  clear c_b1 hSm hx
  have c_b1 := b1.cells
  generalize hrs : (layM [⟨-1, nM N⟩, ⟨-1, 1⟩] N Mode 3 2).getD [] = rs at *
  obtain ⟨Ar, cr, rfl, r1, r2, hV⟩ := Recs.of_row hrow
  clear hrow
  have hVh := Lib.hid hV
  have hrsh := Lib.hid hrs
  clear hV hrs
  have g1 := Blk.new w4 (.cells #[.slice Ar rs.length cr] 28)
  have x1 := (Ext.refl w4).alloc (.cells #[.slice Ar rs.length cr] 28)
  have c_g1 := g1.cells
  replace b1 := b1.alloc (.cells #[.slice Ar rs.length cr] 28)
  have c_b1' := b1.cells
  have hXW := hX.alloc (.cells #[.slice Ar rs.length cr] 28)
  by_cases h1 : Ll.length ≤ 1000 ∧ La.length ≤ 1500 ∧ rs.length = 2
  · obtain ⟨h1, h2, h3⟩ := h1
    have d1 : decide ((1000 : Int) < (Ll.length : Int)) = false := by rw [decide_eq_false_iff_not]; omega
    have d2 : decide ((1500 : Int) < (La.length : Int)) = false := by rw [decide_eq_false_iff_not]; omega
    obtain ⟨x, y, rfl⟩ : ∃ x y, rs = [x, y] := by
      match rs, h3 with
      | [x, y], _ => exact ⟨x, y, rfl⟩
    have hly : layM [⟨-1, nM N⟩, ⟨-1, 1⟩] N Mode 3 2 = some [x, y] := by
      have := hrsh.out
      cases hc : layM [⟨-1, nM N⟩, ⟨-1, 1⟩] N Mode 3 2 with
      | none => rw [hc] at this; cases this
      | some rs => rw [hc] at this; simpa using this
    obtain ⟨⟨_, _, n1, n2, _, _⟩, hwr, _⟩ := layM_args hly
    obtain ⟨x', hx', hxl⟩ := layM_at hly (i := 0) rfl
    obtain ⟨y', hy', hyl⟩ := layM_at hly (i := 1) rfl
    obtain rfl : x = x' := by simpa using hx'
    obtain rfl : y = y' := by simpa using hy'
    obtain ⟨hxo, hxn, _⟩ := hxl.ok ⟨n1, n2⟩ (hwr _ (by simp))
    obtain ⟨hyo, hyn, _⟩ := hyl.ok ⟨n1, n2⟩ (hwr _ (by simp))
    have hw1 := IntWalk.i64_in (N - 1) (by omega)
    have ht := wrapI_bd Me (N - 1)
    rw [show clamp (N - 1) 1099511627776 = N - 1 from by unfold clamp within; omega] at ht
    obtain ⟨b, rfl, hb, hc⟩ := hVh.out (by simp [regVals])
    clear hrsh hVh hly hxl hyl hx' hy' hwr h3
    simp only [List.length_cons, List.length_nil] at *
    go_wp2_with fail
    refine (wrap_r Me (N - 1) _).mono ?_
    rintro e w' ⟨rfl, rfl⟩
    generalize wrapI Me (N - 1) = t at *
    go_wp2_with fail
    have g2 := Blk.new (w4.alloc (.cells #[.slice (some ⟨b, 0, none⟩) 2 cr] 28)) (.cells #[.int .i64 t] 3)
    replace g1 := g1.alloc (.cells #[.int .i64 t] 3)
    replace b1 := b1.alloc (.cells #[.int .i64 t] 3)
    replace x1 := x1.alloc (.cells #[.int .i64 t] 3)
    replace hX := hXW.alloc (.cells #[.int .i64 t] 3)
    simp only [World.size_alloc] at g2
    clear c_b1 c_b1' c_g1 hXW
    generalize World.alloc (World.alloc w4 _) _ = W1 at *
    have hE := (Ext.refl W1).drew
    have hS : ∀ w', Ext W1 w' → (∀ i, w'.cell? ⟨w.heap.size, i, none⟩ = (#[.int .i64 N, .int .i64 Mode, .int .i64 Side, .int .i64 Me, .slice Al Ll.length cl, .slice Aa La.length ca] : Array Value)[i]?) := fun w' hx => (b1.ext hx).cells
    have hLW := Lib.hid (hL.ext hX)
    have hAW := Lib.hid (hA.ext hX)
    clear hL hA
    go_region_held2 (fun w' => ∀ i, w'.cell? ⟨w.heap.size, i, none⟩ = (#[.int .i64 N, .int .i64 Mode, .int .i64 Side, .int .i64 Me, .slice Al Ll.length cl, .slice Aa La.length ca] : Array Value)[i]?) (exact hS _ hE)
      (first
        | (go_at_call_of 16 (Value.int IntKind.i64 1048576)
           refine (tame_r _ La 1048576 _ (hAW.out.ext hE)).mono ?_
           rintro e w5 ⟨va, rfl, hra, hxa⟩
           replace hE := hE.trans hxa)
        | (go_at_call_of 16 (Value.int IntKind.i64 1024)
           refine (tame_r _ Ll 1024 _ (hLW.out.ext hE)).mono ?_
           rintro e w6 ⟨vl, rfl, hrl, hxl⟩
           replace hE := hE.trans hxl))
    rename_i hh
    clear hh hS hLW hAW b1
    have hIa := hra.ints.ext hxl
    have hIl := hrl.ints
    have hba : ∀ k, va.ownBlock = some k → k < w6.heap.size := fun k hk => Nat.lt_of_lt_of_le (hra.lt k hk).2 hxl.size
    have la : (tameL La 1048576).length ≤ 1500 := by unfold tameL; simp; omega
    have ll : (tameL Ll 1024).length ≤ 1000 := by unfold tameL; simp; omega
    clear hra hrl hxa hxl
    generalize tameL La 1048576 = a at *
    generalize tameL Ll 1024 = l at *
    obtain ⟨Aq, cq, rfl, _, _⟩ := hIa.slice
    obtain ⟨Al', cl', rfl, _, _⟩ := hIl.slice
    have hPl := play_int 18 #[.pointer (some ⟨w4.heap.size, 0, none⟩), .pointer (some ⟨w4.heap.size + 1, 0, none⟩)] (passM x y t) Al' cl' l Aq cq a w6 hIl (by omega) hIa (by unfold maxAns; omega) hba (fun _ _ => rfl) (fun W p hxW hP =>
      closure31 _ p _ x y t b cr w4.heap.size (w4.heap.size + 1) W hP (regsP hb hc (x1.trans (hE.trans hxW)) hP (x1.trans hE).size) hxo hyo ht.1 (by omega) (by omega) ((g1.ext (hE.trans hxW)).cells 0) ((g2.ext (hE.trans hxW)).cells 0))
    have hIah := Lib.hid hIa
    have hIlh := Lib.hid hIl
    clear hIa hIl
    go_wp2_with fail
    refine hPl.mono ?_
    rintro e w7 ⟨v3, rfl, hO, hx7⟩
    generalize hr : (passM x y t).run (TS0 l a) = r at hO ⊢
    clear hPl
    generalize hq : r.1.getD 0 = q
    have hOh := Lib.hid hO
    obtain ⟨A3, c3, A3', c3', As3, k3, n3, rfl⟩ := hO.parts
    clear hO
    go_wp2_with fail
    have g3 := Blk.new w7 (.cells #[.bool r.fst.isSome, .slice A3 r.snd.acc.length c3, .slice A3' r.snd.nts.length c3', .slice As3 n3 k3] 36)
    have x2 := hx7.alloc (.cells #[.bool r.fst.isSome, .slice A3 r.snd.acc.length c3, .slice A3' r.snd.nts.length c3', .slice As3 n3 k3] 36)
    have hOh2 := Lib.hid (hOh.out.ext ((Ext.refl w7).alloc (.cells #[.bool r.fst.isSome, .slice A3 r.snd.acc.length c3, .slice A3' r.snd.nts.length c3', .slice As3 n3 k3] 36)))
    clear hOh hx7
    generalize World.alloc w7 _ = W2 at *
    have hN := new_any Al' cl' l Aq cq a W2 (hIlh.out.ext x2) (hIah.out.ext x2) (by omega) (by unfold maxAns; omega) (fun k hk => Nat.lt_of_lt_of_le (hba k hk) x2.size)
    clear hIlh hIah hba
    refine hN.mono ?_
    rintro e w8 ⟨pm, rfl, hR, hx8⟩
    have y1 := g1.ext (hE.trans (x2.trans hx8))
    have y2 := g2.ext (hE.trans (x2.trans hx8))
    have c_y1 := y1.cells
    have c_y2 := y2.cells
    clear hN
    go_wp2_with fail
    have hx4 : Ext w4 W2 := x1.trans (hE.trans x2)
    refine (pass_r W2.heap.size pm (TS0 l a) x y t b cr w8 hR (regsR hb hc (hx4.trans hx8) hR hx4.size) hxo hyo ht.1 (by omega) (by omega)).mono ?_
    rintro e w9 ⟨z, o', S', rfl, hRef, hz0, hR9, hK9⟩
    have hx9 : Ext W2 w9 := Below.trans hx8 hK9.below
    have hrun := hRef.outcome
    rw [hr] at hrun
    have hz : q = z := by
      rw [← hq, hrun]
      cases o' with
      | true => exact (hz0 rfl).symm
      | false => rfl
    subst hz
    have hsome : r.1.isSome = !o' := by rw [hrun]; cases o' <;> rfl
    have hS2 : r.2 = S' := by rw [hrun]
    have hO9 := hOh2.out.ext hx9
    rw [hsome, hS2] at hO9 g3
    clear hrun hRef hz0 hq hR hK9 hx8 y1 y2 c_y1 c_y2 hOh2 g1 g2
    replace g3 := g3.ext hx9
    have c_g3 := g3.cells
    have hRh := Lib.hid hR9
    have hOh := Lib.hid hO9
    have hXf := Lib.hid (hX.trans (hE.trans (x2.trans hx9)))
    clear hR9 hO9 hX hE x2 hx9 x1 hx4
    have hqq : (q == q) = true := by simp
    go_wp2_with fail
    have hE := (Ext.refl w9).drew
    have hS : ∀ w', Ext w9 w' → (∀ i, w'.cell? ⟨w7.heap.size, i, none⟩ = (#[.bool (!o'), .slice A3 S'.acc.length c3, .slice A3' S'.nts.length c3', .slice As3 n3 k3] : Array Value)[i]?) := fun w' hx => (g3.ext hx).cells
    go_region_held2 (fun w' => ∀ i, w'.cell? ⟨w7.heap.size, i, none⟩ = (#[.bool (!o'), .slice A3 S'.acc.length c3, .slice A3' S'.nts.length c3', .slice As3 n3 k3] : Array Value)[i]?) (exact hS _ hE)
      (first
        | (go_at_call 23
           refine (dout_r W2.heap.size pm o' S' _ (hRh.out.ext hE)).mono ?_
           rintro e w10 ⟨v5, rfl, hO5, hx5⟩
           replace hE := hE.trans hx5)
        | (go_at_call 22
           refine (same_r _ _ (!o') S' _ (hOh.out.ext hE) hO5).mono ?_
           rintro e w11 ⟨rfl, hx6⟩
           replace hE := hE.trans hx6)
        | (go_at_call 14
           refine (alive31 _).mono ?_
           rintro e w12 ⟨rfl, hx7⟩
           replace hE := hE.trans hx7))
    have hf := Lib.hid (hXf.out.trans hE)
    go_wp2_with fail
    go_ret
    exact ⟨rfl, hf.out⟩
  · by_cases h2 : 1000 < Ll.length
    · have d1 : decide ((1000 : Int) < (Ll.length : Int)) = true := by rw [decide_eq_true_eq]; omega
      go_wp2_with fail
      refine (alive31 _).mono ?_
      rintro e w5 ⟨rfl, hx⟩
      have hf := Lib.hid (hXW.trans hx)
      go_wp2_with fail
      go_ret
      exact ⟨rfl, hf.out⟩
    · have d1 : decide ((1000 : Int) < (Ll.length : Int)) = false := by rw [decide_eq_false_iff_not]; omega
      by_cases h3 : 1500 < La.length
      · have d2 : decide ((1500 : Int) < (La.length : Int)) = true := by rw [decide_eq_true_eq]; omega
        go_wp2_with fail
        refine (alive31 _).mono ?_
        rintro e w5 ⟨rfl, hx⟩
        have hf := Lib.hid (hXW.trans hx)
        go_wp2_with fail
        go_ret
        exact ⟨rfl, hf.out⟩
      · have d2 : decide ((1500 : Int) < (La.length : Int)) = false := by rw [decide_eq_false_iff_not]; omega
        have d3 : ((rs.length : Int) != 2) = true := by rw [bne_iff_ne]; omega
        go_wp2_with fail
        refine (alive31 _).mono ?_
        rintro e w5 ⟨rfl, hx⟩
        have hf := Lib.hid (hXW.trans hx)
        go_wp2_with fail
        go_ret
        exact ⟨rfl, hf.out⟩
end Go.Proofs.YtpcohbpeglledaaGreat
/-
  Kessels: what the law plays.
-/
namespace Go.Proofs.YtpcohbpeglledaaGreat
open Go.RowKit Kv
theorem kwants_p (w : World) : Calls Tryz.prog 25 #[] w fun e w' => ∃ v, e = .returned v ∧ WantsAt w' v (List.replicate 4 ⟨-1, 1⟩) ∧ Ext w w' := by
  go_enter Tryz.func25, Tryz.ntmps25
  go_wp2_with fail
  go_loopw [1, 2] (fun v i wr => ∃ j : Nat, i = .int .i64 j ∧ j ≤ 4 ∧ wr.ownsRow w.heap.size 64 2 v j ((List.replicate j (⟨-1, 1⟩ : Want)).flatMap wantVals) ∧ Ext w wr) (fun _ i _ => 4 - (intOf i).toNat)
  case atStart => exact ⟨0, rfl, by omega, World.ownsRow_nil _ _ _ _, Ext.refl _⟩
  case round =>
    obtain ⟨j, rfl, hj, hown, hE⟩ := hrel
    by_cases hl : j < 4
    · go_wp2_with (at_builtin; refine append_rec info_want Tryz.underlying25 rfl (by decide) (by decide) rfl _ _ rfl _ j _ [.int .i64 (-1), .int .i64 1] hE hown rfl rfl rfl (by simp [Value.oneCell']) (by omega) ?_)
      intro v' w' ho hx _
      have hoh := Lib.hid ho
      clear hown ho
      go_wp2_with fail
      refine ⟨⟨j + 1, by go_num, by omega, ?_, hx⟩, ?_⟩
      · rw [List.replicate_succ', List.flatMap_append]; exact hoh.out
      · simp [intOf]; omega
    · obtain rfl : j = 4 := by omega
      have hownh := Lib.hid hown
      clear hown
      go_wp2_with fail
      go_ret
      exact ⟨_, rfl, Recs.of_row hownh.out, hE⟩
theorem kclosE (B p N : Nat) (S : TS) (q0 q1 r0 r1 : Reg) (_a0 _a1 side _a3 me : Int) (_v4 _v5 : Value) (b c bl bx bt : Nat) (w : World) (h : Plays B w p S) (hl : RegsAt [2, 3, 4] w p b [q0, q1, r0, r1]) (hq0 : q0.ok) (hq1 : q1.ok) (hr0 : r0.ok) (hr1 : r1.ok)
    (hm0 : 0 ≤ me) (hm1 : me < q0.n) (hm2 : me < q1.n) (hm3 : me < r0.n) (hm4 : me < r1.n) (ht1 : q0.told me) (ht2 : q1.told me) (ht3 : r0.told me) (ht4 : r1.told me) (hN : S.left < N) (hc4 : 4 ≤ c) (hc5 : c ≤ 9223372036854775807)
    (c1 : w.cell? ⟨bl, 0, none⟩ = some (.slice (some ⟨b, 0, none⟩) 4 c)) (c2 : w.cell? ⟨bx, 2, none⟩ = some (.int .i64 side)) (c3 : w.cell? ⟨bt, 0, none⟩ = some (.int .i64 me)) :
    Calls Tryz.prog 27 #[.pointer (some ⟨p, 0, none⟩), .pointer (some ⟨bl, 0, none⟩), .pointer (some ⟨bx, 0, none⟩), .pointer (some ⟨bt, 0, none⟩)] w (Post encI B p w (((kesM N q0 q1 r0 r1 side me).bind fun _ => .ret 0).run S)) := by
  generalize hR : Post encI B p w (((kesM N q0 q1 r0 r1 side me).bind fun _ => .ret 0).run S) = R
  have hO : Owes R encI B p w (((kesM N q0 q1 r0 r1 side me).bind fun _ => .ret 0).run S) := hR ▸ owes _ _ _ _ _
  clear hR
  have hK := Keep.refl [2, 3, 4] B p w
  go_enter Tryz.func27, Tryz.ntmps27
  go_wp2_with fail
  clear c1 c2 c3
  refine tstep hO hK (kes_enter_p B p N S q0 q1 r0 r1 side me b c w h hl hq0 hq1 hr0 hr1 hm0 hm1 hm2 hm3 hm4 ht1 ht2 ht3 ht4 hN hc4 hc5) (fun _ h => ⟨rfl, h⟩) ?_
  intro v S1 w1 hr hP1 hk1 hK1 hO1
  have hf := hO1.done (v := (0 : Int)) hP1 hK1
  clear hO1 hP1 hK1 hr hk1 hO h hl hK
  go_wp2_with fail
  first | exact hf | (go_ret; exact hf)
theorem kclosL (B p : Nat) (S : TS) (q0 q1 r0 r1 : Reg) (side me : Int) (b c bl bx bt : Nat) (w : World) (h : Plays B w p S) (hl : RegsAt [2, 3, 4] w p b [q0, q1, r0, r1]) (hq0 : q0.ok) (hq1 : q1.ok)
    (hm0 : 0 ≤ me) (hm1 : me < q0.n) (hm2 : me < q1.n)
    (c1 : w.cell? ⟨bl, 0, none⟩ = some (.slice (some ⟨b, 0, none⟩) 4 c)) (c2 : w.cell? ⟨bx, 2, none⟩ = some (.int .i64 side)) (c3 : w.cell? ⟨bt, 0, none⟩ = some (.int .i64 me)) :
    Calls Tryz.prog 30 #[.pointer (some ⟨p, 0, none⟩), .pointer (some ⟨bl, 0, none⟩), .pointer (some ⟨bx, 0, none⟩), .pointer (some ⟨bt, 0, none⟩)] w (Post encI B p w (((kesL q0 q1 side me).bind fun _ => .ret 0).run S)) := by
  generalize hR : Post encI B p w (((kesL q0 q1 side me).bind fun _ => .ret 0).run S) = R
  have hO : Owes R encI B p w (((kesL q0 q1 side me).bind fun _ => .ret 0).run S) := hR ▸ owes _ _ _ _ _
  clear hR
  have hK := Keep.refl [2, 3, 4] B p w
  go_enter Tryz.func30, Tryz.ntmps30
  go_wp2_with fail
  clear c1 c2 c3
  refine tstep hO hK (kes_leave_p B p S q0 q1 r0 r1 side me b c w h hl hq0 hq1 hm0 hm1 hm2) (fun _ h => ⟨rfl, h⟩) ?_
  intro v S1 w1 hr hP1 hk1 hK1 hO1
  have hf := hO1.done (v := (0 : Int)) hP1 hK1
  clear hO1 hP1 hK1 hr hk1 hO h hl hK
  go_wp2_with fail
  first | exact hf | (go_ret; exact hf)
end Go.Proofs.YtpcohbpeglledaaGreat
/-
  Trees of locks of two sides: plain mathematics, and the program's pure parts.
-/
namespace Kv
/-- The nodes above a place, the lowest first. -/
def pathN : Nat → Nat → List Int
  | 0, _ => []
  | f + 1, x => if x ≤ 1 then [] else (x : Int) :: pathN f (x / 2)
theorem pathN_fuel : ∀ (f g x : Nat), x ≤ f → x ≤ g → pathN f x = pathN g x
  | 0, 0, x, _, _ => rfl
  | 0, g + 1, x, h, _ => by unfold pathN; rw [if_pos (by omega)]
  | f + 1, 0, x, _, h => by unfold pathN; rw [if_pos (by omega)]
  | f + 1, g + 1, x, h1, h2 => by
    unfold pathN
    split
    · rfl
    · rw [pathN_fuel f g (x / 2) (by omega) (by omega)]
theorem pathN_cons {x : Nat} (h : 1 < x) : pathN x x = (x : Int) :: pathN (x / 2) (x / 2) := by
  obtain ⟨y, rfl⟩ : ∃ y, x = y + 1 := ⟨x - 1, by omega⟩
  rw [show pathN (y + 1) (y + 1) = (if y + 1 ≤ 1 then [] else ((y + 1 : Nat) : Int) :: pathN y ((y + 1) / 2)) from rfl, if_neg (by omega), pathN_fuel y ((y + 1) / 2) _ (by omega) (by omega)]
theorem pathN_nil {x : Nat} (h : x ≤ 1) : pathN x x = [] := by
  cases x with
  | zero => rfl
  | succ x => rw [show pathN (x + 1) (x + 1) = (if x + 1 ≤ 1 then [] else ((x + 1 : Nat) : Int) :: pathN x ((x + 1) / 2)) from rfl, if_pos h]
theorem pathN_len : ∀ (f x : Nat), (pathN f x).length ≤ f
  | 0, _ => by simp [pathN]
  | f + 1, x => by
    unfold pathN
    split
    · simp
    · have := pathN_len f (x / 2)
      simp; omega
/-- The nodes above a place of a tree of so many places. -/
def pathL (m place : Nat) : List Int := pathN (2 ^ levels m + place) (2 ^ levels m + place)
theorem lev_le {m : Nat} (h : m ≤ 64) : levels m ≤ 6 := by
  have : ∀ m : Nat, m < 65 → levels m ≤ 6 := by decide +kernel
  exact this m (by omega)
theorem pow_le {k : Nat} (h : k ≤ 6) : 1 ≤ 2 ^ k ∧ 2 ^ k ≤ 64 := by
  have : ∀ k : Nat, k < 7 → 1 ≤ 2 ^ k ∧ 2 ^ k ≤ 64 := by decide
  exact this k (by omega)
end Kv
namespace Go.Proofs.YtpcohbpeglledaaGreat
open Go.RowKit Kv
set_option maxRecDepth 100000 in
set_option maxHeartbeats 1000000 in
theorem path_p (m place : Nat) (w : World) (h1 : 1 ≤ m) (h2 : m ≤ 64) (h3 : place < m) :
    Calls Tryz.prog 64 #[.int .i64 m, .int .i64 place] w fun e w' => ∃ v, e = .returned v ∧ IntRow w' w.heap.size v (pathL m place) ∧ Ext w w' := by
  have hlv := fun w => levels_p m (by omega) w
  have hle := lev_le h2
  unfold pathL
  generalize levels m = L at *
  obtain ⟨p1, p2⟩ := pow_le hle
  have hPi : (2 : Int) ^ L = ((2 ^ L : Nat) : Int) := by rw [Int.natCast_pow]; rfl
  generalize 2 ^ L = P at *
  have hsh : Op.shift .shl .i64 1 .i64 (L : Int) = pure (.int .i64 (P : Int)) := by
    rw [Go.shift_shl_i64 (x := 1) (y := (L : Int)) (yk := .i64) (by omega) (by omega), Int.one_mul, Int.toNat_natCast, hPi, IntWalk.i64_in _ (by omega)]
  clear hPi hle
  have d1 : decide ((m : Int) < 1) = false := by rw [decide_eq_false_iff_not]; omega
  have d2 : decide ((64 : Int) < (m : Int)) = false := by rw [decide_eq_false_iff_not]; omega
  have d3 : decide ((place : Int) < 0) = false := by rw [decide_eq_false_iff_not]; omega
  have d4 : decide (m ≤ place) = false := by rw [decide_eq_false_iff_not]; omega
  obtain ⟨X, hX⟩ : ∃ X : Nat, P + place = X := ⟨_, rfl⟩
  rw [hX]
  have hw : IntKind.i64.wrap ((P : Int) + (place : Int)) = (X : Int) := by rw [IntWalk.i64_in _ (by omega)]; omega
  go_enter Tryz.func64, Tryz.ntmps64
  go_wp2_with fail
  refine (hlv _).mono ?_
  rintro e w' ⟨rfl, rfl⟩
  go_wp2_with fail
  go_loopw [5, 6] (fun v i wr => ∃ (x : Nat) (l : List Int), i = .int .i64 x ∧ x ≤ 128 ∧ l.length + x ≤ X ∧ IntRow wr w.heap.size v l ∧ Hid (l ++ pathN x x = pathN X X) ∧ Ext w wr) (fun _ i _ => (intOf i).toNat)
  case atStart => exact ⟨X, [], rfl, by omega, by simp, IntRow.nil _ _, Lib.hid rfl, Ext.refl w⟩
  case round =>
    obtain ⟨x, l, rfl, hx, hln, hown, hpath, hE⟩ := hrel
    by_cases hx1 : 1 < x
    · have e1 : decide ((1 : Int) < (x : Int)) = true := by rw [decide_eq_true_eq]; omega
      go_wp2_with (at_builtin; refine append_int rfl _ _ rfl w.heap.size _ l x hown rfl rfl (by omega) hE.size ?_)
      intro v' w' ho hg
      have hx' := hE.appended hown hg
      have hoh := Lib.hid ho
      have hp2 : Hid ((l ++ [(x : Int)]) ++ pathN (x / 2) (x / 2) = pathN X X) := Lib.hid (by rw [← hpath.out, pathN_cons hx1, List.append_assoc]; rfl)
      clear hown ho hg hpath hE
      go_wp2_with fail
      refine ⟨⟨x / 2, l ++ [(x : Int)], by go_num, by omega, by simp; omega, hoh.out, hp2, hx'⟩, ?_⟩
      simp [intOf]; omega
    · have e1 : decide ((1 : Int) < (x : Int)) = false := by rw [decide_eq_false_iff_not]; omega
      have hp := hpath.out
      rw [pathN_nil (by omega), List.append_nil] at hp
      have hf := Lib.hid hown
      subst hp
      clear hown hpath
      go_wp2_with fail
      go_ret
      exact ⟨_, rfl, hf.out, hE⟩
end Go.Proofs.YtpcohbpeglledaaGreat
/-
  Trees of locks of two sides: nodes, wants and registers, by the program.
-/
namespace Go.Proofs.YtpcohbpeglledaaGreat
open Go.RowKit Kv
def fnV (n : Nat) : Value := .func (.func n) #[] #[]
/-- How many registers a node of a kind of tree has. -/
def eachK (kind : Int) : Nat := if kind = 7 then 4 else 3
def nodeV (kind : Int) : Value := if kind = 7 then .agg #[fnV 25, fnV 28, fnV 31] else .agg #[fnV 179, fnV 180, fnV 181]
set_option maxRecDepth 100000 in
theorem nodeOf_p (kind : Int) (w : World) : Calls Tryz.prog 131 #[.int .i64 kind] w fun e w' => e = .returned (nodeV kind) ∧ Ext w w' := by
  unfold nodeV
  by_cases h : kind = 7
  · have d : (kind == 7) = true := by simpa using h
    rw [if_pos h]
    clear h
    go_enter Tryz.func131, Tryz.ntmps131
    go_wp2_with fail
    refine bodyPost_ret (v := .agg #[fnV 25, fnV 28, fnV 31]) (by simp [results, Tryz.results131, go_sem, fnV]) rfl ?_
    exact ⟨rfl, (Ext.refl w).alloc _⟩
  · have d : (kind == 7) = false := by simpa using h
    rw [if_neg h]
    clear h
    go_enter Tryz.func131, Tryz.ntmps131
    go_wp2_with fail
    refine bodyPost_ret (v := .agg #[fnV 179, fnV 180, fnV 181]) (by simp [results, Tryz.results131, go_sem, fnV]) rfl ?_
    exact ⟨rfl, (Ext.refl w).alloc _⟩
theorem wants_node (kind : Int) (w : World) : ∃ n, ((kind = 7 ∧ n = 25) ∨ (kind ≠ 7 ∧ n = 179)) ∧ Calls Tryz.prog n #[] w fun e w' => ∃ v, e = .returned v ∧ WantsAt w' v (List.replicate (eachK kind) ⟨-1, 1⟩) ∧ Ext w w' := by
  unfold eachK
  by_cases h : kind = 7
  · rw [if_pos h]
    exact ⟨_, .inl ⟨h, rfl⟩, kwants_p w⟩
  · rw [if_neg h]
    exact ⟨_, .inr ⟨h, rfl⟩, awants_p w⟩
end Go.Proofs.YtpcohbpeglledaaGreat
/-
  Trees of locks of two sides: wants and registers, by the program.
-/
namespace Go.Proofs.YtpcohbpeglledaaGreat
open Go.RowKit Kv
set_option maxRecDepth 100000 in
set_option maxHeartbeats 1000000 in
theorem twants_p7 (kind : Int) (m : Nat) (w : World) (h1 : 1 ≤ m) (h2 : m ≤ 64) (hk : kind = 7) :
    Calls Tryz.prog 63 #[.int .i64 kind, .int .i64 m] w fun e w' => ∃ v, e = .returned v ∧ WantsAt w' v (List.replicate (4 * (2 ^ levels m - 1)) ⟨-1, 1⟩) ∧ Ext w w' := by
  have hlv := fun w => levels_p m (by omega) w
  have hle := lev_le h2
  generalize levels m = L at *
  obtain ⟨p1, p2⟩ := pow_le hle
  have hPi : (2 : Int) ^ L = ((2 ^ L : Nat) : Int) := by rw [Int.natCast_pow]; rfl
  generalize 2 ^ L = P at *
  have hsh : Op.shift .shl .i64 1 .i64 (L : Int) = pure (.int .i64 (P : Int)) := by
    rw [Go.shift_shl_i64 (x := 1) (y := (L : Int)) (yk := .i64) (by omega) (by omega), Int.one_mul, Int.toNat_natCast, hPi, IntWalk.i64_in _ (by omega)]
  clear hPi hle
  obtain ⟨M, rfl⟩ : ∃ M, P = M + 1 := ⟨P - 1, by omega⟩
  have hw : IntKind.i64.wrap (((M + 1 : Nat) : Int) - 1) = (M : Int) := by rw [IntWalk.i64_in _ (by omega)]; omega
  rw [Nat.add_sub_cancel]
  generalize hQ : M + 1 = Q at *
  have hM : M ≤ 63 := by omega
  have d1 : decide ((m : Int) < 1) = false := by rw [decide_eq_false_iff_not]; omega
  have d2 : decide ((64 : Int) < (m : Int)) = false := by rw [decide_eq_false_iff_not]; omega
  have hn : nodeV kind = .agg #[.func (.func 25) #[] #[], .func (.func 28) #[] #[], .func (.func 31) #[] #[]] := by unfold nodeV; rw [if_pos hk]; rfl
  have hN := fun w => nodeOf_p kind w
  rw [hn] at hN
  have hfd : ∀ w, (Instr.field 117 (.agg #[.func (.func 25) #[] #[], .func (.func 28) #[] #[], .func (.func 31) #[] #[]]) 0).run Tryz.prog w = .ok (.func (.func 25) #[] #[]) w := fun w => by kernel_rfl
  clear hn hk
  go_enter Tryz.func63, Tryz.ntmps63
  go_wp2_with fail
  refine (hlv _).mono ?_
  rintro e w' ⟨rfl, rfl⟩
  clear hlv
  go_wp2_with fail
  go_loopw [5, 16] (fun v i wr => ∃ j : Nat, i = .int .i64 j ∧ j ≤ M ∧ wr.ownsRow w.heap.size 64 2 v (4 * j) ((List.replicate (4 * j) (⟨-1, 1⟩ : Want)).flatMap wantVals) ∧ Ext w wr) (fun _ i _ => M - (intOf i).toNat)
  case atStart => exact ⟨0, rfl, by omega, World.ownsRow_nil _ _ _ _, Ext.refl _⟩
  case round =>
    obtain ⟨j, rfl, hj, hown, hX⟩ := hrel
    by_cases hl : j < M
    · go_wp2_with fail
      refine (hN _).mono ?_
      rintro e w2 ⟨rfl, hx2⟩
      replace hown := row_ext hown hx2
      replace hX := hX.trans hx2
      clear hx2
      go_wp2_with fail
      refine (kwants_p _).mono ?_
      rintro e w3 ⟨v2, rfl, hr2, hx3⟩
      replace hown := row_ext hown hx3
      replace hX := hX.trans hx3
      obtain ⟨A, c, rfl, r1, r2, hV⟩ := hr2
      obtain ⟨b, rfl, hb, hc⟩ := hV (by simp [wantVals, List.replicate])
      rw [List.length_replicate] at *
      clear hV hx3
      go_wp2_with (at_builtin; refine append_recs info_want Tryz.underlying25 rfl (by decide) (by decide) rfl _ _ rfl _ (4 * j) _ ((List.replicate 4 (⟨-1, 1⟩ : Want)).flatMap wantVals) ⟨b, 0, none⟩ 4 c hX hown rfl rfl rfl (fun i u hu => by rw [Addr.add_lit, Nat.zero_add]; exact hc i u hu) (fun u hu => by simp [List.replicate, wantVals] at hu; rcases hu with rfl | rfl | rfl | rfl | rfl | rfl | rfl | rfl <;> rfl) (by omega) (by omega) ?_)
      intro v' w' ho hx'
      have hoh : Hid (w'.ownsRow w.heap.size 64 2 v' (4 * (j + 1)) ((List.replicate (4 * (j + 1)) (⟨-1, 1⟩ : Want)).flatMap wantVals)) := Lib.hid (by
        rw [Nat.mul_succ, ← List.replicate_append_replicate, List.flatMap_append]; exact ho)
      clear hown ho hc
      go_wp2_with fail
      refine ⟨⟨j + 1, by go_num, by omega, hoh.out, hx'⟩, ?_⟩
      simp [intOf]; omega
    · obtain rfl : j = M := by omega
      have hownh := Lib.hid hown
      clear hown
      go_wp2_with fail
      go_ret
      exact ⟨_, rfl, by have := Recs.of_row hownh.out; unfold WantsAt; rw [List.length_replicate]; exact this, hX⟩
set_option maxRecDepth 100000 in
set_option maxHeartbeats 1000000 in
theorem twants_p3 (kind : Int) (m : Nat) (w : World) (h1 : 1 ≤ m) (h2 : m ≤ 64) (hk : kind ≠ 7) :
    Calls Tryz.prog 63 #[.int .i64 kind, .int .i64 m] w fun e w' => ∃ v, e = .returned v ∧ WantsAt w' v (List.replicate (3 * (2 ^ levels m - 1)) ⟨-1, 1⟩) ∧ Ext w w' := by
  have hlv := fun w => levels_p m (by omega) w
  have hle := lev_le h2
  generalize levels m = L at *
  obtain ⟨p1, p2⟩ := pow_le hle
  have hPi : (2 : Int) ^ L = ((2 ^ L : Nat) : Int) := by rw [Int.natCast_pow]; rfl
  generalize 2 ^ L = P at *
  have hsh : Op.shift .shl .i64 1 .i64 (L : Int) = pure (.int .i64 (P : Int)) := by
    rw [Go.shift_shl_i64 (x := 1) (y := (L : Int)) (yk := .i64) (by omega) (by omega), Int.one_mul, Int.toNat_natCast, hPi, IntWalk.i64_in _ (by omega)]
  clear hPi hle
  obtain ⟨M, rfl⟩ : ∃ M, P = M + 1 := ⟨P - 1, by omega⟩
  have hw : IntKind.i64.wrap (((M + 1 : Nat) : Int) - 1) = (M : Int) := by rw [IntWalk.i64_in _ (by omega)]; omega
  rw [Nat.add_sub_cancel]
  generalize hQ : M + 1 = Q at *
  have hM : M ≤ 63 := by omega
  have d1 : decide ((m : Int) < 1) = false := by rw [decide_eq_false_iff_not]; omega
  have d2 : decide ((64 : Int) < (m : Int)) = false := by rw [decide_eq_false_iff_not]; omega
  have hn : nodeV kind = .agg #[.func (.func 179) #[] #[], .func (.func 180) #[] #[], .func (.func 181) #[] #[]] := by unfold nodeV; rw [if_neg hk]; rfl
  have hN := fun w => nodeOf_p kind w
  rw [hn] at hN
  have hfd : ∀ w, (Instr.field 117 (.agg #[.func (.func 179) #[] #[], .func (.func 180) #[] #[], .func (.func 181) #[] #[]]) 0).run Tryz.prog w = .ok (.func (.func 179) #[] #[]) w := fun w => by kernel_rfl
  clear hn hk
  go_enter Tryz.func63, Tryz.ntmps63
  go_wp2_with fail
  refine (hlv _).mono ?_
  rintro e w' ⟨rfl, rfl⟩
  clear hlv
  go_wp2_with fail
  go_loopw [5, 16] (fun v i wr => ∃ j : Nat, i = .int .i64 j ∧ j ≤ M ∧ wr.ownsRow w.heap.size 64 2 v (3 * j) ((List.replicate (3 * j) (⟨-1, 1⟩ : Want)).flatMap wantVals) ∧ Ext w wr) (fun _ i _ => M - (intOf i).toNat)
  case atStart => exact ⟨0, rfl, by omega, World.ownsRow_nil _ _ _ _, Ext.refl _⟩
  case round =>
    obtain ⟨j, rfl, hj, hown, hX⟩ := hrel
    by_cases hl : j < M
    · go_wp2_with fail
      refine (hN _).mono ?_
      rintro e w2 ⟨rfl, hx2⟩
      replace hown := row_ext hown hx2
      replace hX := hX.trans hx2
      clear hx2
      go_wp2_with fail
      refine (awants_p _).mono ?_
      rintro e w3 ⟨v2, rfl, hr2, hx3⟩
      replace hown := row_ext hown hx3
      replace hX := hX.trans hx3
      obtain ⟨A, c, rfl, r1, r2, hV⟩ := hr2
      obtain ⟨b, rfl, hb, hc⟩ := hV (by simp [wantVals, List.replicate])
      rw [List.length_replicate] at *
      clear hV hx3
      go_wp2_with (at_builtin; refine append_recs info_want Tryz.underlying25 rfl (by decide) (by decide) rfl _ _ rfl _ (3 * j) _ ((List.replicate 3 (⟨-1, 1⟩ : Want)).flatMap wantVals) ⟨b, 0, none⟩ 3 c hX hown rfl rfl rfl (fun i u hu => by rw [Addr.add_lit, Nat.zero_add]; exact hc i u hu) (fun u hu => by simp [List.replicate, wantVals] at hu; rcases hu with rfl | rfl | rfl | rfl | rfl | rfl | rfl | rfl <;> rfl) (by omega) (by omega) ?_)
      intro v' w' ho hx'
      have hoh : Hid (w'.ownsRow w.heap.size 64 2 v' (3 * (j + 1)) ((List.replicate (3 * (j + 1)) (⟨-1, 1⟩ : Want)).flatMap wantVals)) := Lib.hid (by
        rw [Nat.mul_succ, ← List.replicate_append_replicate, List.flatMap_append]; exact ho)
      clear hown ho hc
      go_wp2_with fail
      refine ⟨⟨j + 1, by go_num, by omega, hoh.out, hx'⟩, ?_⟩
      simp [intOf]; omega
    · obtain rfl : j = M := by omega
      have hownh := Lib.hid hown
      clear hown
      go_wp2_with fail
      go_ret
      exact ⟨_, rfl, by have := Recs.of_row hownh.out; unfold WantsAt; rw [List.length_replicate]; exact this, hX⟩
theorem twants_p (kind : Int) (m : Nat) (w : World) (h1 : 1 ≤ m) (h2 : m ≤ 64) :
    Calls Tryz.prog 63 #[.int .i64 kind, .int .i64 m] w fun e w' => ∃ v, e = .returned v ∧ WantsAt w' v (List.replicate (eachK kind * (2 ^ levels m - 1)) ⟨-1, 1⟩) ∧ Ext w w' := by
  unfold eachK
  by_cases hk : kind = 7
  · rw [if_pos hk]; exact twants_p7 kind m w h1 h2 hk
  · rw [if_neg hk]; exact twants_p3 kind m w h1 h2 hk
set_option maxRecDepth 100000 in
theorem tregs_p7 (b c n : Nat) (len : Nat) (w : World) (h1 : 1 ≤ n) (h2 : n * 4 ≤ len) (h3 : len ≤ c) (h4 : c ≤ 9223372036854775807) (h5 : len ≤ 1000000) :
    Calls Tryz.prog 137 #[.slice (some ⟨b, 0, none⟩) len c, .agg #[.func (.func 25) #[] #[], .func (.func 28) #[] #[], .func (.func 31) #[] #[]], .int .i64 n] w fun e w' => ∃ c', e = .returned (.slice (some ⟨b, 4 * (n - 1) * 7, none⟩) 4 c') ∧ 4 ≤ c' ∧ c' ≤ 9223372036854775807 ∧ Ext w w' := by
  obtain ⟨k, rfl⟩ : ∃ k, n = k + 1 := ⟨n - 1, by omega⟩
  rw [Nat.add_sub_cancel]
  have w1 := IntWalk.i64_in (((k + 1 : Nat) : Int) - 1) (by omega)
  have w2 := IntWalk.i64_in ((((k + 1 : Nat) : Int) - 1) * 4) (by omega)
  have w3 := IntWalk.i64_in (((k + 1 : Nat) : Int) * 4) (by omega)
  have d1 : decide ((len : Int) < ((k : Int) + 1) * 4) = false := by rw [decide_eq_false_iff_not]; omega
  have hX := Ext.refl w
  have b1 := Blk.new w (.cells #[.func (.func 25) #[] #[], .func (.func 28) #[] #[], .func (.func 31) #[] #[]] 117)
  replace hX := hX.alloc (.cells #[.func (.func 25) #[] #[], .func (.func 28) #[] #[], .func (.func 31) #[] #[]] 117)
  have c_b1 := b1.cells
  go_enter Tryz.func137, Tryz.ntmps137
  go_wp2_with fail
  refine (kwants_p _).mono ?_
  rintro e w2 ⟨v2, rfl, hr2, hx3⟩
  obtain ⟨A, c2, rfl, r1, r2, -⟩ := hr2
  rw [List.length_replicate]
  replace hX := hX.trans hx3
  clear hx3
  go_wp2_with fail
  go_ret
  exact ⟨c - k * 4, by rw [Nat.mul_comm k 4, show (k + 1) * 4 - 4 * k = 4 from by omega]; rfl, by omega, by omega, hX⟩
set_option maxRecDepth 100000 in
theorem tregs_p3 (b c n : Nat) (len : Nat) (w : World) (h1 : 1 ≤ n) (h2 : n * 3 ≤ len) (h3 : len ≤ c) (h4 : c ≤ 9223372036854775807) (h5 : len ≤ 1000000) :
    Calls Tryz.prog 137 #[.slice (some ⟨b, 0, none⟩) len c, .agg #[.func (.func 179) #[] #[], .func (.func 180) #[] #[], .func (.func 181) #[] #[]], .int .i64 n] w fun e w' => ∃ c', e = .returned (.slice (some ⟨b, 3 * (n - 1) * 7, none⟩) 3 c') ∧ 3 ≤ c' ∧ c' ≤ 9223372036854775807 ∧ Ext w w' := by
  obtain ⟨k, rfl⟩ : ∃ k, n = k + 1 := ⟨n - 1, by omega⟩
  rw [Nat.add_sub_cancel]
  have w1 := IntWalk.i64_in (((k + 1 : Nat) : Int) - 1) (by omega)
  have w2 := IntWalk.i64_in ((((k + 1 : Nat) : Int) - 1) * 3) (by omega)
  have w3 := IntWalk.i64_in (((k + 1 : Nat) : Int) * 3) (by omega)
  have d1 : decide ((len : Int) < ((k : Int) + 1) * 3) = false := by rw [decide_eq_false_iff_not]; omega
  have hX := Ext.refl w
  have b1 := Blk.new w (.cells #[.func (.func 179) #[] #[], .func (.func 180) #[] #[], .func (.func 181) #[] #[]] 117)
  replace hX := hX.alloc (.cells #[.func (.func 179) #[] #[], .func (.func 180) #[] #[], .func (.func 181) #[] #[]] 117)
  have c_b1 := b1.cells
  go_enter Tryz.func137, Tryz.ntmps137
  go_wp2_with fail
  refine (awants_p _).mono ?_
  rintro e w2 ⟨v2, rfl, hr2, hx3⟩
  obtain ⟨A, c2, rfl, r1, r2, -⟩ := hr2
  rw [List.length_replicate]
  replace hX := hX.trans hx3
  clear hx3
  go_wp2_with fail
  go_ret
  exact ⟨c - k * 3, by rw [Nat.mul_comm k 3, show (k + 1) * 3 - 3 * k = 3 from by omega]; rfl, by omega, by omega, hX⟩
end Go.Proofs.YtpcohbpeglledaaGreat
/-
  Trees of locks of two sides: climbing and going down, by the program.
-/
namespace Kv
def nthR (rs : List Reg) (i : Nat) : Reg := rs.getD i ⟨1, 0, 0, 1, -1, -1, 1⟩
theorem nthR_of {rs : List Reg} {i : Nat} (h : i < rs.length) : rs[i]? = some (nthR rs i) := by
  unfold nthR
  rw [List.getD_eq_getElem?_getD, List.getElem?_eq_getElem h]; rfl
/-- Entering, and leaving, a node of so many registers. -/
def nodeE (E D : Nat) (rs : List Reg) (me : Int) (x : Int) : Prog Unit :=
  if E = 4 then kesM D (nthR rs (4 * ((x / 2).toNat - 1))) (nthR rs (4 * ((x / 2).toNat - 1) + 1)) (nthR rs (4 * ((x / 2).toNat - 1) + 2)) (nthR rs (4 * ((x / 2).toNat - 1) + 3)) (x % 2) me
  else arbM D (nthR rs (3 * ((x / 2).toNat - 1))) (nthR rs (3 * ((x / 2).toNat - 1) + 1)) (nthR rs (3 * ((x / 2).toNat - 1) + 2)) (x % 2) me
def nodeL (E : Nat) (rs : List Reg) (me : Int) (x : Int) : Prog Unit := kesL (nthR rs (E * ((x / 2).toNat - 1))) (nthR rs (E * ((x / 2).toNat - 1) + 1)) (x % 2) me
theorem pathN_mem : ∀ (f x : Nat) {y : Int}, y ∈ pathN f x → 2 ≤ y ∧ y ≤ x
  | 0, _, y, h => by simp [pathN] at h
  | f + 1, x, y, h => by
    unfold pathN at h
    split at h
    · simp at h
    · rcases List.mem_cons.1 h with rfl | h
      · omega
      · have := pathN_mem f (x / 2) h
        omega
theorem lev_ge {m : Nat} (h : m ≤ 64) : m ≤ 2 ^ levels m := by
  have : ∀ m : Nat, m < 65 → m ≤ 2 ^ levels m := by decide +kernel
  exact this m (by omega)
theorem pathL_mem {m place : Nat} (h : m ≤ 64) (hp : place < m) {y : Int} (hy : y ∈ pathL m place) : 2 ≤ y ∧ y < 2 * 2 ^ levels m := by
  have h1 := pathN_mem _ _ hy
  have h2 := lev_ge h
  have e : (2 : Int) ^ levels m = ((2 ^ levels m : Nat) : Int) := by rw [Int.natCast_pow]; rfl
  rw [e]
  generalize 2 ^ levels m = P at *
  omega
end Kv
namespace Go.Proofs.YtpcohbpeglledaaGreat
open Go.RowKit Kv
/-- A row of ints beside what a Mem owns. -/
def RowH (ix : List Nat) (w : World) (p : Nat) (A : Option Addr) (l : List Int) : Prop := l ≠ [] → ∃ g cur, A = some ⟨g, 0, none⟩ ∧ Held ix w p g (.cells cur 3) ∧ ∀ (i : Nat) y, l[i]? = some y → cur[i]? = some (.int .i64 y)
theorem RowH.of_row {ix : List Nat} {w : World} {p base : Nat} {v : Value} {l : List Int} (h : IntRow w base v l) (hn : ∀ b, base ≤ b → ¬ ownR ix w p b) : ∃ A c, v = .slice A l.length c ∧ RowH ix w p A l := by
  rcases h.2 with ⟨rfl, h0⟩ | ⟨g, cap, cur, rfl, hb, hg, h1, h2, h3, h4⟩
  · exact ⟨none, 0, by rw [h0], fun hne => absurd (List.length_eq_zero_iff.1 h0) hne⟩
  · refine ⟨_, cap, rfl, fun _ => ⟨g, cur, rfl, ⟨hg, hn g hb⟩, fun i y hy => ?_⟩⟩
    have e : (cur.toList.take (l.length * 1))[i]? = some (.int .i64 y) := by rw [h4, List.getElem?_map, hy]; rfl
    rw [List.getElem?_take] at e
    split at e
    · rw [← e]; simp
    · cases e
theorem Held.at_ {ix : List Nat} {w : World} {p g : Nat} {cur : Array Value} {l : List Int} (h : Held ix w p g (.cells cur 3)) (hc : ∀ (i : Nat) y, l[i]? = some y → cur[i]? = some (.int .i64 y)) {i : Nat} {y : Int} (hy : l[i]? = some y) : w.cell? ⟨g, i, none⟩ = some (.int .i64 y) := by
  rw [h.cells i]; exact hc i y hy
theorem node_enter_p7 (B p D n : Nat) (S : TS) (rs : List Reg) (x me : Int) (b c : Nat) (w : World) (h : Plays B w p S) (hl : RegsAt [2, 3, 4] w p b rs) (hall : ∀ r ∈ rs, r.ok ∧ me < r.n ∧ r.told me) (hm0 : 0 ≤ me) (hn : x / 2 = n) (hn1 : 1 ≤ n) (hn2 : n * 4 ≤ rs.length) (hD : S.left < D) (hc4 : 4 ≤ c) (hc5 : c ≤ 9223372036854775807) :
    Calls Tryz.prog 28 #[.pointer (some ⟨p, 0, none⟩), .slice (some ⟨b, 4 * (n - 1) * 7, none⟩) 4 c, .int .i64 (x % 2), .int .i64 me] w (Post encU B p w ((nodeE 4 D rs me x).run S)) := by
  unfold nodeE
  rw [if_pos rfl, hn, Int.toNat_natCast]
  obtain ⟨k0, l0, t0⟩ := hall _ (List.mem_of_getElem? (nthR_of (rs := rs) (i := 4 * (n - 1)) (by omega)))
  obtain ⟨k1, l1, t1⟩ := hall _ (List.mem_of_getElem? (nthR_of (rs := rs) (i := 4 * (n - 1) + 1) (by omega)))
  obtain ⟨k2, l2, t2⟩ := hall _ (List.mem_of_getElem? (nthR_of (rs := rs) (i := 4 * (n - 1) + 2) (by omega)))
  obtain ⟨k3, l3, t3⟩ := hall _ (List.mem_of_getElem? (nthR_of (rs := rs) (i := 4 * (n - 1) + 3) (by omega)))
  exact kesn_enter_p B p D S _ _ _ _ (x % 2) me b c (4 * (n - 1)) rs w h hl ⟨nthR_of (i := 4 * (n - 1)) (by omega), nthR_of (i := 4 * (n - 1) + 1) (by omega), nthR_of (i := 4 * (n - 1) + 2) (by omega), nthR_of (i := 4 * (n - 1) + 3) (by omega)⟩ k0 k1 k2 k3 hm0 l0 l1 l2 l3 t0 t1 t2 t3 hD hc4 hc5
theorem node_leave_p7 (B p n : Nat) (S : TS) (rs : List Reg) (x me : Int) (b c : Nat) (w : World) (h : Plays B w p S) (hl : RegsAt [2, 3, 4] w p b rs) (hall : ∀ r ∈ rs, r.ok ∧ me < r.n ∧ r.told me) (hm0 : 0 ≤ me) (hn : x / 2 = n) (hn1 : 1 ≤ n) (hn2 : n * 4 ≤ rs.length) :
    Calls Tryz.prog 31 #[.pointer (some ⟨p, 0, none⟩), .slice (some ⟨b, 4 * (n - 1) * 7, none⟩) 4 c, .int .i64 (x % 2), .int .i64 me] w (Post encU B p w ((nodeL 4 rs me x).run S)) := by
  unfold nodeL
  rw [hn, Int.toNat_natCast]
  obtain ⟨k0, l0, t0⟩ := hall _ (List.mem_of_getElem? (nthR_of (rs := rs) (i := 4 * (n - 1)) (by omega)))
  obtain ⟨k1, l1, t1⟩ := hall _ (List.mem_of_getElem? (nthR_of (rs := rs) (i := 4 * (n - 1) + 1) (by omega)))
  obtain ⟨k2, l2, t2⟩ := hall _ (List.mem_of_getElem? (nthR_of (rs := rs) (i := 4 * (n - 1) + 2) (by omega)))
  obtain ⟨k3, l3, t3⟩ := hall _ (List.mem_of_getElem? (nthR_of (rs := rs) (i := 4 * (n - 1) + 3) (by omega)))
  exact kesn_leave_p B p S _ _ (nthR rs (4 * (n - 1) + 2)) (nthR rs (4 * (n - 1) + 3)) (x % 2) me b c (4 * (n - 1)) rs w h hl ⟨nthR_of (i := 4 * (n - 1)) (by omega), nthR_of (i := 4 * (n - 1) + 1) (by omega), nthR_of (i := 4 * (n - 1) + 2) (by omega), nthR_of (i := 4 * (n - 1) + 3) (by omega)⟩ k0 k1 hm0 l0 l1
theorem node_enter_p3 (B p D n : Nat) (S : TS) (rs : List Reg) (x me : Int) (b c : Nat) (w : World) (h : Plays B w p S) (hl : RegsAt [2, 3, 4] w p b rs) (hall : ∀ r ∈ rs, r.ok ∧ me < r.n ∧ r.told me) (hm0 : 0 ≤ me) (hn : x / 2 = n) (hn1 : 1 ≤ n) (hn2 : n * 3 ≤ rs.length) (hD : S.left < D) (_hc4 : 3 ≤ c) (_hc5 : c ≤ 9223372036854775807) :
    Calls Tryz.prog 180 #[.pointer (some ⟨p, 0, none⟩), .slice (some ⟨b, 3 * (n - 1) * 7, none⟩) 3 c, .int .i64 (x % 2), .int .i64 me] w (Post encU B p w ((nodeE 3 D rs me x).run S)) := by
  unfold nodeE
  rw [if_neg (by decide), hn, Int.toNat_natCast]
  obtain ⟨k0, l0, t0⟩ := hall _ (List.mem_of_getElem? (nthR_of (rs := rs) (i := 3 * (n - 1)) (by omega)))
  obtain ⟨k1, l1, t1⟩ := hall _ (List.mem_of_getElem? (nthR_of (rs := rs) (i := 3 * (n - 1) + 1) (by omega)))
  obtain ⟨k2, l2, t2⟩ := hall _ (List.mem_of_getElem? (nthR_of (rs := rs) (i := 3 * (n - 1) + 2) (by omega)))
  exact arbn_enter_p B p D S _ _ _ (x % 2) me b c (3 * (n - 1)) rs w h hl ⟨nthR_of (i := 3 * (n - 1)) (by omega), nthR_of (i := 3 * (n - 1) + 1) (by omega), nthR_of (i := 3 * (n - 1) + 2) (by omega)⟩ k0 k1 k2 hm0 l0 l1 l2 t0 t1 hD
theorem node_leave_p3 (B p n : Nat) (S : TS) (rs : List Reg) (x me : Int) (b c : Nat) (w : World) (h : Plays B w p S) (hl : RegsAt [2, 3, 4] w p b rs) (hall : ∀ r ∈ rs, r.ok ∧ me < r.n ∧ r.told me) (hm0 : 0 ≤ me) (hn : x / 2 = n) (hn1 : 1 ≤ n) (hn2 : n * 3 ≤ rs.length) :
    Calls Tryz.prog 181 #[.pointer (some ⟨p, 0, none⟩), .slice (some ⟨b, 3 * (n - 1) * 7, none⟩) 3 c, .int .i64 (x % 2), .int .i64 me] w (Post encU B p w ((nodeL 3 rs me x).run S)) := by
  unfold nodeL
  rw [hn, Int.toNat_natCast]
  obtain ⟨k0, l0, t0⟩ := hall _ (List.mem_of_getElem? (nthR_of (rs := rs) (i := 3 * (n - 1)) (by omega)))
  obtain ⟨k1, l1, t1⟩ := hall _ (List.mem_of_getElem? (nthR_of (rs := rs) (i := 3 * (n - 1) + 1) (by omega)))
  obtain ⟨k2, l2, t2⟩ := hall _ (List.mem_of_getElem? (nthR_of (rs := rs) (i := 3 * (n - 1) + 2) (by omega)))
  exact arbn_leave_p B p S _ _ (nthR rs (3 * (n - 1) + 2)) (x % 2) me b c (3 * (n - 1)) rs w h hl ⟨nthR_of (i := 3 * (n - 1)) (by omega), nthR_of (i := 3 * (n - 1) + 1) (by omega), nthR_of (i := 3 * (n - 1) + 2) (by omega)⟩ k0 k1 hm0 l0 l1
set_option maxRecDepth 100000 in
set_option maxHeartbeats 2000000 in
theorem climb_p7 (B p D : Nat) (S : TS) (kind : Int) (m place : Nat) (me : Int) (rs : List Reg) (A : Option Addr) (c : Nat) (w : World) (h : Plays B w p S) (hk : kind = 7) (h1 : 1 ≤ m) (h2 : m ≤ 64) (h3 : place < m) (hlen : rs.length = 4 * (2 ^ levels m - 1)) (hc1 : rs.length ≤ c) (hc2 : c ≤ 9223372036854775807)
    (hreg : rs ≠ [] → ∃ b, A = some ⟨b, 0, none⟩ ∧ RegsAt [2, 3, 4] w p b rs) (hall : ∀ r ∈ rs, r.ok ∧ me < r.n ∧ r.told me) (hm0 : 0 ≤ me) (hD : S.left < D) :
    Calls Tryz.prog 77 #[.pointer (some ⟨p, 0, none⟩), .slice A rs.length c, .int .i64 kind, .int .i64 m, .int .i64 place, .int .i64 me] w (Post encU B p w ((forP (fun x _ => nodeE 4 D rs me x) (pathL m place) ()).run S)) := by
  generalize hR : Post encU B p w ((forP (fun x _ => nodeE 4 D rs me x) (pathL m place) ()).run S) = R
  have hO : Owes R encU B p w ((forP (fun x _ => nodeE 4 D rs me x) (pathL m place) ()).run S) := hR ▸ owes _ _ _ _ _
  clear hR
  have hmem := fun y (hy : y ∈ pathL m place) => pathL_mem h2 h3 hy
  have hPth := fun w => path_p m place w h1 h2 h3
  have hlv := lev_le h2
  obtain ⟨p1, p2⟩ := pow_le hlv
  have e : (2 : Int) ^ levels m = ((2 ^ levels m : Nat) : Int) := by rw [Int.natCast_pow]; rfl
  rw [e] at hmem
  have hll : (pathL m place).length ≤ 128 := by
    have := pathN_len (2 ^ levels m + place) (2 ^ levels m + place)
    unfold pathL
    omega
  clear e hlv
  generalize 2 ^ levels m = P at *
  generalize pathL m place = l at *
  have hn : nodeV kind = .agg #[.func (.func 25) #[] #[], .func (.func 28) #[] #[], .func (.func 31) #[] #[]] := by unfold nodeV; rw [if_pos hk]; rfl
  have hN := fun w => nodeOf_p kind w
  rw [hn] at hN
  have hmemh := Lib.hid hmem
  have hallh := Lib.hid hall
  have hlenh := Lib.hid hlen
  have hOh := Lib.hid hO
  clear hn hk hmem hall hlen hO
  go_enter Tryz.func77, Tryz.ntmps77
  go_wp2_with fail
  refine (hN _).mono ?_
  rintro e w2 ⟨rfl, hx2⟩
  have hK := Keep.of_ext (ix := [2, 3, 4]) (B := B) hx2 h.lt h.le
  have hP := h.ext hx2
  have hreg2 : rs ≠ [] → ∃ b, A = some ⟨b, 0, none⟩ ∧ RegsAt [2, 3, 4] w2 p b rs := fun hne => by
    obtain ⟨b, e1, e2⟩ := hreg hne
    exact ⟨b, e1, e2.extL hx2 h.lt⟩
  clear hx2 h hreg
  have bx := hP.held (.cells #[.func (.func 25) #[] #[], .func (.func 28) #[] #[], .func (.func 31) #[] #[]] 117)
  replace hK := hK.trans (Keep.alloc (.cells #[.func (.func 25) #[] #[], .func (.func 28) #[] #[], .func (.func 31) #[] #[]] 117) hP.lt hP.le)
  have hreg3 : rs ≠ [] → ∃ b, A = some ⟨b, 0, none⟩ ∧ RegsAt [2, 3, 4] (w2.alloc (.cells #[.func (.func 25) #[] #[], .func (.func 28) #[] #[], .func (.func 31) #[] #[]] 117)) p b rs := fun hne => by
    obtain ⟨b, e1, e2⟩ := hreg2 hne
    exact ⟨b, e1, e2.extL ((Ext.refl w2).alloc (.cells #[.func (.func 25) #[] #[], .func (.func 28) #[] #[], .func (.func 31) #[] #[]] 117)) hP.lt⟩
  replace hP := hP.alloc (.cells #[.func (.func 25) #[] #[], .func (.func 28) #[] #[], .func (.func 31) #[] #[]] 117)
  clear hreg2
  go_wp2_with fail
  generalize w2.heap.size = z at *
  generalize w2.alloc _ = W at *
  refine (hPth _).mono ?_
  rintro e w3 ⟨v3, rfl, hrow, hx3⟩
  obtain ⟨A3, c3, rfl, hR⟩ := RowH.of_row (p := p) (ix := [2, 3, 4]) hrow (fun b hb => hP.fresh hx3 hb)
  replace hK := hK.trans (Keep.of_ext hx3 hP.lt hP.le)
  replace bx := bx.ext hx3 hP.lt
  have hreg : rs ≠ [] → ∃ b, A = some ⟨b, 0, none⟩ ∧ RegsAt [2, 3, 4] w3 p b rs := fun hne => by
    obtain ⟨b, e1, e2⟩ := hreg3 hne
    exact ⟨b, e1, e2.extL hx3 hP.lt⟩
  replace hP := hP.ext hx3
  clear hreg3 hx3 hrow hPth hN
  by_cases hl0 : l = []
  · subst hl0
    have hf := hOh.out.done (v := ()) hP hK
    clear hOh hmemh hR hreg hallh hlenh
    go_wp2_with fail
    go_loopw [21] (fun i wr => i = .int .i64 0 ∧ w3 = wr) (fun _ _ => 0)
    case atStart => exact ⟨rfl, rfl⟩
    case round =>
      obtain ⟨rfl, rfl⟩ := hrel
      go_wp2_with fail
      first | exact hf | (refine bodyPost_ret (results_none rfl _ _ _) rfl ?_; exact hf)
  obtain ⟨g, cur, rfl, hg, hcur⟩ := hR hl0
  obtain ⟨b, rfl, hl⟩ := hreg (by
    obtain ⟨y, l', rfl⟩ : ∃ y l', l = y :: l' := by cases l with | nil => exact absurd rfl hl0 | cons y l' => exact ⟨y, l', rfl⟩
    have h1 := hmemh.out y (List.mem_cons_self ..)
    have h2 := hlenh.out
    intro hne
    rw [hne, List.length_nil] at h2
    omega)
  have hch := Lib.hid hcur
  clear hreg hR hl0 hcur
  go_wp2_with fail
  go_loopw [21] (fun i wr => ∃ (j : Nat) (S2 : TS), i = .int .i64 j ∧ j ≤ l.length ∧ Plays B wr p S2 ∧ KeepP B p w wr ∧ HeldP wr p z (.cells #[.func (.func 25) #[] #[], .func (.func 28) #[] #[], .func (.func 31) #[] #[]] 117) ∧ HeldP wr p g (.cells cur 3) ∧ RegsAt [2, 3, 4] wr p b rs ∧ S2.left < D ∧ Hid (Owes R encU B p w ((forP (fun x _ => nodeE 4 D rs me x) (l.drop j) ()).run S2))) (fun i _ => l.length - (intOf i).toNat)
  case atStart => exact ⟨0, S, rfl, by omega, hP, hK, bx, hg, hl, hD, hOh⟩
  case round =>
    clear hP hK bx hg hl hD hOh
    obtain ⟨j, S2, rfl, hj, hP, hK, bx, hg, hl, hD, hOh⟩ := hrel
    by_cases hjl : j < l.length
    · obtain ⟨y, hy⟩ : ∃ y, l[j]? = some y := ⟨_, List.getElem?_eq_getElem hjl⟩
      have hym := hmemh.out y (List.mem_of_getElem? hy)
      obtain ⟨Y, rfl⟩ : ∃ Y : Nat, y = (Y : Int) := ⟨y.toNat, by omega⟩
      have c_g := hg.at_ hch.out hy
      have hO := hOh.out
      rw [List.drop_eq_getElem_cons hjl, show l[j] = (Y : Int) from by rw [List.getElem?_eq_getElem hjl] at hy; exact Option.some.inj hy] at hO
      have hOk : Hid (Owes R encU B p w (((nodeE 4 D rs me (Y : Int)).bind fun _ => forP (fun x _ => nodeE 4 D rs me x) (l.drop (j + 1)) ()).run S2)) := Lib.hid hO
      clear hO hOh hy
      have hn2 : Y / 2 * 4 ≤ rs.length := by have := hlenh.out; omega
      have hn1 : 1 ≤ Y / 2 := by omega
      have hlen9 : rs.length ≤ 1000000 := by have := hlenh.out; omega
      have hrg := fun w => tregs_p7 b c (Y / 2) rs.length w hn1 hn2 hc1 hc2 hlen9
      have hq1 : IntKind.i64.wrap ((Y : Int) / 2) = ((Y / 2 : Nat) : Int) := by rw [IntWalk.i64_in _ (by omega)]; omega
      have hq2 : (Y : Int).tmod 2 = (Y : Int) % 2 := Int.tmod_eq_emod_of_nonneg (by omega)
      go_wp2_with fail
      have hS : ∀ w', HeldP w' p z (.cells #[.func (.func 25) #[] #[], .func (.func 28) #[] #[], .func (.func 31) #[] #[]] 117) → (∀ i, w'.cell? ⟨z, i, none⟩ = (#[.func (.func 25) #[] #[], .func (.func 28) #[] #[], .func (.func 31) #[] #[]] : Array Value)[i]?) := fun w' x => x.cells
      have c_bx := bx.cells
      refine wp_region_held_drew (S := fun w' => ∀ i, w'.cell? ⟨z, i, none⟩ = (#[.func (.func 25) #[] #[], .func (.func 28) #[] #[], .func (.func 31) #[] #[]] : Array Value)[i]?) rfl (hS _ bx) (fun hHeld => ?_)
      replace hl := hl.extL (Ext.refl wr).drew hP.lt
      replace hP := hP.drew
      replace hK := hK.drew
      replace bx := bx.drew
      replace hg := hg.drew
      refine wpAnyH_take (i := 0) (v := ?_) rfl (by kernel_rfl) (by kernel_rfl) (by kernel_rfl) (fun _ _ _ h => h) (Or.inl ⟨by kernel_rfl, ?_⟩) (by assumption) ?_
      rotate_left
      · (intro w hSw; (try dsimp only at hSw); go_simp; try with_reducible rfl)
      try simp only [put_pack]
      refine wpAnyH_take (i := 1) (v := ?_) rfl (by kernel_rfl) (by kernel_rfl) (by kernel_rfl) (fun _ _ _ h => h) (Or.inl ⟨by kernel_rfl, ?_⟩) (by assumption) ?_
      rotate_left
      · (intro w hSw; (try dsimp only at hSw); go_simp; try with_reducible rfl)
      try simp only [put_pack]
      refine wpAnyH_take (i := 2) (v := ?_) rfl (by kernel_rfl) (by kernel_rfl) (by kernel_rfl) (fun _ _ _ h => h) (Or.inl ⟨by kernel_rfl, ?_⟩) (by assumption) ?_
      rotate_left
      · (intro w hSw; (try dsimp only at hSw); go_simp; try with_reducible rfl)
      try simp only [put_pack]
      refine wpAnyH_take (i := 3) (v := ?_) rfl (by kernel_rfl) (by kernel_rfl) (by kernel_rfl) (fun _ _ _ h => h) (Or.inl ⟨by kernel_rfl, ?_⟩) (by assumption) ?_
      rotate_left
      · (intro w hSw; (try dsimp only at hSw); go_simp; try with_reducible rfl)
      try simp only [put_pack]
      refine wpAnyH_take (i := 4) (v := ?_) rfl (by kernel_rfl) (by kernel_rfl) (by kernel_rfl) (fun _ _ _ h => h) (Or.inl ⟨by kernel_rfl, ?_⟩) (by assumption) ?_
      rotate_left
      · (intro w hSw; (try dsimp only at hSw); go_simp; try with_reducible rfl)
      try simp only [put_pack]
      refine wpAnyH_take (i := 5) (v := ?_) rfl (by kernel_rfl) (by kernel_rfl) (by kernel_rfl) (fun _ _ _ h => h) (Or.inl ⟨by kernel_rfl, ?_⟩) (by assumption) ?_
      rotate_left
      · (intro w hSw; (try dsimp only at hSw); go_simp; try with_reducible rfl)
      try simp only [put_pack]
      refine wpAnyH_take (i := 6) (v := ?_) rfl (by kernel_rfl) (by kernel_rfl) (by kernel_rfl) (fun _ _ _ h => h) (Or.inl ⟨by kernel_rfl, ?_⟩) (by assumption) ?_
      rotate_left
      · (intro w hSw; (try dsimp only at hSw); go_simp; try with_reducible rfl)
      try simp only [put_pack]
      refine wpAnyH_take (i := 8) (v := ?_) rfl (by kernel_rfl) (by kernel_rfl) (by kernel_rfl) (fun _ _ _ h => h) (Or.inl ⟨by kernel_rfl, ?_⟩) (by assumption) ?_
      rotate_left
      · (intro w hSw; (try dsimp only at hSw); go_simp; try with_reducible rfl)
      try simp only [put_pack]
      refine wpAnyH_take (i := 9) (v := ?_) rfl (by kernel_rfl) (by kernel_rfl) (by kernel_rfl) (fun _ _ _ h => h) (Or.inl ⟨by kernel_rfl, ?_⟩) (by assumption) ?_
      rotate_left
      · (intro w hSw; (try dsimp only at hSw); go_simp; try with_reducible rfl)
      try simp only [put_pack]
      refine wpAnyH_take (i := 10) (v := ?_) rfl (by kernel_rfl) (by kernel_rfl) (by kernel_rfl) (fun _ _ _ h => h) (Or.inl ⟨by kernel_rfl, ?_⟩) (by assumption) ?_
      rotate_left
      · (intro w hSw; (try dsimp only at hSw); go_simp; try with_reducible rfl)
      try simp only [put_pack]
      refine wpAnyH_ready (rs := [7]) (by kernel_rfl) (by simp) ?_
      refine AllReadyH.cons rfl (fun K hKK => ?_) AllReadyH.nil
      go_simp
      refine (hrg _).mono ?_
      rintro e w4 ⟨c', rfl, q1, q2, hx⟩
      replace bx := bx.ext hx hP.lt
      replace hg := hg.ext hx hP.lt
      replace hl := hl.extL hx hP.lt
      replace hK := hK.trans (Keep.of_ext hx hP.lt hP.le)
      replace hP := hP.ext hx
      clear hx hrg c_g c_bx
      refine hKK.out _ _ (hS _ bx) (fun hHeld => ?_)
      clear hKK K
      try dsimp only
      refine wpAnyH_ready (rs := [11]) (by kernel_rfl) (by simp) ?_
      refine AllReadyH.cons rfl (fun K hKK => ?_) AllReadyH.nil
      go_simp
      refine tstepL hOk.out hK (node_enter_p7 B p D (Y / 2) S2 rs Y me b c' _ hP hl hallh.out hm0 (by omega) hn1 hn2 hD q1 q2) (fun _ h => ⟨rfl, h⟩) ?_
      clear hK hP hOk
      intro u S3 w5 hlf _ hP hk1 hK hO
      replace hD := Nat.lt_of_le_of_lt hlf hD
      replace bx := bx.keep hk1
      replace hg := hg.keep hk1
      replace hl := hl.keep hk1
      clear hk1 hlf
      refine hKK.out _ _ (hS _ bx) (fun hHeld => ?_)
      clear hKK K
      try dsimp only
      refine wpAnyH_done (by kernel_rfl) ?_ _
      go_simp
      have hf := Lib.hid hO
      clear hO hS
      go_wp2_with fail
      refine ⟨⟨j + 1, S3, by go_num, by omega, hP, hK, bx, hg, hl, hD, hf⟩, ?_⟩
      simp [intOf]; omega
    · obtain rfl : j = l.length := by omega
      have hO := hOh.out
      rw [List.drop_length] at hO
      have hf := hO.done (v := ()) hP hK
      clear hO hOh hP hK hl hg bx
      go_wp2_with fail
      first | exact hf | (refine bodyPost_ret (results_none rfl _ _ _) rfl ?_; exact hf)
set_option maxRecDepth 100000 in
set_option maxHeartbeats 2000000 in
theorem climb_p3 (B p D : Nat) (S : TS) (kind : Int) (m place : Nat) (me : Int) (rs : List Reg) (A : Option Addr) (c : Nat) (w : World) (h : Plays B w p S) (hk : kind ≠ 7) (h1 : 1 ≤ m) (h2 : m ≤ 64) (h3 : place < m) (hlen : rs.length = 3 * (2 ^ levels m - 1)) (hc1 : rs.length ≤ c) (hc2 : c ≤ 9223372036854775807)
    (hreg : rs ≠ [] → ∃ b, A = some ⟨b, 0, none⟩ ∧ RegsAt [2, 3, 4] w p b rs) (hall : ∀ r ∈ rs, r.ok ∧ me < r.n ∧ r.told me) (hm0 : 0 ≤ me) (hD : S.left < D) :
    Calls Tryz.prog 77 #[.pointer (some ⟨p, 0, none⟩), .slice A rs.length c, .int .i64 kind, .int .i64 m, .int .i64 place, .int .i64 me] w (Post encU B p w ((forP (fun x _ => nodeE 3 D rs me x) (pathL m place) ()).run S)) := by
  generalize hR : Post encU B p w ((forP (fun x _ => nodeE 3 D rs me x) (pathL m place) ()).run S) = R
  have hO : Owes R encU B p w ((forP (fun x _ => nodeE 3 D rs me x) (pathL m place) ()).run S) := hR ▸ owes _ _ _ _ _
  clear hR
  have hmem := fun y (hy : y ∈ pathL m place) => pathL_mem h2 h3 hy
  have hPth := fun w => path_p m place w h1 h2 h3
  have hlv := lev_le h2
  obtain ⟨p1, p2⟩ := pow_le hlv
  have e : (2 : Int) ^ levels m = ((2 ^ levels m : Nat) : Int) := by rw [Int.natCast_pow]; rfl
  rw [e] at hmem
  have hll : (pathL m place).length ≤ 128 := by
    have := pathN_len (2 ^ levels m + place) (2 ^ levels m + place)
    unfold pathL
    omega
  clear e hlv
  generalize 2 ^ levels m = P at *
  generalize pathL m place = l at *
  have hn : nodeV kind = .agg #[.func (.func 179) #[] #[], .func (.func 180) #[] #[], .func (.func 181) #[] #[]] := by unfold nodeV; rw [if_neg hk]; rfl
  have hN := fun w => nodeOf_p kind w
  rw [hn] at hN
  have hmemh := Lib.hid hmem
  have hallh := Lib.hid hall
  have hlenh := Lib.hid hlen
  have hOh := Lib.hid hO
  clear hn hk hmem hall hlen hO
  go_enter Tryz.func77, Tryz.ntmps77
  go_wp2_with fail
  refine (hN _).mono ?_
  rintro e w2 ⟨rfl, hx2⟩
  have hK := Keep.of_ext (ix := [2, 3, 4]) (B := B) hx2 h.lt h.le
  have hP := h.ext hx2
  have hreg2 : rs ≠ [] → ∃ b, A = some ⟨b, 0, none⟩ ∧ RegsAt [2, 3, 4] w2 p b rs := fun hne => by
    obtain ⟨b, e1, e2⟩ := hreg hne
    exact ⟨b, e1, e2.extL hx2 h.lt⟩
  clear hx2 h hreg
  have bx := hP.held (.cells #[.func (.func 179) #[] #[], .func (.func 180) #[] #[], .func (.func 181) #[] #[]] 117)
  replace hK := hK.trans (Keep.alloc (.cells #[.func (.func 179) #[] #[], .func (.func 180) #[] #[], .func (.func 181) #[] #[]] 117) hP.lt hP.le)
  have hreg3 : rs ≠ [] → ∃ b, A = some ⟨b, 0, none⟩ ∧ RegsAt [2, 3, 4] (w2.alloc (.cells #[.func (.func 179) #[] #[], .func (.func 180) #[] #[], .func (.func 181) #[] #[]] 117)) p b rs := fun hne => by
    obtain ⟨b, e1, e2⟩ := hreg2 hne
    exact ⟨b, e1, e2.extL ((Ext.refl w2).alloc (.cells #[.func (.func 179) #[] #[], .func (.func 180) #[] #[], .func (.func 181) #[] #[]] 117)) hP.lt⟩
  replace hP := hP.alloc (.cells #[.func (.func 179) #[] #[], .func (.func 180) #[] #[], .func (.func 181) #[] #[]] 117)
  clear hreg2
  go_wp2_with fail
  generalize w2.heap.size = z at *
  generalize w2.alloc _ = W at *
  refine (hPth _).mono ?_
  rintro e w3 ⟨v3, rfl, hrow, hx3⟩
  obtain ⟨A3, c3, rfl, hR⟩ := RowH.of_row (p := p) (ix := [2, 3, 4]) hrow (fun b hb => hP.fresh hx3 hb)
  replace hK := hK.trans (Keep.of_ext hx3 hP.lt hP.le)
  replace bx := bx.ext hx3 hP.lt
  have hreg : rs ≠ [] → ∃ b, A = some ⟨b, 0, none⟩ ∧ RegsAt [2, 3, 4] w3 p b rs := fun hne => by
    obtain ⟨b, e1, e2⟩ := hreg3 hne
    exact ⟨b, e1, e2.extL hx3 hP.lt⟩
  replace hP := hP.ext hx3
  clear hreg3 hx3 hrow hPth hN
  by_cases hl0 : l = []
  · subst hl0
    have hf := hOh.out.done (v := ()) hP hK
    clear hOh hmemh hR hreg hallh hlenh
    go_wp2_with fail
    go_loopw [21] (fun i wr => i = .int .i64 0 ∧ w3 = wr) (fun _ _ => 0)
    case atStart => exact ⟨rfl, rfl⟩
    case round =>
      obtain ⟨rfl, rfl⟩ := hrel
      go_wp2_with fail
      first | exact hf | (refine bodyPost_ret (results_none rfl _ _ _) rfl ?_; exact hf)
  obtain ⟨g, cur, rfl, hg, hcur⟩ := hR hl0
  obtain ⟨b, rfl, hl⟩ := hreg (by
    obtain ⟨y, l', rfl⟩ : ∃ y l', l = y :: l' := by cases l with | nil => exact absurd rfl hl0 | cons y l' => exact ⟨y, l', rfl⟩
    have h1 := hmemh.out y (List.mem_cons_self ..)
    have h2 := hlenh.out
    intro hne
    rw [hne, List.length_nil] at h2
    omega)
  have hch := Lib.hid hcur
  clear hreg hR hl0 hcur
  go_wp2_with fail
  go_loopw [21] (fun i wr => ∃ (j : Nat) (S2 : TS), i = .int .i64 j ∧ j ≤ l.length ∧ Plays B wr p S2 ∧ KeepP B p w wr ∧ HeldP wr p z (.cells #[.func (.func 179) #[] #[], .func (.func 180) #[] #[], .func (.func 181) #[] #[]] 117) ∧ HeldP wr p g (.cells cur 3) ∧ RegsAt [2, 3, 4] wr p b rs ∧ S2.left < D ∧ Hid (Owes R encU B p w ((forP (fun x _ => nodeE 3 D rs me x) (l.drop j) ()).run S2))) (fun i _ => l.length - (intOf i).toNat)
  case atStart => exact ⟨0, S, rfl, by omega, hP, hK, bx, hg, hl, hD, hOh⟩
  case round =>
    clear hP hK bx hg hl hD hOh
    obtain ⟨j, S2, rfl, hj, hP, hK, bx, hg, hl, hD, hOh⟩ := hrel
    by_cases hjl : j < l.length
    · obtain ⟨y, hy⟩ : ∃ y, l[j]? = some y := ⟨_, List.getElem?_eq_getElem hjl⟩
      have hym := hmemh.out y (List.mem_of_getElem? hy)
      obtain ⟨Y, rfl⟩ : ∃ Y : Nat, y = (Y : Int) := ⟨y.toNat, by omega⟩
      have c_g := hg.at_ hch.out hy
      have hO := hOh.out
      rw [List.drop_eq_getElem_cons hjl, show l[j] = (Y : Int) from by rw [List.getElem?_eq_getElem hjl] at hy; exact Option.some.inj hy] at hO
      have hOk : Hid (Owes R encU B p w (((nodeE 3 D rs me (Y : Int)).bind fun _ => forP (fun x _ => nodeE 3 D rs me x) (l.drop (j + 1)) ()).run S2)) := Lib.hid hO
      clear hO hOh hy
      have hn2 : Y / 2 * 3 ≤ rs.length := by have := hlenh.out; omega
      have hn1 : 1 ≤ Y / 2 := by omega
      have hlen9 : rs.length ≤ 1000000 := by have := hlenh.out; omega
      have hrg := fun w => tregs_p3 b c (Y / 2) rs.length w hn1 hn2 hc1 hc2 hlen9
      have hq1 : IntKind.i64.wrap ((Y : Int) / 2) = ((Y / 2 : Nat) : Int) := by rw [IntWalk.i64_in _ (by omega)]; omega
      have hq2 : (Y : Int).tmod 2 = (Y : Int) % 2 := Int.tmod_eq_emod_of_nonneg (by omega)
      go_wp2_with fail
      have hS : ∀ w', HeldP w' p z (.cells #[.func (.func 179) #[] #[], .func (.func 180) #[] #[], .func (.func 181) #[] #[]] 117) → (∀ i, w'.cell? ⟨z, i, none⟩ = (#[.func (.func 179) #[] #[], .func (.func 180) #[] #[], .func (.func 181) #[] #[]] : Array Value)[i]?) := fun w' x => x.cells
      have c_bx := bx.cells
      refine wp_region_held_drew (S := fun w' => ∀ i, w'.cell? ⟨z, i, none⟩ = (#[.func (.func 179) #[] #[], .func (.func 180) #[] #[], .func (.func 181) #[] #[]] : Array Value)[i]?) rfl (hS _ bx) (fun hHeld => ?_)
      replace hl := hl.extL (Ext.refl wr).drew hP.lt
      replace hP := hP.drew
      replace hK := hK.drew
      replace bx := bx.drew
      replace hg := hg.drew
      refine wpAnyH_take (i := 0) (v := ?_) rfl (by kernel_rfl) (by kernel_rfl) (by kernel_rfl) (fun _ _ _ h => h) (Or.inl ⟨by kernel_rfl, ?_⟩) (by assumption) ?_
      rotate_left
      · (intro w hSw; (try dsimp only at hSw); go_simp; try with_reducible rfl)
      try simp only [put_pack]
      refine wpAnyH_take (i := 1) (v := ?_) rfl (by kernel_rfl) (by kernel_rfl) (by kernel_rfl) (fun _ _ _ h => h) (Or.inl ⟨by kernel_rfl, ?_⟩) (by assumption) ?_
      rotate_left
      · (intro w hSw; (try dsimp only at hSw); go_simp; try with_reducible rfl)
      try simp only [put_pack]
      refine wpAnyH_take (i := 2) (v := ?_) rfl (by kernel_rfl) (by kernel_rfl) (by kernel_rfl) (fun _ _ _ h => h) (Or.inl ⟨by kernel_rfl, ?_⟩) (by assumption) ?_
      rotate_left
      · (intro w hSw; (try dsimp only at hSw); go_simp; try with_reducible rfl)
      try simp only [put_pack]
      refine wpAnyH_take (i := 3) (v := ?_) rfl (by kernel_rfl) (by kernel_rfl) (by kernel_rfl) (fun _ _ _ h => h) (Or.inl ⟨by kernel_rfl, ?_⟩) (by assumption) ?_
      rotate_left
      · (intro w hSw; (try dsimp only at hSw); go_simp; try with_reducible rfl)
      try simp only [put_pack]
      refine wpAnyH_take (i := 4) (v := ?_) rfl (by kernel_rfl) (by kernel_rfl) (by kernel_rfl) (fun _ _ _ h => h) (Or.inl ⟨by kernel_rfl, ?_⟩) (by assumption) ?_
      rotate_left
      · (intro w hSw; (try dsimp only at hSw); go_simp; try with_reducible rfl)
      try simp only [put_pack]
      refine wpAnyH_take (i := 5) (v := ?_) rfl (by kernel_rfl) (by kernel_rfl) (by kernel_rfl) (fun _ _ _ h => h) (Or.inl ⟨by kernel_rfl, ?_⟩) (by assumption) ?_
      rotate_left
      · (intro w hSw; (try dsimp only at hSw); go_simp; try with_reducible rfl)
      try simp only [put_pack]
      refine wpAnyH_take (i := 6) (v := ?_) rfl (by kernel_rfl) (by kernel_rfl) (by kernel_rfl) (fun _ _ _ h => h) (Or.inl ⟨by kernel_rfl, ?_⟩) (by assumption) ?_
      rotate_left
      · (intro w hSw; (try dsimp only at hSw); go_simp; try with_reducible rfl)
      try simp only [put_pack]
      refine wpAnyH_take (i := 8) (v := ?_) rfl (by kernel_rfl) (by kernel_rfl) (by kernel_rfl) (fun _ _ _ h => h) (Or.inl ⟨by kernel_rfl, ?_⟩) (by assumption) ?_
      rotate_left
      · (intro w hSw; (try dsimp only at hSw); go_simp; try with_reducible rfl)
      try simp only [put_pack]
      refine wpAnyH_take (i := 9) (v := ?_) rfl (by kernel_rfl) (by kernel_rfl) (by kernel_rfl) (fun _ _ _ h => h) (Or.inl ⟨by kernel_rfl, ?_⟩) (by assumption) ?_
      rotate_left
      · (intro w hSw; (try dsimp only at hSw); go_simp; try with_reducible rfl)
      try simp only [put_pack]
      refine wpAnyH_take (i := 10) (v := ?_) rfl (by kernel_rfl) (by kernel_rfl) (by kernel_rfl) (fun _ _ _ h => h) (Or.inl ⟨by kernel_rfl, ?_⟩) (by assumption) ?_
      rotate_left
      · (intro w hSw; (try dsimp only at hSw); go_simp; try with_reducible rfl)
      try simp only [put_pack]
      refine wpAnyH_ready (rs := [7]) (by kernel_rfl) (by simp) ?_
      refine AllReadyH.cons rfl (fun K hKK => ?_) AllReadyH.nil
      go_simp
      refine (hrg _).mono ?_
      rintro e w4 ⟨c', rfl, q1, q2, hx⟩
      replace bx := bx.ext hx hP.lt
      replace hg := hg.ext hx hP.lt
      replace hl := hl.extL hx hP.lt
      replace hK := hK.trans (Keep.of_ext hx hP.lt hP.le)
      replace hP := hP.ext hx
      clear hx hrg c_g c_bx
      refine hKK.out _ _ (hS _ bx) (fun hHeld => ?_)
      clear hKK K
      try dsimp only
      refine wpAnyH_ready (rs := [11]) (by kernel_rfl) (by simp) ?_
      refine AllReadyH.cons rfl (fun K hKK => ?_) AllReadyH.nil
      go_simp
      refine tstepL hOk.out hK (node_enter_p3 B p D (Y / 2) S2 rs Y me b c' _ hP hl hallh.out hm0 (by omega) hn1 hn2 hD q1 q2) (fun _ h => ⟨rfl, h⟩) ?_
      clear hK hP hOk
      intro u S3 w5 hlf _ hP hk1 hK hO
      replace hD := Nat.lt_of_le_of_lt hlf hD
      replace bx := bx.keep hk1
      replace hg := hg.keep hk1
      replace hl := hl.keep hk1
      clear hk1 hlf
      refine hKK.out _ _ (hS _ bx) (fun hHeld => ?_)
      clear hKK K
      try dsimp only
      refine wpAnyH_done (by kernel_rfl) ?_ _
      go_simp
      have hf := Lib.hid hO
      clear hO hS
      go_wp2_with fail
      refine ⟨⟨j + 1, S3, by go_num, by omega, hP, hK, bx, hg, hl, hD, hf⟩, ?_⟩
      simp [intOf]; omega
    · obtain rfl : j = l.length := by omega
      have hO := hOh.out
      rw [List.drop_length] at hO
      have hf := hO.done (v := ()) hP hK
      clear hO hOh hP hK hl hg bx
      go_wp2_with fail
      first | exact hf | (refine bodyPost_ret (results_none rfl _ _ _) rfl ?_; exact hf)
end Go.Proofs.YtpcohbpeglledaaGreat
/-
  A row of ints turned round in place.
-/
namespace Go.Proofs.YtpcohbpeglledaaGreat
open Go.RowKit Kv
theorem heap_setCells_ex (g : Nat) (t : TypeId) : ∀ (vs : List Value) (o : Nat) (w : World) (cur : Array Value), w.heap[g]? = some (.cells cur t (0, 0)) → ∃ cur', (w.setCells g o vs).heap[g]? = some (.cells cur' t (0, 0)) ∧ cur'.size = cur.size
  | [], _, _, cur, h => ⟨cur, h, rfl⟩
  | v :: r, o, w, cur, h => by
    obtain ⟨cur', h1, h2⟩ := heap_setCells_ex g t r (o + 1) (w.setCell ⟨g, o, none⟩ v) _ (heap_setCell_same w g o cur t v h)
    exact ⟨cur', h1, h2.trans (by simp)⟩
theorem Ext.setCells {w0 w : World} (h : Ext w0 w) {g : Nat} (hg : w0.heap.size ≤ g) : ∀ (vs : List Value) (o : Nat), Ext w0 (w.setCells g o vs) := by
  intro vs
  induction vs generalizing w with
  | nil => intro o; exact h
  | cons v r ih => intro o; exact ih (Below.setCell (p := ⟨g, o, none⟩) h hg v) (o + 1)
theorem reverse_p {w0 w : World} {l : List Int} {v : Value} (hx : Ext w0 w) (h : IntRow w w0.heap.size v l) (hl : l.length ≤ 1000) :
    Calls Tryz.prog 138 #[v] w fun e w' => e = .returned (.tuple #[]) ∧ Ext w0 w' ∧ IntRow w' w0.heap.size v l.reverse := by
  have h' := h
  rcases h.2 with ⟨rfl, h0⟩ | ⟨g, cap, cur, rfl, hb, hg, h1, h2, h3, h4⟩
  · obtain rfl := List.length_eq_zero_iff.1 h0
    refine (Tryz.slices_Reverse_int_empty none 0 w).mono ?_
    rintro e w' ⟨rfl, rfl⟩
    exact ⟨rfl, hx, h⟩
  · have hcell : ∀ j, j < l.length → w.cell? ⟨g, 0 + j, none⟩ = some (.int .i64 (l.getD j 0)) := by
      intro j hj
      rw [Nat.zero_add, cell_of_heap hg]
      have e : (cur.toList.take (l.length * 1))[j]? = some (.int .i64 (l.getD j 0)) := by
        rw [h4, List.getElem?_map, List.getElem?_eq_getElem hj, List.getD_eq_getElem?_getD, List.getElem?_eq_getElem hj]; rfl
      rw [List.getElem?_take, if_pos (by omega)] at e
      rw [← e]; simp
    refine (Tryz.slices_Reverse_int_cells g 0 l.length cap l w (Nat.le_refl _) (by omega) hcell (fun j hj => by simp [World.frozen?, hg])).mono ?_
    rintro e w' ⟨rfl, q, rfl⟩
    rw [List.take_length]
    have hg' : (w.drewN q).heap[g]? = some (.cells cur 3 (0, 0)) := hg
    obtain ⟨cur', k1, k2⟩ := heap_setCells_ex g 3 (l.reverse.map (Value.int .i64)) 0 (w.drewN q) cur hg'
    refine ⟨rfl, (hx.drewN q).setCells hb _ _, ?_, .inr ⟨g, cap, cur', by rw [List.length_reverse], hb, k1, by rw [List.length_reverse]; exact h1, h2, by rw [k2]; exact h3, ?_⟩⟩
    · simp
    · apply List.ext_getElem?
      intro i
      rw [List.length_reverse, List.getElem?_take]
      by_cases hi : i < l.length * 1
      · rw [if_pos hi]
        have hc := World.cell?_setCells_in g (l.reverse.map (Value.int .i64)) 0 (w.drewN q) (fun j hj => by
          rw [Nat.zero_add, cell_of_heap hg']
          have : j < cur.size := by simp at hj; omega
          simp [this]) i (by simp; omega)
        rw [Nat.zero_add, cell_of_heap k1] at hc
        rw [Array.getElem?_toList, hc, List.getElem?_eq_getElem]
      · rw [if_neg hi, List.getElem?_eq_none (by simp; omega)]
end Go.Proofs.YtpcohbpeglledaaGreat
/-
  Trees of locks of two sides: going down, by the program.
-/
namespace Go.Proofs.YtpcohbpeglledaaGreat
open Go.RowKit Kv
set_option maxRecDepth 100000 in
set_option maxHeartbeats 2000000 in
theorem down_p7 (B p : Nat) (S : TS) (kind : Int) (m place : Nat) (me : Int) (rs : List Reg) (A : Option Addr) (c : Nat) (w : World) (h : Plays B w p S) (hk : kind = 7) (h1 : 1 ≤ m) (h2 : m ≤ 64) (h3 : place < m) (hlen : rs.length = 4 * (2 ^ levels m - 1)) (hc1 : rs.length ≤ c) (hc2 : c ≤ 9223372036854775807)
    (hreg : rs ≠ [] → ∃ b, A = some ⟨b, 0, none⟩ ∧ RegsAt [2, 3, 4] w p b rs) (hall : ∀ r ∈ rs, r.ok ∧ me < r.n ∧ r.told me) (hm0 : 0 ≤ me) :
    Calls Tryz.prog 78 #[.pointer (some ⟨p, 0, none⟩), .slice A rs.length c, .int .i64 kind, .int .i64 m, .int .i64 place, .int .i64 me] w (Post encU B p w ((forP (fun x _ => nodeL 4 rs me x) (pathL m place).reverse ()).run S)) := by
  generalize hR : Post encU B p w ((forP (fun x _ => nodeL 4 rs me x) (pathL m place).reverse ()).run S) = R
  have hO : Owes R encU B p w ((forP (fun x _ => nodeL 4 rs me x) (pathL m place).reverse ()).run S) := hR ▸ owes _ _ _ _ _
  clear hR
  have hmem := fun y (hy : y ∈ pathL m place) => pathL_mem h2 h3 hy
  have hPth := fun w => path_p m place w h1 h2 h3
  have hlv := lev_le h2
  obtain ⟨p1, p2⟩ := pow_le hlv
  have e : (2 : Int) ^ levels m = ((2 ^ levels m : Nat) : Int) := by rw [Int.natCast_pow]; rfl
  rw [e] at hmem
  have hll : (pathL m place).length ≤ 128 := by
    have := pathN_len (2 ^ levels m + place) (2 ^ levels m + place)
    unfold pathL
    omega
  clear e hlv
  generalize 2 ^ levels m = P at *
  generalize pathL m place = l at *
  have hn : nodeV kind = .agg #[.func (.func 25) #[] #[], .func (.func 28) #[] #[], .func (.func 31) #[] #[]] := by unfold nodeV; rw [if_pos hk]; rfl
  have hN := fun w => nodeOf_p kind w
  rw [hn] at hN
  have hmemh := Lib.hid hmem
  have hallh := Lib.hid hall
  have hlenh := Lib.hid hlen
  have hOh := Lib.hid hO
  clear hn hk hmem hall hlen hO
  go_enter Tryz.func78, Tryz.ntmps78
  go_wp2_with fail
  refine (hN _).mono ?_
  rintro e w2 ⟨rfl, hx2⟩
  have hK := Keep.of_ext (ix := [2, 3, 4]) (B := B) hx2 h.lt h.le
  have hP := h.ext hx2
  have hreg2 : rs ≠ [] → ∃ b, A = some ⟨b, 0, none⟩ ∧ RegsAt [2, 3, 4] w2 p b rs := fun hne => by
    obtain ⟨b, e1, e2⟩ := hreg hne
    exact ⟨b, e1, e2.extL hx2 h.lt⟩
  clear hx2 h hreg
  have bx := hP.held (.cells #[.func (.func 25) #[] #[], .func (.func 28) #[] #[], .func (.func 31) #[] #[]] 117)
  replace hK := hK.trans (Keep.alloc (.cells #[.func (.func 25) #[] #[], .func (.func 28) #[] #[], .func (.func 31) #[] #[]] 117) hP.lt hP.le)
  have hreg3 : rs ≠ [] → ∃ b, A = some ⟨b, 0, none⟩ ∧ RegsAt [2, 3, 4] (w2.alloc (.cells #[.func (.func 25) #[] #[], .func (.func 28) #[] #[], .func (.func 31) #[] #[]] 117)) p b rs := fun hne => by
    obtain ⟨b, e1, e2⟩ := hreg2 hne
    exact ⟨b, e1, e2.extL ((Ext.refl w2).alloc (.cells #[.func (.func 25) #[] #[], .func (.func 28) #[] #[], .func (.func 31) #[] #[]] 117)) hP.lt⟩
  replace hP := hP.alloc (.cells #[.func (.func 25) #[] #[], .func (.func 28) #[] #[], .func (.func 31) #[] #[]] 117)
  clear hreg2
  go_wp2_with fail
  generalize w2.heap.size = z at *
  generalize w2.alloc _ = W at *
  refine (hPth _).mono ?_
  rintro e w3 ⟨v3, rfl, hrow, hx3⟩
  go_wp2_with fail
  refine (reverse_p hx3 hrow (by omega)).mono ?_
  rintro e w4 ⟨rfl, hx4, hrow4⟩
  obtain ⟨A3, c3, rfl, hR⟩ := RowH.of_row (p := p) (ix := [2, 3, 4]) hrow4 (fun b hb => hP.fresh hx4 hb)
  replace hK := hK.trans (Keep.of_ext hx4 hP.lt hP.le)
  replace bx := bx.ext hx4 hP.lt
  clear hrow hx3
  have hreg : rs ≠ [] → ∃ b, A = some ⟨b, 0, none⟩ ∧ RegsAt [2, 3, 4] w4 p b rs := fun hne => by
    obtain ⟨b, e1, e2⟩ := hreg3 hne
    exact ⟨b, e1, e2.extL hx4 hP.lt⟩
  replace hP := hP.ext hx4
  clear hreg3 hx4 hrow4 hPth hN
  have hmem2 : ∀ y ∈ l.reverse, 2 ≤ y ∧ y < 2 * ((P : Nat) : Int) := fun y hy => hmemh.out y (List.mem_reverse.1 hy)
  replace hll : l.reverse.length ≤ 128 := by rw [List.length_reverse]; exact hll
  generalize l.reverse = l2 at *
  clear hmemh
  have hmemh := Lib.hid hmem2
  clear hmem2
  by_cases hl0 : l2 = []
  · subst hl0
    have hf := hOh.out.done (v := ()) hP hK
    clear hOh hmemh hR hreg hallh hlenh
    go_wp2_with fail
    go_loopw [25] (fun i wr => i = .int .i64 0 ∧ w4 = wr) (fun _ _ => 0)
    case atStart => exact ⟨rfl, rfl⟩
    case round =>
      obtain ⟨rfl, rfl⟩ := hrel
      go_wp2_with fail
      first | exact hf | (refine bodyPost_ret (results_none rfl _ _ _) rfl ?_; exact hf)
  obtain ⟨g, cur, rfl, hg, hcur⟩ := hR hl0
  obtain ⟨b, rfl, hl⟩ := hreg (by
    obtain ⟨y, l2', rfl⟩ : ∃ y l2', l2 = y :: l2' := by cases l2 with | nil => exact absurd rfl hl0 | cons y l2' => exact ⟨y, l2', rfl⟩
    have h1 := hmemh.out y (List.mem_cons_self ..)
    have h2 := hlenh.out
    intro hne
    rw [hne, List.length_nil] at h2
    omega)
  have hch := Lib.hid hcur
  clear hreg hR hl0 hcur
  go_wp2_with fail
  go_loopw [25] (fun i wr => ∃ (j : Nat) (S2 : TS), i = .int .i64 j ∧ j ≤ l2.length ∧ Plays B wr p S2 ∧ KeepP B p w wr ∧ HeldP wr p z (.cells #[.func (.func 25) #[] #[], .func (.func 28) #[] #[], .func (.func 31) #[] #[]] 117) ∧ HeldP wr p g (.cells cur 3) ∧ RegsAt [2, 3, 4] wr p b rs ∧ Hid (Owes R encU B p w ((forP (fun x _ => nodeL 4 rs me x) (l2.drop j) ()).run S2))) (fun i _ => l2.length - (intOf i).toNat)
  case atStart => exact ⟨0, S, rfl, by omega, hP, hK, bx, hg, hl, hOh⟩
  case round =>
    clear hP hK bx hg hl hOh
    obtain ⟨j, S2, rfl, hj, hP, hK, bx, hg, hl, hOh⟩ := hrel
    by_cases hjl : j < l2.length
    · obtain ⟨y, hy⟩ : ∃ y, l2[j]? = some y := ⟨_, List.getElem?_eq_getElem hjl⟩
      have hym := hmemh.out y (List.mem_of_getElem? hy)
      obtain ⟨Y, rfl⟩ : ∃ Y : Nat, y = (Y : Int) := ⟨y.toNat, by omega⟩
      have c_g := hg.at_ hch.out hy
      have hO := hOh.out
      rw [List.drop_eq_getElem_cons hjl, show l2[j] = (Y : Int) from by rw [List.getElem?_eq_getElem hjl] at hy; exact Option.some.inj hy] at hO
      have hOk : Hid (Owes R encU B p w (((nodeL 4 rs me (Y : Int)).bind fun _ => forP (fun x _ => nodeL 4 rs me x) (l2.drop (j + 1)) ()).run S2)) := Lib.hid hO
      clear hO hOh hy
      have hn2 : Y / 2 * 4 ≤ rs.length := by have := hlenh.out; omega
      have hn1 : 1 ≤ Y / 2 := by omega
      have hlen9 : rs.length ≤ 1000000 := by have := hlenh.out; omega
      have hrg := fun w => tregs_p7 b c (Y / 2) rs.length w hn1 hn2 hc1 hc2 hlen9
      have hq1 : IntKind.i64.wrap ((Y : Int) / 2) = ((Y / 2 : Nat) : Int) := by rw [IntWalk.i64_in _ (by omega)]; omega
      have hq2 : (Y : Int).tmod 2 = (Y : Int) % 2 := Int.tmod_eq_emod_of_nonneg (by omega)
      go_wp2_with fail
      have hS : ∀ w', HeldP w' p z (.cells #[.func (.func 25) #[] #[], .func (.func 28) #[] #[], .func (.func 31) #[] #[]] 117) → (∀ i, w'.cell? ⟨z, i, none⟩ = (#[.func (.func 25) #[] #[], .func (.func 28) #[] #[], .func (.func 31) #[] #[]] : Array Value)[i]?) := fun w' x => x.cells
      have c_bx := bx.cells
      refine wp_region_held_drew (S := fun w' => ∀ i, w'.cell? ⟨z, i, none⟩ = (#[.func (.func 25) #[] #[], .func (.func 28) #[] #[], .func (.func 31) #[] #[]] : Array Value)[i]?) rfl (hS _ bx) (fun hHeld => ?_)
      replace hl := hl.extL (Ext.refl wr).drew hP.lt
      replace hP := hP.drew
      replace hK := hK.drew
      replace bx := bx.drew
      replace hg := hg.drew
      refine wpAnyH_take (i := 0) (v := ?_) rfl (by kernel_rfl) (by kernel_rfl) (by kernel_rfl) (fun _ _ _ h => h) (Or.inl ⟨by kernel_rfl, ?_⟩) (by assumption) ?_
      rotate_left
      · (intro w hSw; (try dsimp only at hSw); go_simp; try with_reducible rfl)
      try simp only [put_pack]
      refine wpAnyH_take (i := 1) (v := ?_) rfl (by kernel_rfl) (by kernel_rfl) (by kernel_rfl) (fun _ _ _ h => h) (Or.inl ⟨by kernel_rfl, ?_⟩) (by assumption) ?_
      rotate_left
      · (intro w hSw; (try dsimp only at hSw); go_simp; try with_reducible rfl)
      try simp only [put_pack]
      refine wpAnyH_take (i := 2) (v := ?_) rfl (by kernel_rfl) (by kernel_rfl) (by kernel_rfl) (fun _ _ _ h => h) (Or.inl ⟨by kernel_rfl, ?_⟩) (by assumption) ?_
      rotate_left
      · (intro w hSw; (try dsimp only at hSw); go_simp; try with_reducible rfl)
      try simp only [put_pack]
      refine wpAnyH_take (i := 3) (v := ?_) rfl (by kernel_rfl) (by kernel_rfl) (by kernel_rfl) (fun _ _ _ h => h) (Or.inl ⟨by kernel_rfl, ?_⟩) (by assumption) ?_
      rotate_left
      · (intro w hSw; (try dsimp only at hSw); go_simp; try with_reducible rfl)
      try simp only [put_pack]
      refine wpAnyH_take (i := 4) (v := ?_) rfl (by kernel_rfl) (by kernel_rfl) (by kernel_rfl) (fun _ _ _ h => h) (Or.inl ⟨by kernel_rfl, ?_⟩) (by assumption) ?_
      rotate_left
      · (intro w hSw; (try dsimp only at hSw); go_simp; try with_reducible rfl)
      try simp only [put_pack]
      refine wpAnyH_take (i := 5) (v := ?_) rfl (by kernel_rfl) (by kernel_rfl) (by kernel_rfl) (fun _ _ _ h => h) (Or.inl ⟨by kernel_rfl, ?_⟩) (by assumption) ?_
      rotate_left
      · (intro w hSw; (try dsimp only at hSw); go_simp; try with_reducible rfl)
      try simp only [put_pack]
      refine wpAnyH_take (i := 6) (v := ?_) rfl (by kernel_rfl) (by kernel_rfl) (by kernel_rfl) (fun _ _ _ h => h) (Or.inl ⟨by kernel_rfl, ?_⟩) (by assumption) ?_
      rotate_left
      · (intro w hSw; (try dsimp only at hSw); go_simp; try with_reducible rfl)
      try simp only [put_pack]
      refine wpAnyH_take (i := 8) (v := ?_) rfl (by kernel_rfl) (by kernel_rfl) (by kernel_rfl) (fun _ _ _ h => h) (Or.inl ⟨by kernel_rfl, ?_⟩) (by assumption) ?_
      rotate_left
      · (intro w hSw; (try dsimp only at hSw); go_simp; try with_reducible rfl)
      try simp only [put_pack]
      refine wpAnyH_take (i := 9) (v := ?_) rfl (by kernel_rfl) (by kernel_rfl) (by kernel_rfl) (fun _ _ _ h => h) (Or.inl ⟨by kernel_rfl, ?_⟩) (by assumption) ?_
      rotate_left
      · (intro w hSw; (try dsimp only at hSw); go_simp; try with_reducible rfl)
      try simp only [put_pack]
      refine wpAnyH_take (i := 10) (v := ?_) rfl (by kernel_rfl) (by kernel_rfl) (by kernel_rfl) (fun _ _ _ h => h) (Or.inl ⟨by kernel_rfl, ?_⟩) (by assumption) ?_
      rotate_left
      · (intro w hSw; (try dsimp only at hSw); go_simp; try with_reducible rfl)
      try simp only [put_pack]
      refine wpAnyH_ready (rs := [7]) (by kernel_rfl) (by simp) ?_
      refine AllReadyH.cons rfl (fun K hKK => ?_) AllReadyH.nil
      go_simp
      refine (hrg _).mono ?_
      rintro e w4 ⟨c', rfl, q1, q2, hx⟩
      replace bx := bx.ext hx hP.lt
      replace hg := hg.ext hx hP.lt
      replace hl := hl.extL hx hP.lt
      replace hK := hK.trans (Keep.of_ext hx hP.lt hP.le)
      replace hP := hP.ext hx
      clear hx hrg c_g c_bx
      refine hKK.out _ _ (hS _ bx) (fun hHeld => ?_)
      clear hKK K
      try dsimp only
      refine wpAnyH_ready (rs := [11]) (by kernel_rfl) (by simp) ?_
      refine AllReadyH.cons rfl (fun K hKK => ?_) AllReadyH.nil
      go_simp
      refine tstepL hOk.out hK (node_leave_p7 B p (Y / 2) S2 rs Y me b c' _ hP hl hallh.out hm0 (by omega) hn1 hn2) (fun _ h => ⟨rfl, h⟩) ?_
      clear hK hP hOk
      intro u S3 w5 hlf _ hP hk1 hK hO
      replace bx := bx.keep hk1
      replace hg := hg.keep hk1
      replace hl := hl.keep hk1
      clear hk1 hlf
      refine hKK.out _ _ (hS _ bx) (fun hHeld => ?_)
      clear hKK K
      try dsimp only
      refine wpAnyH_done (by kernel_rfl) ?_ _
      go_simp
      have hf := Lib.hid hO
      clear hO hS
      go_wp2_with fail
      refine ⟨⟨j + 1, S3, by go_num, by omega, hP, hK, bx, hg, hl, hf⟩, ?_⟩
      simp [intOf]; omega
    · obtain rfl : j = l2.length := by omega
      have hO := hOh.out
      rw [List.drop_length] at hO
      have hf := hO.done (v := ()) hP hK
      clear hO hOh hP hK hl hg bx
      go_wp2_with fail
      first | exact hf | (refine bodyPost_ret (results_none rfl _ _ _) rfl ?_; exact hf)
set_option maxRecDepth 100000 in
set_option maxHeartbeats 2000000 in
theorem down_p3 (B p : Nat) (S : TS) (kind : Int) (m place : Nat) (me : Int) (rs : List Reg) (A : Option Addr) (c : Nat) (w : World) (h : Plays B w p S) (hk : kind ≠ 7) (h1 : 1 ≤ m) (h2 : m ≤ 64) (h3 : place < m) (hlen : rs.length = 3 * (2 ^ levels m - 1)) (hc1 : rs.length ≤ c) (hc2 : c ≤ 9223372036854775807)
    (hreg : rs ≠ [] → ∃ b, A = some ⟨b, 0, none⟩ ∧ RegsAt [2, 3, 4] w p b rs) (hall : ∀ r ∈ rs, r.ok ∧ me < r.n ∧ r.told me) (hm0 : 0 ≤ me) :
    Calls Tryz.prog 78 #[.pointer (some ⟨p, 0, none⟩), .slice A rs.length c, .int .i64 kind, .int .i64 m, .int .i64 place, .int .i64 me] w (Post encU B p w ((forP (fun x _ => nodeL 3 rs me x) (pathL m place).reverse ()).run S)) := by
  generalize hR : Post encU B p w ((forP (fun x _ => nodeL 3 rs me x) (pathL m place).reverse ()).run S) = R
  have hO : Owes R encU B p w ((forP (fun x _ => nodeL 3 rs me x) (pathL m place).reverse ()).run S) := hR ▸ owes _ _ _ _ _
  clear hR
  have hmem := fun y (hy : y ∈ pathL m place) => pathL_mem h2 h3 hy
  have hPth := fun w => path_p m place w h1 h2 h3
  have hlv := lev_le h2
  obtain ⟨p1, p2⟩ := pow_le hlv
  have e : (2 : Int) ^ levels m = ((2 ^ levels m : Nat) : Int) := by rw [Int.natCast_pow]; rfl
  rw [e] at hmem
  have hll : (pathL m place).length ≤ 128 := by
    have := pathN_len (2 ^ levels m + place) (2 ^ levels m + place)
    unfold pathL
    omega
  clear e hlv
  generalize 2 ^ levels m = P at *
  generalize pathL m place = l at *
  have hn : nodeV kind = .agg #[.func (.func 179) #[] #[], .func (.func 180) #[] #[], .func (.func 181) #[] #[]] := by unfold nodeV; rw [if_neg hk]; rfl
  have hN := fun w => nodeOf_p kind w
  rw [hn] at hN
  have hmemh := Lib.hid hmem
  have hallh := Lib.hid hall
  have hlenh := Lib.hid hlen
  have hOh := Lib.hid hO
  clear hn hk hmem hall hlen hO
  go_enter Tryz.func78, Tryz.ntmps78
  go_wp2_with fail
  refine (hN _).mono ?_
  rintro e w2 ⟨rfl, hx2⟩
  have hK := Keep.of_ext (ix := [2, 3, 4]) (B := B) hx2 h.lt h.le
  have hP := h.ext hx2
  have hreg2 : rs ≠ [] → ∃ b, A = some ⟨b, 0, none⟩ ∧ RegsAt [2, 3, 4] w2 p b rs := fun hne => by
    obtain ⟨b, e1, e2⟩ := hreg hne
    exact ⟨b, e1, e2.extL hx2 h.lt⟩
  clear hx2 h hreg
  have bx := hP.held (.cells #[.func (.func 179) #[] #[], .func (.func 180) #[] #[], .func (.func 181) #[] #[]] 117)
  replace hK := hK.trans (Keep.alloc (.cells #[.func (.func 179) #[] #[], .func (.func 180) #[] #[], .func (.func 181) #[] #[]] 117) hP.lt hP.le)
  have hreg3 : rs ≠ [] → ∃ b, A = some ⟨b, 0, none⟩ ∧ RegsAt [2, 3, 4] (w2.alloc (.cells #[.func (.func 179) #[] #[], .func (.func 180) #[] #[], .func (.func 181) #[] #[]] 117)) p b rs := fun hne => by
    obtain ⟨b, e1, e2⟩ := hreg2 hne
    exact ⟨b, e1, e2.extL ((Ext.refl w2).alloc (.cells #[.func (.func 179) #[] #[], .func (.func 180) #[] #[], .func (.func 181) #[] #[]] 117)) hP.lt⟩
  replace hP := hP.alloc (.cells #[.func (.func 179) #[] #[], .func (.func 180) #[] #[], .func (.func 181) #[] #[]] 117)
  clear hreg2
  go_wp2_with fail
  generalize w2.heap.size = z at *
  generalize w2.alloc _ = W at *
  refine (hPth _).mono ?_
  rintro e w3 ⟨v3, rfl, hrow, hx3⟩
  go_wp2_with fail
  refine (reverse_p hx3 hrow (by omega)).mono ?_
  rintro e w4 ⟨rfl, hx4, hrow4⟩
  obtain ⟨A3, c3, rfl, hR⟩ := RowH.of_row (p := p) (ix := [2, 3, 4]) hrow4 (fun b hb => hP.fresh hx4 hb)
  replace hK := hK.trans (Keep.of_ext hx4 hP.lt hP.le)
  replace bx := bx.ext hx4 hP.lt
  clear hrow hx3
  have hreg : rs ≠ [] → ∃ b, A = some ⟨b, 0, none⟩ ∧ RegsAt [2, 3, 4] w4 p b rs := fun hne => by
    obtain ⟨b, e1, e2⟩ := hreg3 hne
    exact ⟨b, e1, e2.extL hx4 hP.lt⟩
  replace hP := hP.ext hx4
  clear hreg3 hx4 hrow4 hPth hN
  have hmem2 : ∀ y ∈ l.reverse, 2 ≤ y ∧ y < 2 * ((P : Nat) : Int) := fun y hy => hmemh.out y (List.mem_reverse.1 hy)
  replace hll : l.reverse.length ≤ 128 := by rw [List.length_reverse]; exact hll
  generalize l.reverse = l2 at *
  clear hmemh
  have hmemh := Lib.hid hmem2
  clear hmem2
  by_cases hl0 : l2 = []
  · subst hl0
    have hf := hOh.out.done (v := ()) hP hK
    clear hOh hmemh hR hreg hallh hlenh
    go_wp2_with fail
    go_loopw [25] (fun i wr => i = .int .i64 0 ∧ w4 = wr) (fun _ _ => 0)
    case atStart => exact ⟨rfl, rfl⟩
    case round =>
      obtain ⟨rfl, rfl⟩ := hrel
      go_wp2_with fail
      first | exact hf | (refine bodyPost_ret (results_none rfl _ _ _) rfl ?_; exact hf)
  obtain ⟨g, cur, rfl, hg, hcur⟩ := hR hl0
  obtain ⟨b, rfl, hl⟩ := hreg (by
    obtain ⟨y, l2', rfl⟩ : ∃ y l2', l2 = y :: l2' := by cases l2 with | nil => exact absurd rfl hl0 | cons y l2' => exact ⟨y, l2', rfl⟩
    have h1 := hmemh.out y (List.mem_cons_self ..)
    have h2 := hlenh.out
    intro hne
    rw [hne, List.length_nil] at h2
    omega)
  have hch := Lib.hid hcur
  clear hreg hR hl0 hcur
  go_wp2_with fail
  go_loopw [25] (fun i wr => ∃ (j : Nat) (S2 : TS), i = .int .i64 j ∧ j ≤ l2.length ∧ Plays B wr p S2 ∧ KeepP B p w wr ∧ HeldP wr p z (.cells #[.func (.func 179) #[] #[], .func (.func 180) #[] #[], .func (.func 181) #[] #[]] 117) ∧ HeldP wr p g (.cells cur 3) ∧ RegsAt [2, 3, 4] wr p b rs ∧ Hid (Owes R encU B p w ((forP (fun x _ => nodeL 3 rs me x) (l2.drop j) ()).run S2))) (fun i _ => l2.length - (intOf i).toNat)
  case atStart => exact ⟨0, S, rfl, by omega, hP, hK, bx, hg, hl, hOh⟩
  case round =>
    clear hP hK bx hg hl hOh
    obtain ⟨j, S2, rfl, hj, hP, hK, bx, hg, hl, hOh⟩ := hrel
    by_cases hjl : j < l2.length
    · obtain ⟨y, hy⟩ : ∃ y, l2[j]? = some y := ⟨_, List.getElem?_eq_getElem hjl⟩
      have hym := hmemh.out y (List.mem_of_getElem? hy)
      obtain ⟨Y, rfl⟩ : ∃ Y : Nat, y = (Y : Int) := ⟨y.toNat, by omega⟩
      have c_g := hg.at_ hch.out hy
      have hO := hOh.out
      rw [List.drop_eq_getElem_cons hjl, show l2[j] = (Y : Int) from by rw [List.getElem?_eq_getElem hjl] at hy; exact Option.some.inj hy] at hO
      have hOk : Hid (Owes R encU B p w (((nodeL 3 rs me (Y : Int)).bind fun _ => forP (fun x _ => nodeL 3 rs me x) (l2.drop (j + 1)) ()).run S2)) := Lib.hid hO
      clear hO hOh hy
      have hn2 : Y / 2 * 3 ≤ rs.length := by have := hlenh.out; omega
      have hn1 : 1 ≤ Y / 2 := by omega
      have hlen9 : rs.length ≤ 1000000 := by have := hlenh.out; omega
      have hrg := fun w => tregs_p3 b c (Y / 2) rs.length w hn1 hn2 hc1 hc2 hlen9
      have hq1 : IntKind.i64.wrap ((Y : Int) / 2) = ((Y / 2 : Nat) : Int) := by rw [IntWalk.i64_in _ (by omega)]; omega
      have hq2 : (Y : Int).tmod 2 = (Y : Int) % 2 := Int.tmod_eq_emod_of_nonneg (by omega)
      go_wp2_with fail
      have hS : ∀ w', HeldP w' p z (.cells #[.func (.func 179) #[] #[], .func (.func 180) #[] #[], .func (.func 181) #[] #[]] 117) → (∀ i, w'.cell? ⟨z, i, none⟩ = (#[.func (.func 179) #[] #[], .func (.func 180) #[] #[], .func (.func 181) #[] #[]] : Array Value)[i]?) := fun w' x => x.cells
      have c_bx := bx.cells
      refine wp_region_held_drew (S := fun w' => ∀ i, w'.cell? ⟨z, i, none⟩ = (#[.func (.func 179) #[] #[], .func (.func 180) #[] #[], .func (.func 181) #[] #[]] : Array Value)[i]?) rfl (hS _ bx) (fun hHeld => ?_)
      replace hl := hl.extL (Ext.refl wr).drew hP.lt
      replace hP := hP.drew
      replace hK := hK.drew
      replace bx := bx.drew
      replace hg := hg.drew
      refine wpAnyH_take (i := 0) (v := ?_) rfl (by kernel_rfl) (by kernel_rfl) (by kernel_rfl) (fun _ _ _ h => h) (Or.inl ⟨by kernel_rfl, ?_⟩) (by assumption) ?_
      rotate_left
      · (intro w hSw; (try dsimp only at hSw); go_simp; try with_reducible rfl)
      try simp only [put_pack]
      refine wpAnyH_take (i := 1) (v := ?_) rfl (by kernel_rfl) (by kernel_rfl) (by kernel_rfl) (fun _ _ _ h => h) (Or.inl ⟨by kernel_rfl, ?_⟩) (by assumption) ?_
      rotate_left
      · (intro w hSw; (try dsimp only at hSw); go_simp; try with_reducible rfl)
      try simp only [put_pack]
      refine wpAnyH_take (i := 2) (v := ?_) rfl (by kernel_rfl) (by kernel_rfl) (by kernel_rfl) (fun _ _ _ h => h) (Or.inl ⟨by kernel_rfl, ?_⟩) (by assumption) ?_
      rotate_left
      · (intro w hSw; (try dsimp only at hSw); go_simp; try with_reducible rfl)
      try simp only [put_pack]
      refine wpAnyH_take (i := 3) (v := ?_) rfl (by kernel_rfl) (by kernel_rfl) (by kernel_rfl) (fun _ _ _ h => h) (Or.inl ⟨by kernel_rfl, ?_⟩) (by assumption) ?_
      rotate_left
      · (intro w hSw; (try dsimp only at hSw); go_simp; try with_reducible rfl)
      try simp only [put_pack]
      refine wpAnyH_take (i := 4) (v := ?_) rfl (by kernel_rfl) (by kernel_rfl) (by kernel_rfl) (fun _ _ _ h => h) (Or.inl ⟨by kernel_rfl, ?_⟩) (by assumption) ?_
      rotate_left
      · (intro w hSw; (try dsimp only at hSw); go_simp; try with_reducible rfl)
      try simp only [put_pack]
      refine wpAnyH_take (i := 5) (v := ?_) rfl (by kernel_rfl) (by kernel_rfl) (by kernel_rfl) (fun _ _ _ h => h) (Or.inl ⟨by kernel_rfl, ?_⟩) (by assumption) ?_
      rotate_left
      · (intro w hSw; (try dsimp only at hSw); go_simp; try with_reducible rfl)
      try simp only [put_pack]
      refine wpAnyH_take (i := 6) (v := ?_) rfl (by kernel_rfl) (by kernel_rfl) (by kernel_rfl) (fun _ _ _ h => h) (Or.inl ⟨by kernel_rfl, ?_⟩) (by assumption) ?_
      rotate_left
      · (intro w hSw; (try dsimp only at hSw); go_simp; try with_reducible rfl)
      try simp only [put_pack]
      refine wpAnyH_take (i := 8) (v := ?_) rfl (by kernel_rfl) (by kernel_rfl) (by kernel_rfl) (fun _ _ _ h => h) (Or.inl ⟨by kernel_rfl, ?_⟩) (by assumption) ?_
      rotate_left
      · (intro w hSw; (try dsimp only at hSw); go_simp; try with_reducible rfl)
      try simp only [put_pack]
      refine wpAnyH_take (i := 9) (v := ?_) rfl (by kernel_rfl) (by kernel_rfl) (by kernel_rfl) (fun _ _ _ h => h) (Or.inl ⟨by kernel_rfl, ?_⟩) (by assumption) ?_
      rotate_left
      · (intro w hSw; (try dsimp only at hSw); go_simp; try with_reducible rfl)
      try simp only [put_pack]
      refine wpAnyH_take (i := 10) (v := ?_) rfl (by kernel_rfl) (by kernel_rfl) (by kernel_rfl) (fun _ _ _ h => h) (Or.inl ⟨by kernel_rfl, ?_⟩) (by assumption) ?_
      rotate_left
      · (intro w hSw; (try dsimp only at hSw); go_simp; try with_reducible rfl)
      try simp only [put_pack]
      refine wpAnyH_ready (rs := [7]) (by kernel_rfl) (by simp) ?_
      refine AllReadyH.cons rfl (fun K hKK => ?_) AllReadyH.nil
      go_simp
      refine (hrg _).mono ?_
      rintro e w4 ⟨c', rfl, q1, q2, hx⟩
      replace bx := bx.ext hx hP.lt
      replace hg := hg.ext hx hP.lt
      replace hl := hl.extL hx hP.lt
      replace hK := hK.trans (Keep.of_ext hx hP.lt hP.le)
      replace hP := hP.ext hx
      clear hx hrg c_g c_bx
      refine hKK.out _ _ (hS _ bx) (fun hHeld => ?_)
      clear hKK K
      try dsimp only
      refine wpAnyH_ready (rs := [11]) (by kernel_rfl) (by simp) ?_
      refine AllReadyH.cons rfl (fun K hKK => ?_) AllReadyH.nil
      go_simp
      refine tstepL hOk.out hK (node_leave_p3 B p (Y / 2) S2 rs Y me b c' _ hP hl hallh.out hm0 (by omega) hn1 hn2) (fun _ h => ⟨rfl, h⟩) ?_
      clear hK hP hOk
      intro u S3 w5 hlf _ hP hk1 hK hO
      replace bx := bx.keep hk1
      replace hg := hg.keep hk1
      replace hl := hl.keep hk1
      clear hk1 hlf
      refine hKK.out _ _ (hS _ bx) (fun hHeld => ?_)
      clear hKK K
      try dsimp only
      refine wpAnyH_done (by kernel_rfl) ?_ _
      go_simp
      have hf := Lib.hid hO
      clear hO hS
      go_wp2_with fail
      refine ⟨⟨j + 1, S3, by go_num, by omega, hP, hK, bx, hg, hl, hf⟩, ?_⟩
      simp [intOf]; omega
    · obtain rfl : j = l2.length := by omega
      have hO := hOh.out
      rw [List.drop_length] at hO
      have hf := hO.done (v := ()) hP hK
      clear hO hOh hP hK hl hg bx
      go_wp2_with fail
      first | exact hf | (refine bodyPost_ret (results_none rfl _ _ _) rfl ?_; exact hf)
end Go.Proofs.YtpcohbpeglledaaGreat
