/-
  PlaneBack holds: the way from a point to another one leads there, turned four times a point is as it was, and norms multiply.
-/
import Derived.Test.YtiahgcaenneonaaDoorJB2
import Derived.BigQuiet
import Derived.Deep.QuietTactic
import Derived.Deep.RegionHeld2
import Derived.OpenShut
/-
  PlaneTells, walked.
-/
namespace Go.Proofs.YtiahgcaenneonaaDoor
open Go.RowKit Kv
/-- A block that holds an object. -/
def Bk (w : World) (b : Nat) (o : Obj) : Prop := w.heap[b]? = some o
theorem Bk.new (w : World) (o : Obj) : Bk (w.alloc o) w.heap.size o := heap_alloc_new w o
theorem Bk.ext {w w' : World} {b : Nat} {o : Obj} (h : Bk w b o) (hx : Ext w w') : Bk w' b o := (Below.block hx b (Array.getElem?_eq_some_iff.1 h).1).trans h
theorem Bk.alloc {w : World} {b : Nat} {o : Obj} (h : Bk w b o) (o' : Obj) : Bk (w.alloc o') b o := h.ext ((Ext.refl w).alloc o')
theorem Bk.cells {w : World} {b : Nat} {cs : Array Value} {t : TypeId} {fz : Nat × Nat} (h : Bk w b (.cells cs t fz)) (i : Nat) : w.cell? ⟨b, i, none⟩ = cs[i]? := heap_at h i
set_option maxRecDepth 100000 in
set_option maxHeartbeats 2000000 in
theorem tells_walk (a b c d : Nat) (k : Int) (w : World) (T : Tabs w) :
    Calls Tryd.prog 5 #[.agg #[.float .f64 a, .float .f64 b, .float .f64 c, .float .f64 d, .int .i64 k]] w fun e w' => e = .returned (.bool true) ∧ Ext w w' := by
  have b1 := Bk.new w (.cells #[.float .f64 a, .float .f64 b, .float .f64 c, .float .f64 d, .int .i64 k] 53)
  have hX := (Ext.refl w).alloc (.cells #[.float .f64 a, .float .f64 b, .float .f64 c, .float .f64 d, .int .i64 k] 53)
  have hT := T.ext hX
  go_enter Tryd.func5, Tryd.ntmps5
  go_wp2_with fail
  generalize w.alloc _ = W at *
  have c_b1 := b1.cells
  go_wp2_with fail
  go_quiet (fail)
  go_wp2_with fail
  replace hX := hX.drewN nq
  have hXW := hX
  clear c_b1 b1 hT
  generalize W.drewN nq = W1 at *
  have hof1 := of_r a b
  have hof2 := of_r c d
  have hpa := parts_p a b
  have htu := turn_p a b k
  have hno := norm_p a b
  have hte := ptext_p a b
  have htm := times_p a b c d
  obtain ⟨h1, h2, h3, h4⟩ := pt_bd a b
  obtain ⟨h5, h6, h7, h8⟩ := pt_bd c d
  have htb := turnM_bd (a := a) (b := b) k
  have hpb : ∀ q, ptOf a b = some q → bdP q := fun q hq => by
    rw [hq] at h1 h2 h3 h4
    exact ⟨h1, h2, h3, h4⟩
  have htr := fun w => turn_r (ptOf a b) k hpb w
  have hxr := fun w => ptext_r (ptOf a b) hpb w
  have hnr := fun w => norm_r (ptOf a b) h1 h2 h3 h4 w
  have hmr := fun w => times_r (ptOf a b) (ptOf c d) h1 h2 h3 h4 h5 h6 h7 h8 w
  have hms : -1048576 ≤ ptX (timesM (ptOf a b) (ptOf c d)) ∧ ptX (timesM (ptOf a b) (ptOf c d)) ≤ 1048576 ∧ -1048576 ≤ ptY (timesM (ptOf a b) (ptOf c d)) ∧ ptY (timesM (ptOf a b) (ptOf c d)) ≤ 1048576 := by
    unfold timesM
    split
    · split
      · rename_i hin
        exact (inR2_iff _ _).1 hin
      · simp [ptX, ptY]
    · simp [ptX, ptY]
  clear hpb h1 h2 h3 h4 h5 h6 h7 h8
  generalize ptOf a b = p at *
  generalize ptOf c d = q at *
  refine (hof1 _).mono ?_
  rintro e W2 ⟨rfl, hx2⟩
  go_wp2_with fail
  refine (hof2 _).mono ?_
  rintro e W3 ⟨rfl, hx3⟩
  replace hX := (hX.trans hx2).trans hx3
  clear hx2 hx3 hXW hof1 hof2
  have g6 := Bk.new W3 (.cells #[.int .i64 (ptX p), .int .i64 (ptY p), .bool p.isSome] 56)
  have g7 := Bk.new (W3.alloc (.cells #[.int .i64 (ptX p), .int .i64 (ptY p), .bool p.isSome] 56)) (.cells #[.int .i64 (ptX q), .int .i64 (ptY q), .bool q.isSome] 56)
  replace g6 := g6.alloc (.cells #[.int .i64 (ptX q), .int .i64 (ptY q), .bool q.isSome] 56)
  replace hX := (hX.alloc (.cells #[.int .i64 (ptX p), .int .i64 (ptY p), .bool p.isSome] 56)).alloc (.cells #[.int .i64 (ptX q), .int .i64 (ptY q), .bool q.isSome] 56)
  rw [World.size_alloc] at g7
  have c_g6 := g6.cells
  have c_g7 := g7.cells
  go_wp2_with fail
  generalize World.alloc (World.alloc W3 _) _ = W4 at *
  refine (hpa _).mono ?_
  rintro e w' ⟨rfl, rfl⟩
  have e1 : (ptX p != ptX p) = false := by simp
  go_wp2_with fail
  have Th := Lib.hid (T.ext hX)
  have hS : ∀ w', Ext W4 w' → (∀ i, w'.cell? ⟨W3.heap.size, i, none⟩ = (#[.int .i64 (ptX p), .int .i64 (ptY p), .bool p.isSome] : Array Value)[i]?) := fun w' hx => (g6.ext hx).cells
  have hE := (Ext.refl W4).drew
  refine wp_region_held_drew (S := fun w' => (∀ i, w'.cell? ⟨W3.heap.size, i, none⟩ = (#[.int .i64 (ptX p), .int .i64 (ptY p), .bool p.isSome] : Array Value)[i]?)) rfl (hS _ hE) (fun hHeld => ?_)
  refine wpAnyH_take (i := 0) (v := ?_) rfl (by kernel_rfl) (by kernel_rfl) (by kernel_rfl) (fun _ _ _ h => h) (Or.inl ⟨by kernel_rfl, ?_⟩) (by assumption) ?_
  rotate_left
  · (intro w hSw; (try dsimp only at hSw); go_simp; try with_reducible rfl)
  try simp only [put_pack]
  refine wpAnyH_take (i := 1) (v := ?_) rfl (by kernel_rfl) (by kernel_rfl) (by kernel_rfl) (fun _ _ _ h => h) (Or.inl ⟨by kernel_rfl, ?_⟩) (by assumption) ?_
  rotate_left
  · (intro w hSw; (try dsimp only at hSw); go_simp; try with_reducible rfl)
  try simp only [put_pack]
  refine wpAnyH_take (i := 2) (v := ?_) rfl (by kernel_rfl) (by kernel_rfl) (by kernel_rfl) (fun _ _ _ h => h) (Or.inl ⟨by kernel_rfl, ?_⟩) (by assumption) ?_
  rotate_left
  · (intro w hSw; (try dsimp only at hSw); go_simp; try with_reducible rfl)
  try simp only [put_pack]
  refine wpAnyH_take (i := 3) (v := ?_) rfl (by kernel_rfl) (by kernel_rfl) (by kernel_rfl) (fun _ _ _ h => h) (Or.inl ⟨by kernel_rfl, ?_⟩) (by assumption) ?_
  rotate_left
  · (intro w hSw; (try dsimp only at hSw); go_simp; try with_reducible rfl)
  try simp only [put_pack]
  refine wpAnyH_take (i := 4) (v := ?_) rfl (by kernel_rfl) (by kernel_rfl) (by kernel_rfl) (fun _ _ _ h => h) (Or.inl ⟨by kernel_rfl, ?_⟩) (by assumption) ?_
  rotate_left
  · (intro w hSw; (try dsimp only at hSw); go_simp; try with_reducible rfl)
  try simp only [put_pack]
  refine wpAnyH_take (i := 5) (v := ?_) rfl (by kernel_rfl) (by kernel_rfl) (by kernel_rfl) (fun _ _ _ h => h) (Or.inl ⟨by kernel_rfl, ?_⟩) (by assumption) ?_
  rotate_left
  · (intro w hSw; (try dsimp only at hSw); go_simp; try with_reducible rfl)
  try simp only [put_pack]
  refine wpAnyH_take (i := 6) (v := ?_) rfl (by kernel_rfl) (by kernel_rfl) (by kernel_rfl) (fun _ _ _ h => h) (Or.inl ⟨by kernel_rfl, ?_⟩) (by assumption) ?_
  rotate_left
  · (intro w hSw; (try dsimp only at hSw); go_simp; try with_reducible rfl)
  try simp only [put_pack]
  refine wpAnyH_take (i := 7) (v := ?_) rfl (by kernel_rfl) (by kernel_rfl) (by kernel_rfl) (fun _ _ _ h => h) (Or.inl ⟨by kernel_rfl, ?_⟩) (by assumption) ?_
  rotate_left
  · (intro w hSw; (try dsimp only at hSw); go_simp; try with_reducible rfl)
  try simp only [put_pack]
  refine wpAnyH_take (i := 8) (v := ?_) rfl (by kernel_rfl) (by kernel_rfl) (by kernel_rfl) (fun _ _ _ h => h) (Or.inl ⟨by kernel_rfl, ?_⟩) (by assumption) ?_
  rotate_left
  · (intro w hSw; (try dsimp only at hSw); go_simp; try with_reducible rfl)
  try simp only [put_pack]
  refine wpAnyH_take (i := 9) (v := ?_) rfl (by kernel_rfl) (by kernel_rfl) (by kernel_rfl) (fun _ _ _ h => h) (Or.inl ⟨by kernel_rfl, ?_⟩) (by assumption) ?_
  rotate_left
  · (intro w hSw; (try dsimp only at hSw); go_simp; try with_reducible rfl)
  try simp only [put_pack]
  refine wpAnyH_take (i := 10) (v := ?_) rfl (by kernel_rfl) (by kernel_rfl) (by kernel_rfl) (fun _ _ _ h => h) (Or.inl ⟨by kernel_rfl, ?_⟩) (by assumption) ?_
  rotate_left
  · (intro w hSw; (try dsimp only at hSw); go_simp; try with_reducible rfl)
  try simp only [put_pack]
  refine wpAnyH_take (i := 11) (v := ?_) rfl (by kernel_rfl) (by kernel_rfl) (by kernel_rfl) (fun _ _ _ h => h) (Or.inl ⟨by kernel_rfl, ?_⟩) (by assumption) ?_
  rotate_left
  · (intro w hSw; (try dsimp only at hSw); go_simp; try with_reducible rfl)
  try simp only [put_pack]
  refine wpAnyH_take (i := 12) (v := ?_) rfl (by kernel_rfl) (by kernel_rfl) (by kernel_rfl) (fun _ _ _ h => h) (Or.inl ⟨by kernel_rfl, ?_⟩) (by assumption) ?_
  rotate_left
  · (intro w hSw; (try dsimp only at hSw); go_simp; try with_reducible rfl)
  try simp only [put_pack]
  refine wpAnyH_take (i := 13) (v := ?_) rfl (by kernel_rfl) (by kernel_rfl) (by kernel_rfl) (fun _ _ _ h => h) (Or.inl ⟨by kernel_rfl, ?_⟩) (by assumption) ?_
  rotate_left
  · (intro w hSw; (try dsimp only at hSw); go_simp; try with_reducible rfl)
  try simp only [put_pack]
  refine wpAnyH_take (i := 14) (v := ?_) rfl (by kernel_rfl) (by kernel_rfl) (by kernel_rfl) (fun _ _ _ h => h) (Or.inl ⟨by kernel_rfl, ?_⟩) (by assumption) ?_
  rotate_left
  · (intro w hSw; (try dsimp only at hSw); go_simp; try with_reducible rfl)
  try simp only [put_pack]
  refine wpAnyH_take (i := 15) (v := ?_) rfl (by kernel_rfl) (by kernel_rfl) (by kernel_rfl) (fun _ _ _ h => h) (Or.inl ⟨by kernel_rfl, ?_⟩) (by assumption) ?_
  rotate_left
  · (intro w hSw; (try dsimp only at hSw); go_simp; try with_reducible rfl)
  try simp only [put_pack]
  refine wpAnyH_take (i := 16) (v := ?_) rfl (by kernel_rfl) (by kernel_rfl) (by kernel_rfl) (fun _ _ _ h => h) (Or.inl ⟨by kernel_rfl, ?_⟩) (by assumption) ?_
  rotate_left
  · (intro w hSw; (try dsimp only at hSw); go_simp; try with_reducible rfl)
  try simp only [put_pack]
  refine wpAnyH_take (i := 17) (v := ?_) rfl (by kernel_rfl) (by kernel_rfl) (by kernel_rfl) (fun _ _ _ h => h) (Or.inl ⟨by kernel_rfl, ?_⟩) (by assumption) ?_
  rotate_left
  · (intro w hSw; (try dsimp only at hSw); go_simp; try with_reducible rfl)
  try simp only [put_pack]
  refine wpAnyH_take (i := 18) (v := ?_) rfl (by kernel_rfl) (by kernel_rfl) (by kernel_rfl) (fun _ _ _ h => h) (Or.inl ⟨by kernel_rfl, ?_⟩) (by assumption) ?_
  rotate_left
  · (intro w hSw; (try dsimp only at hSw); go_simp; try with_reducible rfl)
  try simp only [put_pack]
  refine wpAnyH_take (i := 20) (v := ?_) rfl (by kernel_rfl) (by kernel_rfl) (by kernel_rfl) (fun _ _ _ h => h) (Or.inl ⟨by kernel_rfl, ?_⟩) (by assumption) ?_
  rotate_left
  · (intro w hSw; (try dsimp only at hSw); go_simp; try with_reducible rfl)
  try simp only [put_pack]
  refine wpAnyH_take (i := 21) (v := ?_) rfl (by kernel_rfl) (by kernel_rfl) (by kernel_rfl) (fun _ _ _ h => h) (Or.inl ⟨by kernel_rfl, ?_⟩) (by assumption) ?_
  rotate_left
  · (intro w hSw; (try dsimp only at hSw); go_simp; try with_reducible rfl)
  try simp only [put_pack]
  refine wpAnyH_ready (rs := [19]) (by kernel_rfl) (by simp) ?_
  refine AllReadyH.cons rfl (fun K hKK => ?_) AllReadyH.nil
  go_simp
  refine (htu _).mono ?_
  rintro e wx ⟨rfl, rfl⟩
  refine hKK.out _ _ (hS _ hE) (fun hHeld => ?_)
  clear hKK K
  try dsimp only
  refine wpAnyH_ready (rs := [22]) (by kernel_rfl) (by simp) ?_
  refine AllReadyH.cons rfl (fun K hKK => ?_) AllReadyH.nil
  go_simp
  refine (htr _).mono ?_
  rintro e wx ⟨rfl, hx⟩
  replace hE := hE.trans hx
  clear hx
  refine hKK.out _ _ (hS _ hE) (fun hHeld => ?_)
  clear hKK K
  try dsimp only
  refine wpAnyH_ready (rs := [23]) (by kernel_rfl) (by simp) ?_
  refine AllReadyH.cons rfl (fun K hKK => ?_) AllReadyH.nil
  go_simp
  refine (is_l _ _ true htb.1 htb.2.1 htb.2.2.1 htb.2.2.2 _).mono ?_
  rintro e wx ⟨rfl, hx⟩
  replace hE := hE.trans hx
  clear hx
  refine hKK.out _ _ (hS _ hE) (fun hHeld => ?_)
  clear hKK K
  try dsimp only
  refine wpAnyH_take (i := 24) (v := ?_) rfl (by kernel_rfl) (by kernel_rfl) (by kernel_rfl) (fun _ _ _ h => h) (Or.inl ⟨by kernel_rfl, ?_⟩) (by assumption) ?_
  rotate_left
  · (intro w hSw; (try dsimp only at hSw); go_simp; try with_reducible rfl)
  try simp only [put_pack]
  refine wpAnyH_take (i := 25) (v := ?_) rfl (by kernel_rfl) (by kernel_rfl) (by kernel_rfl) (fun _ _ _ h => h) (Or.inl ⟨by kernel_rfl, ?_⟩) (by assumption) ?_
  rotate_left
  · (intro w hSw; (try dsimp only at hSw); go_simp; try with_reducible rfl)
  try simp only [put_pack]
  refine wpAnyH_take (i := 26) (v := ?_) rfl (by kernel_rfl) (by kernel_rfl) (by kernel_rfl) (fun _ _ _ h => h) (Or.inl ⟨by kernel_rfl, ?_⟩) (by assumption) ?_
  rotate_left
  · (intro w hSw; (try dsimp only at hSw); go_simp; try with_reducible rfl)
  try simp only [put_pack]
  refine wpAnyH_take (i := 27) (v := ?_) rfl (by kernel_rfl) (by kernel_rfl) (by kernel_rfl) (fun _ _ _ h => h) (Or.inl ⟨by kernel_rfl, ?_⟩) (by assumption) ?_
  rotate_left
  · (intro w hSw; (try dsimp only at hSw); go_simp; try with_reducible rfl)
  try simp only [put_pack]
  refine wpAnyH_take (i := 29) (v := ?_) rfl (by kernel_rfl) (by kernel_rfl) (by kernel_rfl) (fun _ _ _ h => h) (Or.inl ⟨by kernel_rfl, ?_⟩) (by assumption) ?_
  rotate_left
  · (intro w hSw; (try dsimp only at hSw); go_simp; try with_reducible rfl)
  try simp only [put_pack]
  refine wpAnyH_ready (rs := [28]) (by kernel_rfl) (by simp) ?_
  refine AllReadyH.cons rfl (fun K hKK => ?_) AllReadyH.nil
  go_simp
  refine (hno _).mono ?_
  rintro e wx ⟨rfl, rfl⟩
  refine hKK.out _ _ (hS _ hE) (fun hHeld => ?_)
  clear hKK K
  try dsimp only
  refine wpAnyH_ready (rs := [30]) (by kernel_rfl) (by simp) ?_
  refine AllReadyH.cons rfl (fun K hKK => ?_) AllReadyH.nil
  go_simp
  refine (hnr _).mono ?_
  rintro e wx ⟨rfl, hx⟩
  replace hE := hE.trans hx
  clear hx
  refine hKK.out _ _ (hS _ hE) (fun hHeld => ?_)
  clear hKK K
  try dsimp only
  refine wpAnyH_take (i := 31) (v := ?_) rfl (by kernel_rfl) (by kernel_rfl) (by kernel_rfl) (fun _ _ _ h => h) (Or.inl ⟨by kernel_rfl, ?_⟩) (by assumption) ?_
  rotate_left
  · (intro w hSw; (try dsimp only at hSw); go_simp; try with_reducible rfl)
  try simp only [put_pack]
  refine wpAnyH_take (i := 32) (v := ?_) rfl (by kernel_rfl) (by kernel_rfl) (by kernel_rfl) (fun _ _ _ h => h) (Or.inl ⟨by kernel_rfl, ?_⟩) (by assumption) ?_
  rotate_left
  · (intro w hSw; (try dsimp only at hSw); go_simp; try with_reducible rfl)
  try simp only [put_pack]
  refine wpAnyH_take (i := 33) (v := ?_) rfl (by kernel_rfl) (by kernel_rfl) (by kernel_rfl) (fun _ _ _ h => h) (Or.inl ⟨by kernel_rfl, ?_⟩) (by assumption) ?_
  rotate_left
  · (intro w hSw; (try dsimp only at hSw); go_simp; try with_reducible rfl)
  try simp only [put_pack]
  refine wpAnyH_take (i := 34) (v := ?_) rfl (by kernel_rfl) (by kernel_rfl) (by kernel_rfl) (fun _ _ _ h => h) (Or.inl ⟨by kernel_rfl, ?_⟩) (by assumption) ?_
  rotate_left
  · (intro w hSw; (try dsimp only at hSw); go_simp; try with_reducible rfl)
  try simp only [put_pack]
  refine wpAnyH_take (i := 36) (v := ?_) rfl (by kernel_rfl) (by kernel_rfl) (by kernel_rfl) (fun _ _ _ h => h) (Or.inl ⟨by kernel_rfl, ?_⟩) (by assumption) ?_
  rotate_left
  · (intro w hSw; (try dsimp only at hSw); go_simp; try with_reducible rfl)
  try simp only [put_pack]
  refine wpAnyH_ready (rs := [35]) (by kernel_rfl) (by simp) ?_
  refine AllReadyH.cons rfl (fun K hKK => ?_) AllReadyH.nil
  go_simp
  refine (hte _ (Th.out.ext hE)).mono ?_
  rintro e wx ⟨rfl, hx⟩
  replace hE := hE.trans hx
  clear hx
  refine hKK.out _ _ (hS _ hE) (fun hHeld => ?_)
  clear hKK K
  try dsimp only
  refine wpAnyH_ready (rs := [37]) (by kernel_rfl) (by simp) ?_
  refine AllReadyH.cons rfl (fun K hKK => ?_) AllReadyH.nil
  go_simp
  refine (hxr _).mono ?_
  rintro e wx ⟨rfl, hx⟩
  replace hE := hE.trans hx
  clear hx
  refine hKK.out _ _ (hS _ hE) (fun hHeld => ?_)
  clear hKK K
  try dsimp only
  refine wpAnyH_take (i := 38) (v := ?_) rfl (by kernel_rfl) (by kernel_rfl) (by kernel_rfl) (fun _ _ _ h => h) (Or.inl ⟨by kernel_rfl, ?_⟩) (by assumption) ?_
  rotate_left
  · (intro w hSw; (try dsimp only at hSw); go_simp; try with_reducible rfl)
  try simp only [put_pack]
  refine wpAnyH_take (i := 39) (v := ?_) rfl (by kernel_rfl) (by kernel_rfl) (by kernel_rfl) (fun _ _ _ h => h) (Or.inl ⟨by kernel_rfl, ?_⟩) (by assumption) ?_
  rotate_left
  · (intro w hSw; (try dsimp only at hSw); go_simp; try with_reducible rfl)
  try simp only [put_pack]
  refine wpAnyH_done (by kernel_rfl) ?_ _
  go_simp
  go_wp2_with fail
  replace hX := hX.trans hE
  have g6b := g6.ext hE
  have g7b := g7.ext hE
  clear hS c_g6 c_g7 hE g6 g7 htu htr hno hnr hte hxr hpa htb e1
  have c_g6 := g6b.cells
  have c_g7 := g7b.cells
  refine (htm _).mono ?_
  rintro e w' ⟨rfl, rfl⟩
  clear htm
  go_wp2_with fail
  refine (hmr _).mono ?_
  rintro e W6 ⟨rfl, hx6⟩
  clear hmr c_g6 c_g7 g6b g7b
  generalize timesM p q = m at *
  have g8 := Bk.new W6 (.cells #[.int .i64 (ptX m), .int .i64 (ptY m), .bool m.isSome] 56)
  have hX7 := (hX.trans hx6).alloc (.cells #[.int .i64 (ptX m), .int .i64 (ptY m), .bool m.isSome] 56)
  have c_g8 := g8.cells
  clear hX hx6
  have e1 : (m.isSome == m.isSome) = true := by simp
  go_wp2_with fail
  generalize World.alloc W6 _ = W7 at *
  refine (is_l _ _ m.isSome hms.1 hms.2.1 hms.2.2.1 hms.2.2.2 _).mono ?_
  rintro e W8 ⟨rfl, hx8⟩
  clear c_g8 g8 hms
  go_wp2_with fail
  refine (alive04 _ (T.ext (hX7.trans hx8))).mono ?_
  rintro e W9 ⟨rfl, hx9⟩
  have hf := Lib.hid ((hX7.trans hx8).trans hx9)
  clear hX7 hx8 hx9
  go_wp2_with fail
  go_ret
  exact ⟨rfl, hf.out⟩
end Go.Proofs.YtiahgcaenneonaaDoor
/-
  PlaneGoes, walked.
-/
namespace Go.Proofs.YtiahgcaenneonaaDoor
open Go.RowKit Kv
theorem goV_eq (r : Option (Int × Int) × Int) : goV r = .tuple #[.complex .f64 (floatOfInt .f64 (ptX r.1)) (floatOfInt .f64 (ptY r.1)), .int .i64 r.2] := by
  obtain ⟨p, e⟩ := r
  cases p with
  | none => simp only [goV, ptX, ptY, w0]
  | some p => rfl
theorem goL_bd : ∀ (l : List UInt8) (p : Int × Int), bdP p → -1048576 ≤ ptX (goL l p).1 ∧ ptX (goL l p).1 ≤ 1048576 ∧ -1048576 ≤ ptY (goL l p).1 ∧ ptY (goL l p).1 ≤ 1048576
  | [], p, h => h
  | c :: l, p, h => by
    rw [goL]
    cases stepM c.toNat with
    | none => simp [ptX, ptY]
    | some d =>
      simp only
      split
      · rename_i hin
        exact goL_bd l _ ((inR2_iff _ _).1 hin)
      · simp [ptX, ptY]
theorem pt_int {x y : Int} (h1 : -1048576 ≤ x) (h2 : x ≤ 1048576) (h3 : -1048576 ≤ y) (h4 : y ≤ 1048576) : ptOf (floatOfInt .f64 x) (floatOfInt .f64 y) = some (x, y) :=
  ptOf_of (p := (x, y)) (num_F x (by omega) (by omega)) (num_F y (by omega) (by omega)) ⟨h1, h2, h3, h4⟩
set_option maxRecDepth 100000 in
set_option maxHeartbeats 2000000 in
theorem goes_walk (x y v u : Int) (l : List UInt8) (hl : l.length ≤ 9223372036854775807) (w : World) (T : Tabs w) :
    Calls Tryd.prog 6 #[.agg #[.int .i64 x, .int .i64 y, .int .i64 v, .int .i64 u, .string ⟨l.toArray⟩]] w fun e w' => e = .returned (.bool true) ∧ Ext w w' := by
  have b1 := Bk.new w (.cells #[.int .i64 x, .int .i64 y, .int .i64 v, .int .i64 u, .string ⟨l.toArray⟩] 72)
  have hX := (Ext.refl w).alloc (.cells #[.int .i64 x, .int .i64 y, .int .i64 v, .int .i64 u, .string ⟨l.toArray⟩] 72)
  go_enter Tryd.func6, Tryd.ntmps6
  go_wp2_with fail
  generalize w.alloc _ = W at *
  have c_b1 := b1.cells
  go_quiet (fail)
  replace hX := hX.drewN nq
  clear c_b1 b1
  generalize W.drewN nq = W1 at *
  by_cases hlen : 300 < l.length
  · have d1 : decide ((300 : Int) < (l.length : Int)) = true := by rw [decide_eq_true_eq]; omega
    go_wp2_with fail
    refine (alive04 _ (T.ext hX)).mono ?_
    rintro e W9 ⟨rfl, hx9⟩
    have hf := Lib.hid (hX.trans hx9)
    go_wp2_with fail
    go_ret
    exact ⟨rfl, hf.out⟩
  have d1 : decide ((300 : Int) < (l.length : Int)) = false := by rw [decide_eq_false_iff_not]; omega
  have ha1 := fun w => at_p x y w
  have ha2 := fun w => at_p v u w
  have ha3 := fun w => at_r x y w
  have ha4 := fun w => at_r v u w
  obtain ⟨h1, h2⟩ := clampR_bd x
  obtain ⟨h3, h4⟩ := clampR_bd y
  obtain ⟨h5, h6⟩ := clampR_bd v
  obtain ⟨h7, h8⟩ := clampR_bd u
  generalize clampR x = x' at *
  generalize clampR y = y' at *
  generalize clampR v = v' at *
  generalize clampR u = u' at *
  have hb1 : bdP (x', y') := ⟨h1, h2, h3, h4⟩
  have hb2 : bdP (v', u') := ⟨h5, h6, h7, h8⟩
  have hgp := fun w => go_p (floatOfInt .f64 x') (floatOfInt .f64 y') l hl w
  have hwp := fun w => way_p (floatOfInt .f64 x') (floatOfInt .f64 y') (floatOfInt .f64 v') (floatOfInt .f64 u') w
  have hgr := fun w => go_r_some (x', y') hb1 l hl w
  have hwr := fun w => way_r (some (x', y')) (some (v', u')) (fun z hz => by injection hz with hz; subst hz; exact hb1) (fun z hz => by injection hz with hz; subst hz; exact hb2) w
  have hgb := goL_bd l (x', y') hb1
  rw [pt_int h1 h2 h3 h4] at hgp hwp
  rw [pt_int h5 h6 h7 h8] at hwp
  simp only [goV_eq] at hgp
  simp only [pV] at hgr
  simp only [ptX, ptY, Option.isSome_some] at hwr
  have hi1 := fun w => is_l x' y' true h1 h2 h3 h4 w
  have hi2 := fun w => is_l v' u' true h5 h6 h7 h8 w
  have hi3 := fun w => is_l _ _ (goL l (x', y')).1.isSome hgb.1 hgb.2.1 hgb.2.2.1 hgb.2.2.2 w
  generalize goL l (x', y') = g at *
  generalize wayM (some (x', y')) (some (v', u')) = m at *
  clear h1 h2 h3 h4 h5 h6 h7 h8 hb1 hb2 hgb hlen
  go_wp2_with fail
  refine (ha1 _).mono ?_
  rintro e w' ⟨rfl, rfl⟩
  go_wp2_with fail
  refine (ha2 _).mono ?_
  rintro e w' ⟨rfl, rfl⟩
  go_wp2_with fail
  refine (ha3 _).mono ?_
  rintro e W2 ⟨rfl, hx2⟩
  go_wp2_with fail
  refine (ha4 _).mono ?_
  rintro e W3 ⟨rfl, hx3⟩
  replace hX := (hX.trans hx2).trans hx3
  clear hx2 hx3 ha1 ha2 ha3 ha4
  have g6 := Bk.new W3 (.cells #[.int .i64 x', .int .i64 y', .bool true] 56)
  have g7 := Bk.new (W3.alloc (.cells #[.int .i64 x', .int .i64 y', .bool true] 56)) (.cells #[.int .i64 v', .int .i64 u', .bool true] 56)
  replace g6 := g6.alloc (.cells #[.int .i64 v', .int .i64 u', .bool true] 56)
  replace hX := (hX.alloc (.cells #[.int .i64 x', .int .i64 y', .bool true] 56)).alloc (.cells #[.int .i64 v', .int .i64 u', .bool true] 56)
  rw [World.size_alloc] at g7
  have c_g6 := g6.cells
  have c_g7 := g7.cells
  go_wp2_with fail
  generalize World.alloc (World.alloc W3 _) _ = W4 at *
  refine (hi1 _).mono ?_
  rintro e W5 ⟨rfl, hx5⟩
  replace g6 := g6.ext hx5
  replace g7 := g7.ext hx5
  replace hX := hX.trans hx5
  clear c_g6 c_g7 hx5
  have c_g6 := g6.cells
  have c_g7 := g7.cells
  go_wp2_with fail
  refine (hi2 _).mono ?_
  rintro e W6 ⟨rfl, hx5⟩
  replace g6 := g6.ext hx5
  replace g7 := g7.ext hx5
  replace hX := hX.trans hx5
  clear c_g6 c_g7 hx5
  have c_g6 := g6.cells
  have c_g7 := g7.cells
  go_wp2_with fail
  refine (hgp _).mono ?_
  rintro e w' ⟨rfl, rfl⟩
  go_wp2_with fail
  refine (hgr _).mono ?_
  rintro e W7 ⟨rfl, hx5⟩
  have n1 := Bk.new W7 (.cells #[.int .i64 (ptX g.1), .int .i64 (ptY g.1), .bool g.1.isSome] 56)
  have hx6 := hx5.alloc (.cells #[.int .i64 (ptX g.1), .int .i64 (ptY g.1), .bool g.1.isSome] 56)
  replace g6 := g6.ext hx6
  replace g7 := g7.ext hx6
  replace hX := hX.trans hx6
  clear c_g6 c_g7 hx5 hx6
  have c_g6 := g6.cells
  have c_g7 := g7.cells
  go_wp2_with fail
  generalize W7.alloc _ = W8 at *
  refine (hwp _).mono ?_
  rintro e W9 ⟨rfl, hx5⟩
  replace n1 := n1.ext hx5
  replace g6 := g6.ext hx5
  replace g7 := g7.ext hx5
  replace hX := hX.trans hx5
  clear c_g6 c_g7 hx5
  have c_g6 := g6.cells
  have c_g7 := g7.cells
  go_wp2_with fail
  refine (hwr _).mono ?_
  rintro e W10 ⟨rfl, hx5⟩
  replace n1 := n1.ext hx5
  replace hX := hX.trans hx5
  clear c_g6 c_g7 hx5 g6 g7
  have c_n1 := n1.cells
  have e1 : (g.2 == g.2) = true := by simp
  have e2 : (m.2 == m.2) = true := by simp
  go_wp2_with fail
  refine (hi3 _).mono ?_
  rintro e W11 ⟨rfl, hx5⟩
  replace hX := hX.trans hx5
  clear c_n1 hx5 n1
  go_wp2_with fail
  refine (alive04 _ (T.ext hX)).mono ?_
  rintro e W12 ⟨rfl, hx9⟩
  have hf := Lib.hid (hX.trans hx9)
  go_wp2_with fail
  go_ret
  exact ⟨rfl, hf.out⟩
end Go.Proofs.YtiahgcaenneonaaDoor
/-
  PlaneBack: plain mathematics of ways and turns.
-/
namespace Go.Proofs.YtiahgcaenneonaaDoor
open Go.RowKit Kv
theorem goL_rep (c : UInt8) (d : Int × Int) (hd : stepM c.toNat = some d) : ∀ (n : Nat) (l : List UInt8) (p : Int × Int), (-1048576 + (n : Int) ≤ p.1 ∧ p.1 + n ≤ 1048576 ∧ -1048576 + (n : Int) ≤ p.2 ∧ p.2 + n ≤ 1048576) →
    goL (List.replicate n c ++ l) p = goL l (p.1 + n * d.1, p.2 + n * d.2)
  | 0, l, p, _ => by simp
  | n + 1, l, p, h => by
    have hs := step_bd hd
    rw [List.replicate_succ, List.cons_append, goL, hd]
    simp only
    rw [if_pos ((inR2_iff _ _).2 ⟨by show -1048576 ≤ p.1 + d.1; omega, by show p.1 + d.1 ≤ 1048576; omega, by show -1048576 ≤ p.2 + d.2; omega, by show p.2 + d.2 ≤ 1048576; omega⟩)]
    rw [goL_rep c d hd n l (p.1 + d.1, p.2 + d.2) (by simp only; omega)]
    simp only [Int.natCast_add, Int.natCast_one, Int.add_mul, Int.one_mul]
    rw [show p.1 + d.1 + n * d.1 = p.1 + (n * d.1 + d.1) from by omega, show p.2 + d.2 + n * d.2 = p.2 + (n * d.2 + d.2) from by omega]
/-- The way leads there. -/
theorem way_leads {p q : Int × Int} (h : bdP p ∧ p.1 ≤ 1000 ∧ -1000 ≤ p.1 ∧ p.2 ≤ 1000 ∧ -1000 ≤ p.2) (h' : q.1 ≤ 1000 ∧ -1000 ≤ q.1 ∧ q.2 ≤ 1000 ∧ -1000 ≤ q.2) : goL (wayS (q.1 - p.1) (q.2 - p.2)) p = (some q, 0) := by
  obtain ⟨_, h1, h2, h3, h4⟩ := h
  obtain ⟨h5, h6, h7, h8⟩ := h'
  unfold wayS
  rw [← List.append_nil (List.replicate _ 117), List.append_assoc, List.append_assoc]
  rw [goL_rep 114 (1, 0) rfl _ _ _ (by omega), goL_rep 108 (-1, 0) rfl _ _ _ (by simp only; omega), goL_rep 100 (0, 1) rfl _ _ _ (by simp only; omega), goL_rep 117 (0, -1) rfl _ _ _ (by simp only; omega)]
  simp only [goL]
  congr 2
  apply Prod.ext
  · simp only; omega
  · simp only; omega
theorem wayS_len (x y : Int) : (wayS x y).length = (max 0 x).toNat + (max 0 (-x)).toNat + (max 0 y).toNat + (max 0 (-y)).toNat := by
  unfold wayS
  simp
  omega
theorem four_cases (k : Int) : (k % 4 = 0 ∧ (-k) % 4 = 0) ∨ (k % 4 = 1 ∧ (-k) % 4 = 3) ∨ (k % 4 = 2 ∧ (-k) % 4 = 2) ∨ (k % 4 = 3 ∧ (-k) % 4 = 1) := by omega
theorem turn_back (p : Int × Int) (k : Int) : turnM (some (turnM (some p) k)) (-k) = p := by
  obtain ⟨x, y⟩ := p
  rcases four_cases k with ⟨h1, h2⟩ | ⟨h1, h2⟩ | ⟨h1, h2⟩ | ⟨h1, h2⟩ <;> simp [turnM, h1, h2, rotN, rot]
theorem turn_four (p : Int × Int) (k : Int) : turnM (some p) (k + 4) = turnM (some p) k := by
  unfold turnM
  rw [show (k + 4) % 4 = k % 4 from by omega]
theorem turn_norm (p : Int × Int) (k : Int) : normM (some (turnM (some p) k)) = normM (some p) := by
  obtain ⟨x, y⟩ := p
  rcases four_cases k with ⟨h1, h2⟩ | ⟨h1, h2⟩ | ⟨h1, h2⟩ | ⟨h1, h2⟩ <;> simp [turnM, h1, rotN, rot, normM, Int.neg_mul_neg] <;> omega
theorem norm_times (x y v u : Int) : (x * v - y * u) * (x * v - y * u) + (x * u + y * v) * (x * u + y * v) = (x * x + y * y) * (v * v + u * u) := by grind
theorem timesM_small {x y v u : Int} (h1 : -128 ≤ x ∧ x ≤ 128) (h2 : -128 ≤ y ∧ y ≤ 128) (h3 : -128 ≤ v ∧ v ≤ 128) (h4 : -128 ≤ u ∧ u ≤ 128) : timesM (some (x, y)) (some (v, u)) = some (x * v - y * u, x * u + y * v) ∧ bdP (x * v - y * u, x * u + y * v) := by
  have hm : ∀ a b : Int, -128 ≤ a ∧ a ≤ 128 → -128 ≤ b ∧ b ≤ 128 → -16384 ≤ a * b ∧ a * b ≤ 16384 := by
    intro a b ha hb
    have e1 : (a.natAbs * b.natAbs) ≤ 128 * 128 := Nat.mul_le_mul (by omega) (by omega)
    rw [← Int.natAbs_mul] at e1
    omega
  have p1 := hm x v h1 h3
  have p2 := hm y u h2 h4
  have p3 := hm x u h1 h4
  have p4 := hm y v h2 h3
  have hb : bdP (x * v - y * u, x * u + y * v) := ⟨by show -1048576 ≤ x * v - y * u; omega, by show x * v - y * u ≤ 1048576; omega, by show -1048576 ≤ x * u + y * v; omega, by show x * u + y * v ≤ 1048576; omega⟩
  refine ⟨?_, hb⟩
  unfold timesM
  simp only
  rw [if_pos ((inR2_iff _ _).2 hb)]
theorem turnM_bd2 {p : Int × Int} (k : Int) (h : bdP p) : bdP (turnM (some p) k) := rotN_bd _ h
set_option maxRecDepth 100000 in
set_option maxHeartbeats 2000000 in
theorem back_walk (x y v u k : Int) (h1 : -128 ≤ x ∧ x ≤ 128) (h2 : -128 ≤ y ∧ y ≤ 128) (h3 : -128 ≤ v ∧ v ≤ 128) (h4 : -128 ≤ u ∧ u ≤ 128) (hk : -2147483648 ≤ k ∧ k ≤ 2147483647) (w : World) (T : Tabs w) :
    Calls Tryd.prog 7 #[.agg #[.int .i8 x, .int .i8 y, .int .i8 v, .int .i8 u, .int .i32 k]] w fun e w' => e = .returned (.bool true) ∧ Ext w w' := by
  have b1 := Bk.new w (.cells #[.int .i8 x, .int .i8 y, .int .i8 v, .int .i8 u, .int .i32 k] 85)
  have hX := (Ext.refl w).alloc (.cells #[.int .i8 x, .int .i8 y, .int .i8 v, .int .i8 u, .int .i32 k] 85)
  have w1 := IntWalk.i64_in x (by omega)
  have w2 := IntWalk.i64_in y (by omega)
  have w3 := IntWalk.i64_in v (by omega)
  have w4 := IntWalk.i64_in u (by omega)
  have w5 := IntWalk.i64_in k (by omega)
  have w6 := IntWalk.i64_in (-k) (by omega)
  have w7 := IntWalk.i64_in (k + 4) (by omega)
  have ha1 := fun w => at_p x y w
  have ha2 := fun w => at_p v u w
  rw [clampR_id (by omega) (by omega), clampR_id (by omega) (by omega)] at ha1 ha2
  go_enter Tryd.func7, Tryd.ntmps7
  go_wp2_with fail
  generalize w.alloc _ = W at *
  have c_b1 := b1.cells
  go_quiet (fail)
  replace hX := hX.drewN nq
  clear c_b1 b1
  generalize W.drewN nq = W1 at *
  go_wp2_with fail
  refine (ha1 _).mono ?_
  rintro e w' ⟨rfl, rfl⟩
  go_wp2_with fail
  refine (ha2 _).mono ?_
  rintro e w' ⟨rfl, rfl⟩
  clear ha1 ha2
  have hp1 := pt_int (x := x) (y := y) (by omega) (by omega) (by omega) (by omega)
  have hp2 := pt_int (x := v) (y := u) (by omega) (by omega) (by omega) (by omega)
  have hb1 : bdP (x, y) := ⟨by show -1048576 ≤ x; omega, by show x ≤ 1048576; omega, by show -1048576 ≤ y; omega, by show y ≤ 1048576; omega⟩
  have hway1 := fun w => way_p (floatOfInt .f64 x) (floatOfInt .f64 y) (floatOfInt .f64 v) (floatOfInt .f64 u) w
  have hway2 := fun w => way_p (floatOfInt .f64 v) (floatOfInt .f64 u) (floatOfInt .f64 x) (floatOfInt .f64 y) w
  have hgo := fun l hl w => go_p (floatOfInt .f64 x) (floatOfInt .f64 y) l hl w
  have htm := fun w => times_p (floatOfInt .f64 x) (floatOfInt .f64 y) (floatOfInt .f64 v) (floatOfInt .f64 u) w
  have hn1 := fun w => norm_p (floatOfInt .f64 x) (floatOfInt .f64 y) w
  have hn2 := fun w => norm_p (floatOfInt .f64 v) (floatOfInt .f64 u) w
  have ht1 := fun w => turn_p (floatOfInt .f64 x) (floatOfInt .f64 y) k w
  have ht4 := fun w => turn_p (floatOfInt .f64 x) (floatOfInt .f64 y) (k + 4) w
  rw [hp1, hp2] at hway1 hway2 htm
  rw [hp1] at hgo hn1 ht1 ht4
  rw [hp2] at hn2
  obtain ⟨hts, htb⟩ := timesM_small h1 h2 h3 h4
  rw [hts] at htm
  rw [turn_four] at ht4
  have hnm := fun w => norm_p (floatOfInt .f64 (x * v - y * u)) (floatOfInt .f64 (x * u + y * v)) w
  rw [pt_int htb.1 htb.2.1 htb.2.2.1 htb.2.2.2] at hnm
  have hrb := turnM_bd2 k hb1
  have htn := turn_norm (x, y) k
  have htk := turn_back (x, y) k
  have ht2 := fun w => turn_p (floatOfInt .f64 (turnM (some (x, y)) k).1) (floatOfInt .f64 (turnM (some (x, y)) k).2) (-k) w
  have hn3 := fun w => norm_p (floatOfInt .f64 (turnM (some (x, y)) k).1) (floatOfInt .f64 (turnM (some (x, y)) k).2) w
  rw [pt_int hrb.1 hrb.2.1 hrb.2.2.1 hrb.2.2.2] at ht2 hn3
  rw [show ((turnM (some (x, y)) k).1, (turnM (some (x, y)) k).2) = turnM (some (x, y)) k from rfl] at ht2 hn3
  rw [htk] at ht2
  rw [htn] at hn3
  have hnn : normM (some (x * v - y * u, x * u + y * v)) = normM (some (x, y)) * normM (some (v, u)) := norm_times x y v u
  rw [hnn] at hnm
  have q1 := eqB (num_F x (by omega) (by omega)) (num_F x (by omega) (by omega))
  have q2 := eqB (num_F y (by omega) (by omega)) (num_F y (by omega) (by omega))
  have q3 := eqB (num_F v (by omega) (by omega)) (num_F v (by omega) (by omega))
  have q4 := eqB (num_F u (by omega) (by omega)) (num_F u (by omega) (by omega))
  have q5 := eqB (num_F (turnM (some (x, y)) k).1 (by have := hrb.1; omega) (by have := hrb.2.1; omega)) (num_F (turnM (some (x, y)) k).1 (by have := hrb.1; omega) (by have := hrb.2.1; omega))
  have q6 := eqB (num_F (turnM (some (x, y)) k).2 (by have := hrb.2.2.1; omega) (by have := hrb.2.2.2; omega)) (num_F (turnM (some (x, y)) k).2 (by have := hrb.2.2.1; omega) (by have := hrb.2.2.2; omega))
  simp only [decide_true] at q1 q2 q3 q4 q5 q6
  have hnb : 0 ≤ normM (some (x, y)) * normM (some (v, u)) ∧ normM (some (x, y)) * normM (some (v, u)) ≤ 1073741824 := by
    have s1 : ∀ a : Int, -128 ≤ a ∧ a ≤ 128 → 0 ≤ a * a ∧ a * a ≤ 16384 := by
      intro a ha
      have e1 : (a.natAbs * a.natAbs) ≤ 128 * 128 := Nat.mul_le_mul (by omega) (by omega)
      have e2 := Int.natAbs_mul_self (a := a)
      omega
    have a1 := s1 x h1
    have a2 := s1 y h2
    have a3 := s1 v h3
    have a4 := s1 u h4
    simp only [normM]
    have e1 : 0 ≤ x * x + y * y ∧ x * x + y * y ≤ 32768 := by omega
    have e2 : 0 ≤ v * v + u * u ∧ v * v + u * u ≤ 32768 := by omega
    exact ⟨Int.mul_nonneg e1.1 e2.1, Int.le_trans (Int.mul_le_mul e1.2 e2.2 e2.1 (by omega)) (by decide)⟩
  have w8 := IntWalk.i64_in (normM (some (x, y)) * normM (some (v, u))) (by omega)
  simp only [ptX, ptY, Option.isSome_some] at htm
  have hwaysym : (wayM (some (v, u)) (some (x, y))).2 = (wayM (some (x, y)) (some (v, u))).2 ∧ (wayM (some (v, u)) (some (x, y))).1.length = (wayM (some (x, y)) (some (v, u))).1.length := by
    simp only [wayM]
    by_cases hf : 64 < max (v - x) (-(v - x)) + max (u - y) (-(u - y))
    · rw [if_pos hf, if_pos (by omega)]; exact ⟨rfl, rfl⟩
    · rw [if_neg hf, if_neg (by omega)]
      refine ⟨rfl, ?_⟩
      simp only [wayS_len]
      omega
  have hlead : (wayM (some (x, y)) (some (v, u))).2 = 0 → goL (wayM (some (x, y)) (some (v, u))).1 (x, y) = (some (v, u), 0) := by
    intro hz
    simp only [wayM] at hz ⊢
    by_cases hf : 64 < max (v - x) (-(v - x)) + max (u - y) (-(u - y))
    · rw [if_pos hf] at hz
      simp at hz
    · rw [if_neg hf]
      exact way_leads (p := (x, y)) (q := (v, u)) ⟨hb1, by simp only; omega⟩ (by simp only; omega)
  have hwl : (wayM (some (x, y)) (some (v, u))).1.length ≤ 9223372036854775807 := by
    simp only [wayM]
    split
    · simp
    · simp only [wayS_len]; omega
  have hw2 : (wayM (some (x, y)) (some (v, u))).2 = 0 ∨ (wayM (some (x, y)) (some (v, u))).2 = 6 := by
    simp only [wayM]
    split
    · exact .inr rfl
    · exact .inl rfl
  obtain ⟨s1, s2⟩ := hwaysym
  generalize hm1 : wayM (some (x, y)) (some (v, u)) = m1 at *
  generalize hm2 : wayM (some (v, u)) (some (x, y)) = m2 at *
  generalize turnM (some (x, y)) k = tk at *
  generalize normM (some (x, y)) = na at *
  generalize normM (some (v, u)) = nb at *
  clear hm1 hm2 hp1 hp2 hts htb hrb htn htk hnn hb1 hnb h1 h2 h3 h4
  rw [s1] at hway2
  have hs2 := Lib.hid s2
  have hleadh := Lib.hid hlead
  have hgoh := Lib.hid hgo
  clear s1 s2 hlead hgo
  have s3 : ((m1.1.length : Int) != (m2.1.length : Int)) = false := by rw [hs2.out]; simp
  have s4 : (m1.2 != m1.2) = false := by simp
  go_wp2_with fail
  refine (hway1 _).mono ?_
  rintro e W2 ⟨rfl, hx2⟩
  replace hX := hX.trans hx2
  go_wp2_with fail
  refine (hway2 _).mono ?_
  rintro e W3 ⟨rfl, hx3⟩
  replace hX := hX.trans hx3
  clear hx2 hx3 hway1 hway2
  rcases hw2 with hz | hz
  · have s5 : (m1.2 == 0) = true := by rw [beq_iff_eq]; exact hz
    have hgl := fun w => hgoh.out m1.1 hwl w
    simp only [hleadh.out hz, goV] at hgl
    have hz2 := Lib.hid hz
    clear hz hgoh hleadh hs2
    go_wp2_with fail
    refine (hgl _).mono ?_
    rintro e w' ⟨rfl, rfl⟩
    go_wp2_with fail
    refine (htm _).mono ?_
    rintro e w' ⟨rfl, rfl⟩
    go_wp2_with fail
    refine (hnm _).mono ?_
    rintro e w' ⟨rfl, rfl⟩
    go_wp2_with fail
    refine (hn1 _).mono ?_
    rintro e w' ⟨rfl, rfl⟩
    go_wp2_with fail
    refine (hn2 _).mono ?_
    rintro e w' ⟨rfl, rfl⟩
    go_wp2_with fail
    refine (ht1 _).mono ?_
    rintro e w' ⟨rfl, rfl⟩
    go_wp2_with fail
    refine (ht2 _).mono ?_
    rintro e w' ⟨rfl, rfl⟩
    go_wp2_with fail
    refine (ht1 _).mono ?_
    rintro e w' ⟨rfl, rfl⟩
    go_wp2_with fail
    refine (ht4 _).mono ?_
    rintro e w' ⟨rfl, rfl⟩
    go_wp2_with fail
    refine (ht1 _).mono ?_
    rintro e w' ⟨rfl, rfl⟩
    go_wp2_with fail
    refine (hn3 _).mono ?_
    rintro e w' ⟨rfl, rfl⟩
    go_wp2_with fail
    refine (hn1 _).mono ?_
    rintro e w' ⟨rfl, rfl⟩
    go_wp2_with fail
    refine (alive04 _ (T.ext hX)).mono ?_
    rintro e W9 ⟨rfl, hx9⟩
    have hf := Lib.hid (hX.trans hx9)
    go_wp2_with fail
    go_ret
    exact ⟨rfl, hf.out⟩
  · have s5 : (m1.2 == 0) = false := by rw [beq_eq_false_iff_ne, hz]; decide
    clear hz hgoh hleadh hs2
    go_wp2_with fail
    refine (htm _).mono ?_
    rintro e w' ⟨rfl, rfl⟩
    go_wp2_with fail
    refine (hnm _).mono ?_
    rintro e w' ⟨rfl, rfl⟩
    go_wp2_with fail
    refine (hn1 _).mono ?_
    rintro e w' ⟨rfl, rfl⟩
    go_wp2_with fail
    refine (hn2 _).mono ?_
    rintro e w' ⟨rfl, rfl⟩
    go_wp2_with fail
    refine (ht1 _).mono ?_
    rintro e w' ⟨rfl, rfl⟩
    go_wp2_with fail
    refine (ht2 _).mono ?_
    rintro e w' ⟨rfl, rfl⟩
    go_wp2_with fail
    refine (ht1 _).mono ?_
    rintro e w' ⟨rfl, rfl⟩
    go_wp2_with fail
    refine (ht4 _).mono ?_
    rintro e w' ⟨rfl, rfl⟩
    go_wp2_with fail
    refine (ht1 _).mono ?_
    rintro e w' ⟨rfl, rfl⟩
    go_wp2_with fail
    refine (hn3 _).mono ?_
    rintro e w' ⟨rfl, rfl⟩
    go_wp2_with fail
    refine (hn1 _).mono ?_
    rintro e w' ⟨rfl, rfl⟩
    go_wp2_with fail
    refine (alive04 _ (T.ext hX)).mono ?_
    rintro e W9 ⟨rfl, hx9⟩
    have hf := Lib.hid (hX.trans hx9)
    go_wp2_with fail
    go_ret
    exact ⟨rfl, hf.out⟩
end Go.Proofs.YtiahgcaenneonaaDoor
/-
  PlaneBack: the input opened.
-/
namespace Go.Proofs.YtiahgcaenneonaaDoor.planeBack
open Go.ChangeShapes Go.WideShapes Go.ChangeAt Go.RowKit Kv
set_option maxRecDepth 100000 in
theorem main (H : Type) (enc : TypeId × Value → H) (W : World) (base : Nat) (args : Array Value) (ds : List (DataW H)) (p : List MemPlace)
    (hval : ∀ (j : Nat) t v, Tryd.f7.params[j]? = some t → args[j]? = some v → Value.okWide Tryd.prog W .any base t v)
    (hA : DataW.TrodAll enc Tryd.prog W 0 (fun _ => true) true Tryd.f7.params.toList args.toList ds p) (hL : laidMetH Tryd.prog Rows.planeBackRow.laid W) :
    Calls Tryd.prog 7 args W fun e w' => e = .returned (.bool true) ∧ Ext W w' := by
  rw [Tryd.params7] at hA hval
  obtain ⟨v0, vs0, d0, ds0, p0, q0, hargs, rfl, rfl, h0, r0⟩ := trodAll_cons hA
  obtain ⟨rfl, rfl, rfl⟩ := trodAll_nil r0
  obtain rfl : args = #[v0] := by cases args; simp_all
  obtain ⟨c0, c1, c2, c3, c4, y0, y1, y2, y3, y4, m, rfl, -, -, g0, g1, g2, g3, g4⟩ := open_agg5 Tryd.underlying85 (by kernel_rfl) (by kernel_rfl) (hval 0 85 v0 rfl rfl) h0
  obtain ⟨x0, e0, -, b0⟩ := DataW.trod_int Tryd.underlying83 g0
  obtain ⟨x1, e1, -, b1⟩ := DataW.trod_int Tryd.underlying83 g1
  obtain ⟨x2, e2, -, b2⟩ := DataW.trod_int Tryd.underlying83 g2
  obtain ⟨x3, e3, -, b3⟩ := DataW.trod_int Tryd.underlying83 g3
  obtain ⟨x4, e4, -, b4⟩ := DataW.trod_int Tryd.underlying21 g4
  simp at e0 e1 e2 e3 e4
  subst e0 e1 e2 e3 e4
  have b0 := bounds_i8 b0
  have b1 := bounds_i8 b1
  have b2 := bounds_i8 b2
  have b3 := bounds_i8 b3
  have b4 := bounds_i32 b4
  exact back_walk x0 x1 x2 x3 x4 (by omega) (by omega) (by omega) (by omega) (by omega) W (tabs_of hL)
end Go.Proofs.YtiahgcaenneonaaDoor.planeBack
/-
  PlaneBack holds: the way from a point to another one leads there, turned four times a point is as it was, and norms multiply.
-/
namespace Go.Proofs.YtiahgcaenneonaaDoor.planeBack
open Go.ChangeShapes Go.WideShapes Go.ChangeAt Go.RowKit

theorem laidOut : laidOutB Tryd.prog = true := by kernel_rfl
set_option maxRecDepth 100000 in
theorem contract (H : Type) (enc : TypeId × Value → H) (W : World) (base : Nat) (args : Array Value) (ds gs : List (DataW H)) (before : List MemPlace)
    (hval : ∀ (j : Nat) t v, Tryd.f7.params[j]? = some t → args[j]? = some v → Value.okWide Tryd.prog W .any base t v)
    (hW : DataW.Whole enc Tryd.prog Tryd.f7.params.toList Rows.planeBackSpec.vars false W args.toList ds gs before) (hL : laidMetH Tryd.prog Rows.planeBackRow.laid W) :
    Calls Tryd.prog 7 args W fun e W' => ∃ v, e = .returned v ∧ Rows.planeBackSpec.post enc Tryd.prog Tryd.f7 false true false false W args v W' := by
  refine (main H enc W base args ds before hval (by obtain ⟨p, q, hA, hV, hpq, _, _⟩ := hW; obtain ⟨_, rfl⟩ := trodVars_none hV; rw [List.append_nil] at hpq; subst hpq; exact hA) hL).mono fun e W' ⟨he, hg⟩ => ⟨_, he, ?_⟩
  refine law_post (tb := 4) laidOut ?_ (by kernel_rfl) Tryd.underlying4 rfl ?_ hW hg
  · rw [Tryd.params7]
    intro t ht
    simp only [List.mem_cons, List.not_mem_nil, or_false] at ht
    rcases ht with rfl <;> exact ⟨by kernel_rfl, of_decide_eq_true (by kernel_rfl)⟩
  · intro ds hl
    rw [Tryd.params7] at hl
    match ds, hl with
    | [d0], _ => rfl
set_option maxRecDepth 100000 in
theorem laid_met (os : Os) : laidMet Tryd.prog Rows.planeBackRow.laid (((laidWorld os)).forCall (fun _ _ => 0) ⟨#[], #[.agg #[.int .i8 0, .int .i8 0, .int .i8 0, .int .i8 0, .int .i32 0]], []⟩).memory :=
  laidMet_of_run' 8 (by kernel_rfl) (by kernel_rfl)
set_option maxRecDepth 100000 in
theorem reads (os : Os) {H : Type} (enc : TypeId × Value → H) : ∃ places, DataW.whole enc Tryd.prog (((laidWorld os)).forCall (fun _ _ => 0) ⟨#[], #[.agg #[.int .i8 0, .int .i8 0, .int .i8 0, .int .i8 0, .int .i32 0]], []⟩).memory Tryd.f7.params.toList Rows.planeBackSpec.vars false (#[.agg #[.int .i8 0, .int .i8 0, .int .i8 0, .int .i8 0, .int .i32 0]] : Array Value).toList 8 = some ([.agg [.lit (.int .i8 0), .lit (.int .i8 0), .lit (.int .i8 0), .lit (.int .i8 0), .lit (.int .i32 0)]], [], places) :=
  ⟨[], by kernel_rfl⟩
set_option maxRecDepth 100000 in
theorem lifted (os : Os) (started : os.Started) (H : Type) (enc : TypeId × Value → H) (F : Stop.Interp) :
    ReturnsInHanded {} Tryd.checked os 7 .any ((OpenSpec.ofChange Rows.planeBackSpec).preRow enc Tryd.prog Tryd.f7 Rows.planeBackRow.domain false Rows.planeBackRow.laid) (((OpenSpec.ofChange Rows.planeBackSpec).at F).post enc Tryd.prog Tryd.f7 false true false false) := by
  obtain ⟨places, hx⟩ := reads os enc
  refine returnsInHanded_of_row (C := Tryd.checked) (s := (OpenSpec.ofChange Rows.planeBackSpec)) own started (by kernel_rfl) Tryd.func7
    (witness_row_at (enc := enc) (C := Tryd.checked) false (laidWorld os) #[.agg #[.int .i8 0, .int .i8 0, .int .i8 0, .int .i8 0, .int .i32 0]] rfl (by kernel_rfl) (by kernel_rfl) (by kernel_rfl)
      (OpenSpec.preRow_of_cond 8 hx (by kernel_rfl) (fun k hk => by cases hk) (by kernel_rfl) (laid_met os))) ?_
  intro W base args ds gs before hval hW _ _ _ hL _ _
  exact contract H enc W base args ds gs before hval hW hL
theorem said : Rows.PlaneBackSaid :=
  OpenClaim.holds_of_cond 7 Tryd.f7 rfl rfl rfl rfl rfl rfl rfl ⟨rfl, rfl, rfl, rfl, rfl⟩ rfl rfl rfl rfl rfl (by kernel_rfl) Tryd.func7 (by kernel_rfl)
    (of_decide_eq_true (by kernel_rfl)) (by unfold Func.isWrapper; first | (rw [if_pos (by decide +kernel)]; kernel_rfl) | (rw [if_neg (by decide +kernel)]; exact ⟨rfl, rfl⟩))
    (fun os started H enc _ F => by rw [OpenClaim.pre_eq_preRow]; exact lifted os started H enc F)
theorem plain (f : FuncId) (fn : Func) (hf : Tryd.pinned.checked.prog.funcNamed "kevel/kevellaw04.PlaneBack" = some f) (hfn : Tryd.pinned.checked.prog.funcs[f]? = some fn) :
    false = Tryd.pinned.checked.prog.looks [] ∧ ∀ (j : Nat) t, fn.params[j]? = some t → Tryd.pinned.checked.prog.wantsStandIn t = false := by
  obtain rfl : f = 7 := Option.some.inj ((show Tryd.prog.funcNamed "kevel/kevellaw04.PlaneBack" = some 7 by kernel_rfl).symm.trans hf) |>.symm
  obtain rfl : fn = Tryd.f7 := (Option.some.inj (Tryd.func7.symm.trans hfn)).symm
  refine ⟨by kernel_rfl, fun j t ht => ?_⟩
  rw [Tryd.params7] at ht
  have hm := Array.mem_of_getElem? ht
  simp only [List.mem_toArray, List.mem_cons, List.not_mem_nil, or_false] at hm
  rcases hm with rfl <;> exact (show Tryd.prog.wantsStandIn _ = false by kernel_rfl)
theorem card : Rows.PlaneBackCardSaid :=
  Claim7.holds_tied_plain_at .later [] _ _ _ _ said (fun _ h => by cases h) (by kernel_rfl) (fun _ h => by cases h) planeBack_row_tie rfl ⟨rfl, rfl⟩ (by kernel_rfl) rfl plain (by kernel_rfl)

end Go.Proofs.YtiahgcaenneonaaDoor.planeBack
