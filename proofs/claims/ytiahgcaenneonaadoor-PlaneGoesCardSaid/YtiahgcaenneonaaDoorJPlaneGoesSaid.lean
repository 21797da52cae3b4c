/-
  PlaneGoes holds: which point any way leads to, and which way leads from any point to any other one.
-/
import Derived.Test.YtiahgcaenneonaaDoorJB2
import Derived.BigQuiet
import Derived.Deep.QuietTactic
import Derived.Deep.RegionHeld2
/-
  PlaneTells, walked.
-/
namespace Go.Proofs.YtiahgcaenneonaaDoor
open Go.RowKit Kv
/-- A block that holds an object. -/
def Bk (w : World) (b : Nat) (o : Obj) : Prop := w.heap[b]? = some o
theorem Bk.new (w : World) (o : Obj) : Bk (w.alloc o) w.heap.size o := heap_alloc_new w o
theorem Bk.ext {w w' : World} {b : Nat} {o : Obj} (h : Bk w b o) (hx : Ext w w') : Bk w' b o := (Below.block hx b (Array.getElem?_eq_some_iff.1 h).1).trans h
theorem Bk.alloc {w : World} {b : Nat} {o : Obj} (h : Bk w b o) (o' : Obj) : Bk (w.alloc o') b o := h.ext ((Ext.refl w).alloc o')
theorem Bk.cells {w : World} {b : Nat} {cs : Array Value} {t : TypeId} {fz : Nat × Nat} (h : Bk w b (.cells cs t fz)) (i : Nat) : w.cell? ⟨b, i, none⟩ = cs[i]? := heap_at h i
set_option maxRecDepth 100000 in
set_option maxHeartbeats 2000000 in
theorem tells_walk (a b c d : Nat) (k : Int) (w : World) (T : Tabs w) :
    Calls Tryd.prog 5 #[.agg #[.float .f64 a, .float .f64 b, .float .f64 c, .float .f64 d, .int .i64 k]] w fun e w' => e = .returned (.bool true) ∧ Ext w w' := by
  have b1 := Bk.new w (.cells #[.float .f64 a, .float .f64 b, .float .f64 c, .float .f64 d, .int .i64 k] 53)
  have hX := (Ext.refl w).alloc (.cells #[.float .f64 a, .float .f64 b, .float .f64 c, .float .f64 d, .int .i64 k] 53)
  have hT := T.ext hX
  go_enter Tryd.func5, Tryd.ntmps5
  go_wp2_with fail
  generalize w.alloc _ = W at *
  have c_b1 := b1.cells
  go_wp2_with fail
  go_quiet (fail)
  go_wp2_with fail
  replace hX := hX.drewN nq
  have hXW := hX
  clear c_b1 b1 hT
  generalize W.drewN nq = W1 at *
  have hof1 := of_r a b
  have hof2 := of_r c d
  have hpa := parts_p a b
  have htu := turn_p a b k
  have hno := norm_p a b
  have hte := ptext_p a b
  have htm := times_p a b c d
  obtain ⟨h1, h2, h3, h4⟩ := pt_bd a b
  obtain ⟨h5, h6, h7, h8⟩ := pt_bd c d
  have htb := turnM_bd (a := a) (b := b) k
  have hpb : ∀ q, ptOf a b = some q → bdP q := fun q hq => by
    rw [hq] at h1 h2 h3 h4
    exact ⟨h1, h2, h3, h4⟩
  have htr := fun w => turn_r (ptOf a b) k hpb w
  have hxr := fun w => ptext_r (ptOf a b) hpb w
  have hnr := fun w => norm_r (ptOf a b) h1 h2 h3 h4 w
  have hmr := fun w => times_r (ptOf a b) (ptOf c d) h1 h2 h3 h4 h5 h6 h7 h8 w
  have hms : -1048576 ≤ ptX (timesM (ptOf a b) (ptOf c d)) ∧ ptX (timesM (ptOf a b) (ptOf c d)) ≤ 1048576 ∧ -1048576 ≤ ptY (timesM (ptOf a b) (ptOf c d)) ∧ ptY (timesM (ptOf a b) (ptOf c d)) ≤ 1048576 := by
    unfold timesM
    split
    · split
      · rename_i hin
        exact (inR2_iff _ _).1 hin
      · simp [ptX, ptY]
    · simp [ptX, ptY]
  clear hpb h1 h2 h3 h4 h5 h6 h7 h8
  generalize ptOf a b = p at *
  generalize ptOf c d = q at *
  refine (hof1 _).mono ?_
  rintro e W2 ⟨rfl, hx2⟩
  go_wp2_with fail
  refine (hof2 _).mono ?_
  rintro e W3 ⟨rfl, hx3⟩
  replace hX := (hX.trans hx2).trans hx3
  clear hx2 hx3 hXW hof1 hof2
  have g6 := Bk.new W3 (.cells #[.int .i64 (ptX p), .int .i64 (ptY p), .bool p.isSome] 56)
  have g7 := Bk.new (W3.alloc (.cells #[.int .i64 (ptX p), .int .i64 (ptY p), .bool p.isSome] 56)) (.cells #[.int .i64 (ptX q), .int .i64 (ptY q), .bool q.isSome] 56)
  replace g6 := g6.alloc (.cells #[.int .i64 (ptX q), .int .i64 (ptY q), .bool q.isSome] 56)
  replace hX := (hX.alloc (.cells #[.int .i64 (ptX p), .int .i64 (ptY p), .bool p.isSome] 56)).alloc (.cells #[.int .i64 (ptX q), .int .i64 (ptY q), .bool q.isSome] 56)
  rw [World.size_alloc] at g7
  have c_g6 := g6.cells
  have c_g7 := g7.cells
  go_wp2_with fail
  generalize World.alloc (World.alloc W3 _) _ = W4 at *
  refine (hpa _).mono ?_
  rintro e w' ⟨rfl, rfl⟩
  have e1 : (ptX p != ptX p) = false := by simp
  go_wp2_with fail
  have Th := Lib.hid (T.ext hX)
  have hS : ∀ w', Ext W4 w' → (∀ i, w'.cell? ⟨W3.heap.size, i, none⟩ = (#[.int .i64 (ptX p), .int .i64 (ptY p), .bool p.isSome] : Array Value)[i]?) := fun w' hx => (g6.ext hx).cells
  have hE := (Ext.refl W4).drew
  refine wp_region_held_drew (S := fun w' => (∀ i, w'.cell? ⟨W3.heap.size, i, none⟩ = (#[.int .i64 (ptX p), .int .i64 (ptY p), .bool p.isSome] : Array Value)[i]?)) rfl (hS _ hE) (fun hHeld => ?_)
  refine wpAnyH_take (i := 0) (v := ?_) rfl (by kernel_rfl) (by kernel_rfl) (by kernel_rfl) (fun _ _ _ h => h) (Or.inl ⟨by kernel_rfl, ?_⟩) (by assumption) ?_
  rotate_left
  · (intro w hSw; (try dsimp only at hSw); go_simp; try with_reducible rfl)
  try simp only [put_pack]
  refine wpAnyH_take (i := 1) (v := ?_) rfl (by kernel_rfl) (by kernel_rfl) (by kernel_rfl) (fun _ _ _ h => h) (Or.inl ⟨by kernel_rfl, ?_⟩) (by assumption) ?_
  rotate_left
  · (intro w hSw; (try dsimp only at hSw); go_simp; try with_reducible rfl)
  try simp only [put_pack]
  refine wpAnyH_take (i := 2) (v := ?_) rfl (by kernel_rfl) (by kernel_rfl) (by kernel_rfl) (fun _ _ _ h => h) (Or.inl ⟨by kernel_rfl, ?_⟩) (by assumption) ?_
  rotate_left
  · (intro w hSw; (try dsimp only at hSw); go_simp; try with_reducible rfl)
  try simp only [put_pack]
  refine wpAnyH_take (i := 3) (v := ?_) rfl (by kernel_rfl) (by kernel_rfl) (by kernel_rfl) (fun _ _ _ h => h) (Or.inl ⟨by kernel_rfl, ?_⟩) (by assumption) ?_
  rotate_left
  · (intro w hSw; (try dsimp only at hSw); go_simp; try with_reducible rfl)
  try simp only [put_pack]
  refine wpAnyH_take (i := 4) (v := ?_) rfl (by kernel_rfl) (by kernel_rfl) (by kernel_rfl) (fun _ _ _ h => h) (Or.inl ⟨by kernel_rfl, ?_⟩) (by assumption) ?_
  rotate_left
  · (intro w hSw; (try dsimp only at hSw); go_simp; try with_reducible rfl)
  try simp only [put_pack]
  refine wpAnyH_take (i := 5) (v := ?_) rfl (by kernel_rfl) (by kernel_rfl) (by kernel_rfl) (fun _ _ _ h => h) (Or.inl ⟨by kernel_rfl, ?_⟩) (by assumption) ?_
  rotate_left
  · (intro w hSw; (try dsimp only at hSw); go_simp; try with_reducible rfl)
  try simp only [put_pack]
  refine wpAnyH_take (i := 6) (v := ?_) rfl (by kernel_rfl) (by kernel_rfl) (by kernel_rfl) (fun _ _ _ h => h) (Or.inl ⟨by kernel_rfl, ?_⟩) (by assumption) ?_
  rotate_left
  · (intro w hSw; (try dsimp only at hSw); go_simp; try with_reducible rfl)
  try simp only [put_pack]
  refine wpAnyH_take (i := 7) (v := ?_) rfl (by kernel_rfl) (by kernel_rfl) (by kernel_rfl) (fun _ _ _ h => h) (Or.inl ⟨by kernel_rfl, ?_⟩) (by assumption) ?_
  rotate_left
  · (intro w hSw; (try dsimp only at hSw); go_simp; try with_reducible rfl)
  try simp only [put_pack]
  refine wpAnyH_take (i := 8) (v := ?_) rfl (by kernel_rfl) (by kernel_rfl) (by kernel_rfl) (fun _ _ _ h => h) (Or.inl ⟨by kernel_rfl, ?_⟩) (by assumption) ?_
  rotate_left
  · (intro w hSw; (try dsimp only at hSw); go_simp; try with_reducible rfl)
  try simp only [put_pack]
  refine wpAnyH_take (i := 9) (v := ?_) rfl (by kernel_rfl) (by kernel_rfl) (by kernel_rfl) (fun _ _ _ h => h) (Or.inl ⟨by kernel_rfl, ?_⟩) (by assumption) ?_
  rotate_left
  · (intro w hSw; (try dsimp only at hSw); go_simp; try with_reducible rfl)
  try simp only [put_pack]
  refine wpAnyH_take (i := 10) (v := ?_) rfl (by kernel_rfl) (by kernel_rfl) (by kernel_rfl) (fun _ _ _ h => h) (Or.inl ⟨by kernel_rfl, ?_⟩) (by assumption) ?_
  rotate_left
  · (intro w hSw; (try dsimp only at hSw); go_simp; try with_reducible rfl)
  try simp only [put_pack]
  refine wpAnyH_take (i := 11) (v := ?_) rfl (by kernel_rfl) (by kernel_rfl) (by kernel_rfl) (fun _ _ _ h => h) (Or.inl ⟨by kernel_rfl, ?_⟩) (by assumption) ?_
  rotate_left
  · (intro w hSw; (try dsimp only at hSw); go_simp; try with_reducible rfl)
  try simp only [put_pack]
  refine wpAnyH_take (i := 12) (v := ?_) rfl (by kernel_rfl) (by kernel_rfl) (by kernel_rfl) (fun _ _ _ h => h) (Or.inl ⟨by kernel_rfl, ?_⟩) (by assumption) ?_
  rotate_left
  · (intro w hSw; (try dsimp only at hSw); go_simp; try with_reducible rfl)
  try simp only [put_pack]
  refine wpAnyH_take (i := 13) (v := ?_) rfl (by kernel_rfl) (by kernel_rfl) (by kernel_rfl) (fun _ _ _ h => h) (Or.inl ⟨by kernel_rfl, ?_⟩) (by assumption) ?_
  rotate_left
  · (intro w hSw; (try dsimp only at hSw); go_simp; try with_reducible rfl)
  try simp only [put_pack]
  refine wpAnyH_take (i := 14) (v := ?_) rfl (by kernel_rfl) (by kernel_rfl) (by kernel_rfl) (fun _ _ _ h => h) (Or.inl ⟨by kernel_rfl, ?_⟩) (by assumption) ?_
  rotate_left
  · (intro w hSw; (try dsimp only at hSw); go_simp; try with_reducible rfl)
  try simp only [put_pack]
  refine wpAnyH_take (i := 15) (v := ?_) rfl (by kernel_rfl) (by kernel_rfl) (by kernel_rfl) (fun _ _ _ h => h) (Or.inl ⟨by kernel_rfl, ?_⟩) (by assumption) ?_
  rotate_left
  · (intro w hSw; (try dsimp only at hSw); go_simp; try with_reducible rfl)
  try simp only [put_pack]
  refine wpAnyH_take (i := 16) (v := ?_) rfl (by kernel_rfl) (by kernel_rfl) (by kernel_rfl) (fun _ _ _ h => h) (Or.inl ⟨by kernel_rfl, ?_⟩) (by assumption) ?_
  rotate_left
  · (intro w hSw; (try dsimp only at hSw); go_simp; try with_reducible rfl)
  try simp only [put_pack]
  refine wpAnyH_take (i := 17) (v := ?_) rfl (by kernel_rfl) (by kernel_rfl) (by kernel_rfl) (fun _ _ _ h => h) (Or.inl ⟨by kernel_rfl, ?_⟩) (by assumption) ?_
  rotate_left
  · (intro w hSw; (try dsimp only at hSw); go_simp; try with_reducible rfl)
  try simp only [put_pack]
  refine wpAnyH_take (i := 18) (v := ?_) rfl (by kernel_rfl) (by kernel_rfl) (by kernel_rfl) (fun _ _ _ h => h) (Or.inl ⟨by kernel_rfl, ?_⟩) (by assumption) ?_
  rotate_left
  · (intro w hSw; (try dsimp only at hSw); go_simp; try with_reducible rfl)
  try simp only [put_pack]
  refine wpAnyH_take (i := 20) (v := ?_) rfl (by kernel_rfl) (by kernel_rfl) (by kernel_rfl) (fun _ _ _ h => h) (Or.inl ⟨by kernel_rfl, ?_⟩) (by assumption) ?_
  rotate_left
  · (intro w hSw; (try dsimp only at hSw); go_simp; try with_reducible rfl)
  try simp only [put_pack]
  refine wpAnyH_take (i := 21) (v := ?_) rfl (by kernel_rfl) (by kernel_rfl) (by kernel_rfl) (fun _ _ _ h => h) (Or.inl ⟨by kernel_rfl, ?_⟩) (by assumption) ?_
  rotate_left
  · (intro w hSw; (try dsimp only at hSw); go_simp; try with_reducible rfl)
  try simp only [put_pack]
  refine wpAnyH_ready (rs := [19]) (by kernel_rfl) (by simp) ?_
  refine AllReadyH.cons rfl (fun K hKK => ?_) AllReadyH.nil
  go_simp
  refine (htu _).mono ?_
  rintro e wx ⟨rfl, rfl⟩
  refine hKK.out _ _ (hS _ hE) (fun hHeld => ?_)
  clear hKK K
  try dsimp only
  refine wpAnyH_ready (rs := [22]) (by kernel_rfl) (by simp) ?_
  refine AllReadyH.cons rfl (fun K hKK => ?_) AllReadyH.nil
  go_simp
  refine (htr _).mono ?_
  rintro e wx ⟨rfl, hx⟩
  replace hE := hE.trans hx
  clear hx
  refine hKK.out _ _ (hS _ hE) (fun hHeld => ?_)
  clear hKK K
  try dsimp only
  refine wpAnyH_ready (rs := [23]) (by kernel_rfl) (by simp) ?_
  refine AllReadyH.cons rfl (fun K hKK => ?_) AllReadyH.nil
  go_simp
  refine (is_l _ _ true htb.1 htb.2.1 htb.2.2.1 htb.2.2.2 _).mono ?_
  rintro e wx ⟨rfl, hx⟩
  replace hE := hE.trans hx
  clear hx
  refine hKK.out _ _ (hS _ hE) (fun hHeld => ?_)
  clear hKK K
  try dsimp only
  refine wpAnyH_take (i := 24) (v := ?_) rfl (by kernel_rfl) (by kernel_rfl) (by kernel_rfl) (fun _ _ _ h => h) (Or.inl ⟨by kernel_rfl, ?_⟩) (by assumption) ?_
  rotate_left
  · (intro w hSw; (try dsimp only at hSw); go_simp; try with_reducible rfl)
  try simp only [put_pack]
  refine wpAnyH_take (i := 25) (v := ?_) rfl (by kernel_rfl) (by kernel_rfl) (by kernel_rfl) (fun _ _ _ h => h) (Or.inl ⟨by kernel_rfl, ?_⟩) (by assumption) ?_
  rotate_left
  · (intro w hSw; (try dsimp only at hSw); go_simp; try with_reducible rfl)
  try simp only [put_pack]
  refine wpAnyH_take (i := 26) (v := ?_) rfl (by kernel_rfl) (by kernel_rfl) (by kernel_rfl) (fun _ _ _ h => h) (Or.inl ⟨by kernel_rfl, ?_⟩) (by assumption) ?_
  rotate_left
  · (intro w hSw; (try dsimp only at hSw); go_simp; try with_reducible rfl)
  try simp only [put_pack]
  refine wpAnyH_take (i := 27) (v := ?_) rfl (by kernel_rfl) (by kernel_rfl) (by kernel_rfl) (fun _ _ _ h => h) (Or.inl ⟨by kernel_rfl, ?_⟩) (by assumption) ?_
  rotate_left
  · (intro w hSw; (try dsimp only at hSw); go_simp; try with_reducible rfl)
  try simp only [put_pack]
  refine wpAnyH_take (i := 29) (v := ?_) rfl (by kernel_rfl) (by kernel_rfl) (by kernel_rfl) (fun _ _ _ h => h) (Or.inl ⟨by kernel_rfl, ?_⟩) (by assumption) ?_
  rotate_left
  · (intro w hSw; (try dsimp only at hSw); go_simp; try with_reducible rfl)
  try simp only [put_pack]
  refine wpAnyH_ready (rs := [28]) (by kernel_rfl) (by simp) ?_
  refine AllReadyH.cons rfl (fun K hKK => ?_) AllReadyH.nil
  go_simp
  refine (hno _).mono ?_
  rintro e wx ⟨rfl, rfl⟩
  refine hKK.out _ _ (hS _ hE) (fun hHeld => ?_)
  clear hKK K
  try dsimp only
  refine wpAnyH_ready (rs := [30]) (by kernel_rfl) (by simp) ?_
  refine AllReadyH.cons rfl (fun K hKK => ?_) AllReadyH.nil
  go_simp
  refine (hnr _).mono ?_
  rintro e wx ⟨rfl, hx⟩
  replace hE := hE.trans hx
  clear hx
  refine hKK.out _ _ (hS _ hE) (fun hHeld => ?_)
  clear hKK K
  try dsimp only
  refine wpAnyH_take (i := 31) (v := ?_) rfl (by kernel_rfl) (by kernel_rfl) (by kernel_rfl) (fun _ _ _ h => h) (Or.inl ⟨by kernel_rfl, ?_⟩) (by assumption) ?_
  rotate_left
  · (intro w hSw; (try dsimp only at hSw); go_simp; try with_reducible rfl)
  try simp only [put_pack]
  refine wpAnyH_take (i := 32) (v := ?_) rfl (by kernel_rfl) (by kernel_rfl) (by kernel_rfl) (fun _ _ _ h => h) (Or.inl ⟨by kernel_rfl, ?_⟩) (by assumption) ?_
  rotate_left
  · (intro w hSw; (try dsimp only at hSw); go_simp; try with_reducible rfl)
  try simp only [put_pack]
  refine wpAnyH_take (i := 33) (v := ?_) rfl (by kernel_rfl) (by kernel_rfl) (by kernel_rfl) (fun _ _ _ h => h) (Or.inl ⟨by kernel_rfl, ?_⟩) (by assumption) ?_
  rotate_left
  · (intro w hSw; (try dsimp only at hSw); go_simp; try with_reducible rfl)
  try simp only [put_pack]
  refine wpAnyH_take (i := 34) (v := ?_) rfl (by kernel_rfl) (by kernel_rfl) (by kernel_rfl) (fun _ _ _ h => h) (Or.inl ⟨by kernel_rfl, ?_⟩) (by assumption) ?_
  rotate_left
  · (intro w hSw; (try dsimp only at hSw); go_simp; try with_reducible rfl)
  try simp only [put_pack]
  refine wpAnyH_take (i := 36) (v := ?_) rfl (by kernel_rfl) (by kernel_rfl) (by kernel_rfl) (fun _ _ _ h => h) (Or.inl ⟨by kernel_rfl, ?_⟩) (by assumption) ?_
  rotate_left
  · (intro w hSw; (try dsimp only at hSw); go_simp; try with_reducible rfl)
  try simp only [put_pack]
  refine wpAnyH_ready (rs := [35]) (by kernel_rfl) (by simp) ?_
  refine AllReadyH.cons rfl (fun K hKK => ?_) AllReadyH.nil
  go_simp
  refine (hte _ (Th.out.ext hE)).mono ?_
  rintro e wx ⟨rfl, hx⟩
  replace hE := hE.trans hx
  clear hx
  refine hKK.out _ _ (hS _ hE) (fun hHeld => ?_)
  clear hKK K
  try dsimp only
  refine wpAnyH_ready (rs := [37]) (by kernel_rfl) (by simp) ?_
  refine AllReadyH.cons rfl (fun K hKK => ?_) AllReadyH.nil
  go_simp
  refine (hxr _).mono ?_
  rintro e wx ⟨rfl, hx⟩
  replace hE := hE.trans hx
  clear hx
  refine hKK.out _ _ (hS _ hE) (fun hHeld => ?_)
  clear hKK K
  try dsimp only
  refine wpAnyH_take (i := 38) (v := ?_) rfl (by kernel_rfl) (by kernel_rfl) (by kernel_rfl) (fun _ _ _ h => h) (Or.inl ⟨by kernel_rfl, ?_⟩) (by assumption) ?_
  rotate_left
  · (intro w hSw; (try dsimp only at hSw); go_simp; try with_reducible rfl)
  try simp only [put_pack]
  refine wpAnyH_take (i := 39) (v := ?_) rfl (by kernel_rfl) (by kernel_rfl) (by kernel_rfl) (fun _ _ _ h => h) (Or.inl ⟨by kernel_rfl, ?_⟩) (by assumption) ?_
  rotate_left
  · (intro w hSw; (try dsimp only at hSw); go_simp; try with_reducible rfl)
  try simp only [put_pack]
  refine wpAnyH_done (by kernel_rfl) ?_ _
  go_simp
  go_wp2_with fail
  replace hX := hX.trans hE
  have g6b := g6.ext hE
  have g7b := g7.ext hE
  clear hS c_g6 c_g7 hE g6 g7 htu htr hno hnr hte hxr hpa htb e1
  have c_g6 := g6b.cells
  have c_g7 := g7b.cells
  refine (htm _).mono ?_
  rintro e w' ⟨rfl, rfl⟩
  clear htm
  go_wp2_with fail
  refine (hmr _).mono ?_
  rintro e W6 ⟨rfl, hx6⟩
  clear hmr c_g6 c_g7 g6b g7b
  generalize timesM p q = m at *
  have g8 := Bk.new W6 (.cells #[.int .i64 (ptX m), .int .i64 (ptY m), .bool m.isSome] 56)
  have hX7 := (hX.trans hx6).alloc (.cells #[.int .i64 (ptX m), .int .i64 (ptY m), .bool m.isSome] 56)
  have c_g8 := g8.cells
  clear hX hx6
  have e1 : (m.isSome == m.isSome) = true := by simp
  go_wp2_with fail
  generalize World.alloc W6 _ = W7 at *
  refine (is_l _ _ m.isSome hms.1 hms.2.1 hms.2.2.1 hms.2.2.2 _).mono ?_
  rintro e W8 ⟨rfl, hx8⟩
  clear c_g8 g8 hms
  go_wp2_with fail
  refine (alive04 _ (T.ext (hX7.trans hx8))).mono ?_
  rintro e W9 ⟨rfl, hx9⟩
  have hf := Lib.hid ((hX7.trans hx8).trans hx9)
  clear hX7 hx8 hx9
  go_wp2_with fail
  go_ret
  exact ⟨rfl, hf.out⟩
end Go.Proofs.YtiahgcaenneonaaDoor
/-
  PlaneGoes, walked.
-/
namespace Go.Proofs.YtiahgcaenneonaaDoor
open Go.RowKit Kv
theorem goV_eq (r : Option (Int × Int) × Int) : goV r = .tuple #[.complex .f64 (floatOfInt .f64 (ptX r.1)) (floatOfInt .f64 (ptY r.1)), .int .i64 r.2] := by
  obtain ⟨p, e⟩ := r
  cases p with
  | none => simp only [goV, ptX, ptY, w0]
  | some p => rfl
theorem goL_bd : ∀ (l : List UInt8) (p : Int × Int), bdP p → -1048576 ≤ ptX (goL l p).1 ∧ ptX (goL l p).1 ≤ 1048576 ∧ -1048576 ≤ ptY (goL l p).1 ∧ ptY (goL l p).1 ≤ 1048576
  | [], p, h => h
  | c :: l, p, h => by
    rw [goL]
    cases stepM c.toNat with
    | none => simp [ptX, ptY]
    | some d =>
      simp only
      split
      · rename_i hin
        exact goL_bd l _ ((inR2_iff _ _).1 hin)
      · simp [ptX, ptY]
theorem pt_int {x y : Int} (h1 : -1048576 ≤ x) (h2 : x ≤ 1048576) (h3 : -1048576 ≤ y) (h4 : y ≤ 1048576) : ptOf (floatOfInt .f64 x) (floatOfInt .f64 y) = some (x, y) :=
  ptOf_of (p := (x, y)) (num_F x (by omega) (by omega)) (num_F y (by omega) (by omega)) ⟨h1, h2, h3, h4⟩
set_option maxRecDepth 100000 in
set_option maxHeartbeats 2000000 in
theorem goes_walk (x y v u : Int) (l : List UInt8) (hl : l.length ≤ 9223372036854775807) (w : World) (T : Tabs w) :
    Calls Tryd.prog 6 #[.agg #[.int .i64 x, .int .i64 y, .int .i64 v, .int .i64 u, .string ⟨l.toArray⟩]] w fun e w' => e = .returned (.bool true) ∧ Ext w w' := by
  have b1 := Bk.new w (.cells #[.int .i64 x, .int .i64 y, .int .i64 v, .int .i64 u, .string ⟨l.toArray⟩] 72)
  have hX := (Ext.refl w).alloc (.cells #[.int .i64 x, .int .i64 y, .int .i64 v, .int .i64 u, .string ⟨l.toArray⟩] 72)
  go_enter Tryd.func6, Tryd.ntmps6
  go_wp2_with fail
  generalize w.alloc _ = W at *
  have c_b1 := b1.cells
  go_quiet (fail)
  replace hX := hX.drewN nq
  clear c_b1 b1
  generalize W.drewN nq = W1 at *
  by_cases hlen : 300 < l.length
  · have d1 : decide ((300 : Int) < (l.length : Int)) = true := by rw [decide_eq_true_eq]; omega
    go_wp2_with fail
    refine (alive04 _ (T.ext hX)).mono ?_
    rintro e W9 ⟨rfl, hx9⟩
    have hf := Lib.hid (hX.trans hx9)
    go_wp2_with fail
    go_ret
    exact ⟨rfl, hf.out⟩
  have d1 : decide ((300 : Int) < (l.length : Int)) = false := by rw [decide_eq_false_iff_not]; omega
  have ha1 := fun w => at_p x y w
  have ha2 := fun w => at_p v u w
  have ha3 := fun w => at_r x y w
  have ha4 := fun w => at_r v u w
  obtain ⟨h1, h2⟩ := clampR_bd x
  obtain ⟨h3, h4⟩ := clampR_bd y
  obtain ⟨h5, h6⟩ := clampR_bd v
  obtain ⟨h7, h8⟩ := clampR_bd u
  generalize clampR x = x' at *
  generalize clampR y = y' at *
  generalize clampR v = v' at *
  generalize clampR u = u' at *
  have hb1 : bdP (x', y') := ⟨h1, h2, h3, h4⟩
  have hb2 : bdP (v', u') := ⟨h5, h6, h7, h8⟩
  have hgp := fun w => go_p (floatOfInt .f64 x') (floatOfInt .f64 y') l hl w
  have hwp := fun w => way_p (floatOfInt .f64 x') (floatOfInt .f64 y') (floatOfInt .f64 v') (floatOfInt .f64 u') w
  have hgr := fun w => go_r_some (x', y') hb1 l hl w
  have hwr := fun w => way_r (some (x', y')) (some (v', u')) (fun z hz => by injection hz with hz; subst hz; exact hb1) (fun z hz => by injection hz with hz; subst hz; exact hb2) w
  have hgb := goL_bd l (x', y') hb1
  rw [pt_int h1 h2 h3 h4] at hgp hwp
  rw [pt_int h5 h6 h7 h8] at hwp
  simp only [goV_eq] at hgp
  simp only [pV] at hgr
  simp only [ptX, ptY, Option.isSome_some] at hwr
  have hi1 := fun w => is_l x' y' true h1 h2 h3 h4 w
  have hi2 := fun w => is_l v' u' true h5 h6 h7 h8 w
  have hi3 := fun w => is_l _ _ (goL l (x', y')).1.isSome hgb.1 hgb.2.1 hgb.2.2.1 hgb.2.2.2 w
  generalize goL l (x', y') = g at *
  generalize wayM (some (x', y')) (some (v', u')) = m at *
  clear h1 h2 h3 h4 h5 h6 h7 h8 hb1 hb2 hgb hlen
  go_wp2_with fail
  refine (ha1 _).mono ?_
  rintro e w' ⟨rfl, rfl⟩
  go_wp2_with fail
  refine (ha2 _).mono ?_
  rintro e w' ⟨rfl, rfl⟩
  go_wp2_with fail
  refine (ha3 _).mono ?_
  rintro e W2 ⟨rfl, hx2⟩
  go_wp2_with fail
  refine (ha4 _).mono ?_
  rintro e W3 ⟨rfl, hx3⟩
  replace hX := (hX.trans hx2).trans hx3
  clear hx2 hx3 ha1 ha2 ha3 ha4
  have g6 := Bk.new W3 (.cells #[.int .i64 x', .int .i64 y', .bool true] 56)
  have g7 := Bk.new (W3.alloc (.cells #[.int .i64 x', .int .i64 y', .bool true] 56)) (.cells #[.int .i64 v', .int .i64 u', .bool true] 56)
  replace g6 := g6.alloc (.cells #[.int .i64 v', .int .i64 u', .bool true] 56)
  replace hX := (hX.alloc (.cells #[.int .i64 x', .int .i64 y', .bool true] 56)).alloc (.cells #[.int .i64 v', .int .i64 u', .bool true] 56)
  rw [World.size_alloc] at g7
  have c_g6 := g6.cells
  have c_g7 := g7.cells
  go_wp2_with fail
  generalize World.alloc (World.alloc W3 _) _ = W4 at *
  refine (hi1 _).mono ?_
  rintro e W5 ⟨rfl, hx5⟩
  replace g6 := g6.ext hx5
  replace g7 := g7.ext hx5
  replace hX := hX.trans hx5
  clear c_g6 c_g7 hx5
  have c_g6 := g6.cells
  have c_g7 := g7.cells
  go_wp2_with fail
  refine (hi2 _).mono ?_
  rintro e W6 ⟨rfl, hx5⟩
  replace g6 := g6.ext hx5
  replace g7 := g7.ext hx5
  replace hX := hX.trans hx5
  clear c_g6 c_g7 hx5
  have c_g6 := g6.cells
  have c_g7 := g7.cells
  go_wp2_with fail
  refine (hgp _).mono ?_
  rintro e w' ⟨rfl, rfl⟩
  go_wp2_with fail
  refine (hgr _).mono ?_
  rintro e W7 ⟨rfl, hx5⟩
  have n1 := Bk.new W7 (.cells #[.int .i64 (ptX g.1), .int .i64 (ptY g.1), .bool g.1.isSome] 56)
  have hx6 := hx5.alloc (.cells #[.int .i64 (ptX g.1), .int .i64 (ptY g.1), .bool g.1.isSome] 56)
  replace g6 := g6.ext hx6
  replace g7 := g7.ext hx6
  replace hX := hX.trans hx6
  clear c_g6 c_g7 hx5 hx6
  have c_g6 := g6.cells
  have c_g7 := g7.cells
  go_wp2_with fail
  generalize W7.alloc _ = W8 at *
  refine (hwp _).mono ?_
  rintro e W9 ⟨rfl, hx5⟩
  replace n1 := n1.ext hx5
  replace g6 := g6.ext hx5
  replace g7 := g7.ext hx5
  replace hX := hX.trans hx5
  clear c_g6 c_g7 hx5
  have c_g6 := g6.cells
  have c_g7 := g7.cells
  go_wp2_with fail
  refine (hwr _).mono ?_
  rintro e W10 ⟨rfl, hx5⟩
  replace n1 := n1.ext hx5
  replace hX := hX.trans hx5
  clear c_g6 c_g7 hx5 g6 g7
  have c_n1 := n1.cells
  have e1 : (g.2 == g.2) = true := by simp
  have e2 : (m.2 == m.2) = true := by simp
  go_wp2_with fail
  refine (hi3 _).mono ?_
  rintro e W11 ⟨rfl, hx5⟩
  replace hX := hX.trans hx5
  clear c_n1 hx5 n1
  go_wp2_with fail
  refine (alive04 _ (T.ext hX)).mono ?_
  rintro e W12 ⟨rfl, hx9⟩
  have hf := Lib.hid (hX.trans hx9)
  go_wp2_with fail
  go_ret
  exact ⟨rfl, hf.out⟩
end Go.Proofs.YtiahgcaenneonaaDoor
/-
  PlaneGoes: the input opened.
-/
namespace Go.Proofs.YtiahgcaenneonaaDoor.planeGoes
open Go.ChangeShapes Go.WideShapes Go.ChangeAt Go.RowKit Kv
set_option maxRecDepth 100000 in
theorem main (H : Type) (enc : TypeId × Value → H) (W : World) (base : Nat) (args : Array Value) (ds : List (DataW H)) (p : List MemPlace)
    (hval : ∀ (j : Nat) t v, Tryd.f6.params[j]? = some t → args[j]? = some v → Value.okWide Tryd.prog W .any base t v)
    (hA : DataW.TrodAll enc Tryd.prog W 0 (fun _ => true) true Tryd.f6.params.toList args.toList ds p) (hL : laidMetH Tryd.prog Rows.planeGoesRow.laid W) :
    Calls Tryd.prog 6 args W fun e w' => e = .returned (.bool true) ∧ Ext W w' := by
  rw [Tryd.params6] at hA hval
  obtain ⟨v0, vs0, d0, ds0, p0, q0, hargs, rfl, rfl, h0, r0⟩ := trodAll_cons hA
  obtain ⟨rfl, rfl, rfl⟩ := trodAll_nil r0
  obtain rfl : args = #[v0] := by cases args; simp_all
  obtain ⟨c0, c1, c2, c3, c4, y0, y1, y2, y3, y4, m, rfl, -, -, g0, g1, g2, g3, g4⟩ := open_agg5 Tryd.underlying72 (by kernel_rfl) (by kernel_rfl) (hval 0 72 v0 rfl rfl) h0
  obtain ⟨x0, e0, -, -⟩ := DataW.trod_int Tryd.underlying3 g0
  obtain ⟨x1, e1, -, -⟩ := DataW.trod_int Tryd.underlying3 g1
  obtain ⟨x2, e2, -, -⟩ := DataW.trod_int Tryd.underlying3 g2
  obtain ⟨x3, e3, -, -⟩ := DataW.trod_int Tryd.underlying3 g3
  obtain ⟨s, e4, -, hs⟩ := DataW.trod_string Tryd.underlying9 g4
  simp at e0 e1 e2 e3 e4
  subst e0 e1 e2 e3 e4
  obtain ⟨⟨l⟩⟩ := s
  exact goes_walk x0 x1 x2 x3 l (by unfold maxLen at hs; exact hs) W (tabs_of hL)
end Go.Proofs.YtiahgcaenneonaaDoor.planeGoes
/-
  PlaneGoes holds: which point any way leads to, and which way leads from any point to any other one.
-/
namespace Go.Proofs.YtiahgcaenneonaaDoor.planeGoes
open Go.ChangeShapes Go.WideShapes Go.ChangeAt Go.RowKit

theorem laidOut : laidOutB Tryd.prog = true := by kernel_rfl
set_option maxRecDepth 100000 in
theorem contract (H : Type) (enc : TypeId × Value → H) (W : World) (base : Nat) (args : Array Value) (ds gs : List (DataW H)) (before : List MemPlace)
    (hval : ∀ (j : Nat) t v, Tryd.f6.params[j]? = some t → args[j]? = some v → Value.okWide Tryd.prog W .any base t v)
    (hW : DataW.Whole enc Tryd.prog Tryd.f6.params.toList Rows.planeGoesSpec.vars false W args.toList ds gs before) (hL : laidMetH Tryd.prog Rows.planeGoesRow.laid W) :
    Calls Tryd.prog 6 args W fun e W' => ∃ v, e = .returned v ∧ Rows.planeGoesSpec.post enc Tryd.prog Tryd.f6 false true false false W args v W' := by
  refine (main H enc W base args ds before hval (by obtain ⟨p, q, hA, hV, hpq, _, _⟩ := hW; obtain ⟨_, rfl⟩ := trodVars_none hV; rw [List.append_nil] at hpq; subst hpq; exact hA) hL).mono fun e W' ⟨he, hg⟩ => ⟨_, he, ?_⟩
  refine law_post (tb := 4) laidOut ?_ (by kernel_rfl) Tryd.underlying4 rfl ?_ hW hg
  · rw [Tryd.params6]
    intro t ht
    simp only [List.mem_cons, List.not_mem_nil, or_false] at ht
    rcases ht with rfl <;> exact ⟨by kernel_rfl, of_decide_eq_true (by kernel_rfl)⟩
  · intro ds hl
    rw [Tryd.params6] at hl
    match ds, hl with
    | [d0], _ => rfl
set_option maxRecDepth 100000 in
theorem laid_met (os : Os) : laidMet Tryd.prog Rows.planeGoesRow.laid (((laidWorld os)).forCall (fun _ _ => 0) ⟨#[], #[.agg #[.int .i64 0, .int .i64 0, .int .i64 0, .int .i64 0, .string ⟨#[]⟩]], []⟩).memory :=
  laidMet_of_run' 8 (by kernel_rfl) (by kernel_rfl)
set_option maxRecDepth 100000 in
theorem reads (os : Os) {H : Type} (enc : TypeId × Value → H) : ∃ places, DataW.whole enc Tryd.prog (((laidWorld os)).forCall (fun _ _ => 0) ⟨#[], #[.agg #[.int .i64 0, .int .i64 0, .int .i64 0, .int .i64 0, .string ⟨#[]⟩]], []⟩).memory Tryd.f6.params.toList Rows.planeGoesSpec.vars false (#[.agg #[.int .i64 0, .int .i64 0, .int .i64 0, .int .i64 0, .string ⟨#[]⟩]] : Array Value).toList 8 = some ([.agg [.lit (.int .i64 0), .lit (.int .i64 0), .lit (.int .i64 0), .lit (.int .i64 0), .lit (.string [])]], [], places) :=
  ⟨[], by kernel_rfl⟩
set_option maxRecDepth 100000 in
theorem lifted (os : Os) (started : os.Started) (H : Type) (enc : TypeId × Value → H) (F : Stop.Interp) :
    ReturnsInHanded {} Tryd.checked os 6 .any ((OpenSpec.ofChange Rows.planeGoesSpec).preRow enc Tryd.prog Tryd.f6 Rows.planeGoesRow.domain false Rows.planeGoesRow.laid) (((OpenSpec.ofChange Rows.planeGoesSpec).at F).post enc Tryd.prog Tryd.f6 false true false false) := by
  obtain ⟨places, hx⟩ := reads os enc
  refine returnsInHanded_of_row (C := Tryd.checked) (s := (OpenSpec.ofChange Rows.planeGoesSpec)) own started (by kernel_rfl) Tryd.func6
    (witness_row_at (enc := enc) (C := Tryd.checked) false (laidWorld os) #[.agg #[.int .i64 0, .int .i64 0, .int .i64 0, .int .i64 0, .string ⟨#[]⟩]] rfl (by kernel_rfl) (by kernel_rfl) (by kernel_rfl)
      (OpenSpec.preRow_of_cond 8 hx (by kernel_rfl) (fun k hk => by cases hk) (by kernel_rfl) (laid_met os))) ?_
  intro W base args ds gs before hval hW _ _ _ hL _ _
  exact contract H enc W base args ds gs before hval hW hL
theorem said : Rows.PlaneGoesSaid :=
  OpenClaim.holds_of_cond 6 Tryd.f6 rfl rfl rfl rfl rfl rfl rfl ⟨rfl, rfl, rfl, rfl, rfl⟩ rfl rfl rfl rfl rfl (by kernel_rfl) Tryd.func6 (by kernel_rfl)
    (of_decide_eq_true (by kernel_rfl)) (by unfold Func.isWrapper; first | (rw [if_pos (by decide +kernel)]; kernel_rfl) | (rw [if_neg (by decide +kernel)]; exact ⟨rfl, rfl⟩))
    (fun os started H enc _ F => by rw [OpenClaim.pre_eq_preRow]; exact lifted os started H enc F)
theorem plain (f : FuncId) (fn : Func) (hf : Tryd.pinned.checked.prog.funcNamed "kevel/kevellaw04.PlaneGoes" = some f) (hfn : Tryd.pinned.checked.prog.funcs[f]? = some fn) :
    false = Tryd.pinned.checked.prog.looks [] ∧ ∀ (j : Nat) t, fn.params[j]? = some t → Tryd.pinned.checked.prog.wantsStandIn t = false := by
  obtain rfl : f = 6 := Option.some.inj ((show Tryd.prog.funcNamed "kevel/kevellaw04.PlaneGoes" = some 6 by kernel_rfl).symm.trans hf) |>.symm
  obtain rfl : fn = Tryd.f6 := (Option.some.inj (Tryd.func6.symm.trans hfn)).symm
  refine ⟨by kernel_rfl, fun j t ht => ?_⟩
  rw [Tryd.params6] at ht
  have hm := Array.mem_of_getElem? ht
  simp only [List.mem_toArray, List.mem_cons, List.not_mem_nil, or_false] at hm
  rcases hm with rfl <;> exact (show Tryd.prog.wantsStandIn _ = false by kernel_rfl)
theorem card : Rows.PlaneGoesCardSaid :=
  Claim7.holds_tied_plain_at .later [] _ _ _ _ said (fun _ h => by cases h) (by kernel_rfl) (fun _ h => by cases h) planeGoes_row_tie rfl ⟨rfl, rfl⟩ (by kernel_rfl) rfl plain (by kernel_rfl)

end Go.Proofs.YtiahgcaenneonaaDoor.planeGoes
