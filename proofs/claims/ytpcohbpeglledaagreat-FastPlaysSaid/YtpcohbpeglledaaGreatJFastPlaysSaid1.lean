/-
  Locks' registers, laid by the program and by the document.
-/
import Derived.Test.YtpcohbpeglledaaGreatJFastPlaysSaid0
import Derived.ScopeJumps
import Derived.WalkMore
import Derived.Deep.DeepCutAuto
/-
  Locks' registers, laid by the program and by the document.
-/
namespace Kv
theorem filWants_len (N : Nat) : (filWants N).length = 2 * N - 1 := by simp [filWants]
theorem fastWants_len (N : Nat) : (fastWants N).length = N + 2 := by simp [fastWants]
theorem bwWants_len (N : Nat) : (bwWants N).length = 2 * N + 1 := by simp [bwWants]
end Kv
namespace Go.Proofs.YtpcohbpeglledaaGreat
open Go.RowKit Kv
theorem layr_some {va : Value} {l : List Want} {n mode base loc : Int} {rs : List Reg} (hl : layM l n mode base loc = some rs) (w : World) (h : WantsAt w va l) (hlen : l.length ≤ 1000) :
    Calls Tryz.prog 82 #[va, .int .i64 n, .int .i64 mode, .int .i64 base, .int .i64 loc] w fun e w' => ∃ v, e = .returned (.tuple #[v, .int .i64 0]) ∧ (RegsV w' v rs ∧ ∀ k, v.ownBlock = some k → w.heap.size ≤ k) ∧ Ext w w' := by
  have := lay_r va l n mode base loc w h hlen
  rw [hl] at this
  exact this.mono fun e w' ⟨hx, v, he, hr⟩ => ⟨v, he, ⟨Recs.of_row hr, fun k hk => (hr.lt k hk).1⟩, hx⟩
theorem layp_some {va : Value} {l : List Want} {n mode base loc : Int} {rs : List Reg} (hl : layM l n mode base loc = some rs) (w : World) (h : WantsAt w va l) (hlen : l.length ≤ 1000) :
    Calls Tryz.prog 174 #[va, .int .i64 n, .int .i64 mode, .int .i64 base, .int .i64 loc] w fun e w' => ∃ v, e = .returned (.tuple #[v, .int .i64 0]) ∧ (RegsV w' v rs ∧ ∀ k, v.ownBlock = some k → w.heap.size ≤ k) ∧ Ext w w' := by
  have := plan_p va l n mode base loc w h hlen
  rw [hl] at this
  exact this.mono fun e w' ⟨hx, v, he, hr⟩ => ⟨v, he, ⟨Recs.of_row hr, fun k hk => (hr.lt k hk).1⟩, hx⟩
set_option maxRecDepth 100000 in
theorem filregs_r (alg mode base loc room : Int) (N : Nat) (rs : List Reg) (w : World) (h1 : 1 ≤ N) (h2 : N ≤ 8) (hl : layM (filWants N) N mode base loc = some rs) :
    Calls Tryz.prog 110 #[.agg #[.int .i64 alg, .int .i64 N, .int .i64 mode, .int .i64 base, .int .i64 loc, .int .i64 room]] w fun e w' => ∃ b c, e = .returned (.slice (some ⟨b, 0, none⟩) rs.length c) ∧ w.heap.size ≤ b ∧ b < w'.heap.size ∧ (∀ (i : Nat) u, (rs.flatMap regVals)[i]? = some u → w'.cell? ⟨b, i, none⟩ = some u) ∧ rs.length ≤ c ∧ c ≤ 9223372036854775807 ∧ Ext w w' := by
  have hlen := layM_len hl
  rw [filWants_len] at hlen
  replace hl := Lib.hid hl
  have hlenh := Lib.hid hlen
  clear hlen
  have hX := Ext.refl w
  have b1 := Blk.new w (.cells #[.int .i64 alg, .int .i64 N, .int .i64 mode, .int .i64 base, .int .i64 loc, .int .i64 room] 52)
  replace hX := hX.alloc (.cells #[.int .i64 alg, .int .i64 N, .int .i64 mode, .int .i64 base, .int .i64 loc, .int .i64 room] 52)
  have c_b1 := b1.cells
  go_enter Tryz.func110, Tryz.ntmps110
  go_wp2_with fail
  generalize w.alloc _ = W at *
  have hXW := hX
  clear hX c_b1
  have hX := (Ext.refl W).drew
  have hS : ∀ w', Ext W w' → (∀ i, w'.cell? ⟨w.heap.size, i, none⟩ = (#[.int .i64 alg, .int .i64 N, .int .i64 mode, .int .i64 base, .int .i64 loc, .int .i64 room] : Array Value)[i]?) := fun w' hx => (b1.ext hx).cells
  go_region_held2 (fun w' => ∀ i, w'.cell? ⟨w.heap.size, i, none⟩ = (#[.int .i64 alg, .int .i64 N, .int .i64 mode, .int .i64 base, .int .i64 loc, .int .i64 room] : Array Value)[i]?) (exact hS _ hX)
    (first
      | (go_at_call 34
         refine (filwants_r N _ h1 h2).mono ?_
         rintro e w2 ⟨v2, rfl, hw2, hx⟩
         replace hX := hX.trans hx
         have hz2 := hX.size
         clear hx)
      | (go_at_call 82
         refine (layr_some hl.out _ (hw2.ext (Ext.refl _)) (by simp [filWants_len]; omega)).mono ?_
         rintro e w3 ⟨v3, rfl, hr3, hx⟩
         replace hX := hX.trans hx
         clear hx))
  rename_i hh
  clear hh
  obtain ⟨⟨A, c, rfl, q1, q2, hV⟩, hown⟩ := hr3
  obtain ⟨b, rfl, hb, hcells⟩ := hV (by cases rs with | nil => have := hlenh.out; simp only [List.length_nil] at this; omega | cons r l => simp [regVals])
  have hge : w.heap.size ≤ b := Nat.le_trans (Nat.le_trans hXW.size hz2) (hown b rfl)
  have hfh := Lib.hid (And.intro hge (And.intro hb (And.intro hcells (hXW.trans hX))))
  clear hcells hV hb hown hge hz2
  go_wp2_with fail
  go_ret
  exact ⟨_, _, rfl, hfh.out.1, hfh.out.2.1, hfh.out.2.2.1, q1, q2, hfh.out.2.2.2⟩
set_option maxRecDepth 100000 in
theorem fastregs_r (alg mode base loc room : Int) (N : Nat) (rs : List Reg) (w : World) (h1 : 1 ≤ N) (h2 : N ≤ 8) (hl : layM (fastWants N) N mode base loc = some rs) :
    Calls Tryz.prog 117 #[.agg #[.int .i64 alg, .int .i64 N, .int .i64 mode, .int .i64 base, .int .i64 loc, .int .i64 room]] w fun e w' => ∃ b c, e = .returned (.slice (some ⟨b, 0, none⟩) rs.length c) ∧ w.heap.size ≤ b ∧ b < w'.heap.size ∧ (∀ (i : Nat) u, (rs.flatMap regVals)[i]? = some u → w'.cell? ⟨b, i, none⟩ = some u) ∧ rs.length ≤ c ∧ c ≤ 9223372036854775807 ∧ Ext w w' := by
  have hlen := layM_len hl
  rw [fastWants_len] at hlen
  replace hl := Lib.hid hl
  have hlenh := Lib.hid hlen
  clear hlen
  have hX := Ext.refl w
  have b1 := Blk.new w (.cells #[.int .i64 alg, .int .i64 N, .int .i64 mode, .int .i64 base, .int .i64 loc, .int .i64 room] 52)
  replace hX := hX.alloc (.cells #[.int .i64 alg, .int .i64 N, .int .i64 mode, .int .i64 base, .int .i64 loc, .int .i64 room] 52)
  have c_b1 := b1.cells
  go_enter Tryz.func117, Tryz.ntmps117
  go_wp2_with fail
  generalize w.alloc _ = W at *
  have hXW := hX
  clear hX c_b1
  have hX := (Ext.refl W).drew
  have hS : ∀ w', Ext W w' → (∀ i, w'.cell? ⟨w.heap.size, i, none⟩ = (#[.int .i64 alg, .int .i64 N, .int .i64 mode, .int .i64 base, .int .i64 loc, .int .i64 room] : Array Value)[i]?) := fun w' hx => (b1.ext hx).cells
  go_region_held2 (fun w' => ∀ i, w'.cell? ⟨w.heap.size, i, none⟩ = (#[.int .i64 alg, .int .i64 N, .int .i64 mode, .int .i64 base, .int .i64 loc, .int .i64 room] : Array Value)[i]?) (exact hS _ hX)
    (first
      | (go_at_call 45
         refine (fastwants_r N _ h1 h2).mono ?_
         rintro e w2 ⟨v2, rfl, hw2, hx⟩
         replace hX := hX.trans hx
         have hz2 := hX.size
         clear hx)
      | (go_at_call 82
         refine (layr_some hl.out _ (hw2.ext (Ext.refl _)) (by simp [fastWants_len]; omega)).mono ?_
         rintro e w3 ⟨v3, rfl, hr3, hx⟩
         replace hX := hX.trans hx
         clear hx))
  rename_i hh
  clear hh
  obtain ⟨⟨A, c, rfl, q1, q2, hV⟩, hown⟩ := hr3
  obtain ⟨b, rfl, hb, hcells⟩ := hV (by cases rs with | nil => have := hlenh.out; simp only [List.length_nil] at this; omega | cons r l => simp [regVals])
  have hge : w.heap.size ≤ b := Nat.le_trans (Nat.le_trans hXW.size hz2) (hown b rfl)
  have hfh := Lib.hid (And.intro hge (And.intro hb (And.intro hcells (hXW.trans hX))))
  clear hcells hV hb hown hge hz2
  go_wp2_with fail
  go_ret
  exact ⟨_, _, rfl, hfh.out.1, hfh.out.2.1, hfh.out.2.2.1, q1, q2, hfh.out.2.2.2⟩
set_option maxRecDepth 100000 in
theorem fillay_p (alg mode base loc room me : Int) (N : Nat) (rs : List Reg) (w : World) (h1 : 1 ≤ N) (h2 : N ≤ 8) (hl : layM (filWants N) N mode base loc = some rs) (hm0 : 0 ≤ me) (hm1 : me < N) :
    Calls Tryz.prog 108 #[.agg #[.int .i64 alg, .int .i64 N, .int .i64 mode, .int .i64 base, .int .i64 loc, .int .i64 room], .int .i64 me] w fun e w' => ∃ b c A2 c2, e = .returned (.tuple #[.slice (some ⟨b, 0, none⟩) N c, .slice A2 (N - 1) c2, .int .i64 0]) ∧ (2 ≤ N → A2 = some ⟨b, N * 7, none⟩) ∧ w.heap.size ≤ b ∧ b < w'.heap.size ∧ (∀ (i : Nat) u, (rs.flatMap regVals)[i]? = some u → w'.cell? ⟨b, i, none⟩ = some u) ∧ N ≤ c ∧ c ≤ 9223372036854775807 ∧ Ext w w' := by
  have hlen := layM_len hl
  rw [filWants_len] at hlen
  replace hl := Lib.hid hl
  have hlenh := Lib.hid hlen
  clear hlen
  have d1 : decide (me < 0) = false := by rw [decide_eq_false_iff_not]; omega
  have d2 : decide ((N : Int) ≤ me) = false := by rw [decide_eq_false_iff_not]; omega
  have hX := Ext.refl w
  have b1 := Blk.new w (.cells #[.int .i64 alg, .int .i64 N, .int .i64 mode, .int .i64 base, .int .i64 loc, .int .i64 room] 52)
  replace hX := hX.alloc (.cells #[.int .i64 alg, .int .i64 N, .int .i64 mode, .int .i64 base, .int .i64 loc, .int .i64 room] 52)
  have c_b1 := b1.cells
  go_enter Tryz.func108, Tryz.ntmps108
  go_wp2_with fail
  generalize w.alloc _ = W at *
  have hXW := hX
  clear hX c_b1
  have hX := (Ext.refl W).drew
  have hS : ∀ w', Ext W w' → (∀ i, w'.cell? ⟨w.heap.size, i, none⟩ = (#[.int .i64 alg, .int .i64 N, .int .i64 mode, .int .i64 base, .int .i64 loc, .int .i64 room] : Array Value)[i]?) := fun w' hx => (b1.ext hx).cells
  go_region_held2 (fun w' => ∀ i, w'.cell? ⟨w.heap.size, i, none⟩ = (#[.int .i64 alg, .int .i64 N, .int .i64 mode, .int .i64 base, .int .i64 loc, .int .i64 room] : Array Value)[i]?) (exact hS _ hX)
    (first
      | (go_at_call 44
         refine (filwants_p N _ h1 h2).mono ?_
         rintro e w2 ⟨v2, rfl, hw2, hx⟩
         replace hX := hX.trans hx
         have hz2 := hX.size
         clear hx)
      | (go_at_call 174
         refine (layp_some hl.out _ (hw2.ext (Ext.refl _)) (by simp [filWants_len]; omega)).mono ?_
         rintro e w3 ⟨v3, rfl, hr3, hx⟩
         replace hX := hX.trans hx
         clear hx))
  rename_i hh
  clear hh
  obtain ⟨⟨A, c, rfl, q1, q2, hV⟩, hown⟩ := hr3
  obtain ⟨b, rfl, hb, hcells⟩ := hV (by cases rs with | nil => have := hlenh.out; simp only [List.length_nil] at this; omega | cons r l => simp [regVals])
  have hge : w.heap.size ≤ b := Nat.le_trans (Nat.le_trans hXW.size hz2) (hown b rfl)
  have hfh := Lib.hid (And.intro hge (And.intro hb (And.intro hcells (hXW.trans hX))))
  clear hcells hV hb hown hge hz2
  have c_b1 := hS _ hX
  clear hS
  have hz3 := hlenh.out
  go_wp2_with fail
  go_quiet (fail)
  have hx9 := (Ext.refl w3).drewN nq
  have hg9 := hfh.out.1
  have hb9 := Nat.lt_of_lt_of_le hfh.out.2.1 hx9.size
  have hc9 : Hid (∀ (i : Nat) u, (rs.flatMap regVals)[i]? = some u → (w3.drewN nq).cell? ⟨b, i, none⟩ = some u) := Lib.hid fun i u hu => (hx9.cell (p := ⟨b, i, none⟩) hfh.out.2.1).trans (hfh.out.2.2.1 i u hu)
  have hX9 := Lib.hid (hfh.out.2.2.2.trans hx9)
  clear hx9 c_b1 hfh
  generalize w3.drewN nq = W9 at *
  generalize hA2 : (if c = N then some (⟨b, 0, none⟩ : Addr) else some ⟨b, N * 7, none⟩) = A2
  have hA3 : Hid (2 ≤ N → A2 = some ⟨b, N * 7, none⟩) := Lib.hid fun h => by rw [← hA2]; exact if_neg (by omega)
  clear hA2
  rw [show 2 * N - 1 - N = N - 1 from by omega]
  go_wp2_with fail
  refine bodyPost_ret (v := .tuple #[.slice (some ⟨b, 0, none⟩) N c, .slice A2 (N - 1) (c - N), .int .i64 0]) (by simp [results, Tryz.results108, go_sem]) rfl ?_
  exact ⟨b, c, _, c - N, rfl, hA3.out, hg9, hb9, hc9.out, by omega, q2, hX9.out⟩
set_option maxRecDepth 100000 in
theorem fastlay_p (alg mode base loc room me : Int) (N : Nat) (rs : List Reg) (w : World) (h1 : 1 ≤ N) (h2 : N ≤ 8) (hl : layM (fastWants N) N mode base loc = some rs) (hm0 : 0 ≤ me) (hm1 : me < N) :
    Calls Tryz.prog 115 #[.agg #[.int .i64 alg, .int .i64 N, .int .i64 mode, .int .i64 base, .int .i64 loc, .int .i64 room], .int .i64 me] w fun e w' => ∃ b c, e = .returned (.tuple #[.slice (some ⟨b, 0, none⟩) rs.length c, .int .i64 0]) ∧ w.heap.size ≤ b ∧ b < w'.heap.size ∧ (∀ (i : Nat) u, (rs.flatMap regVals)[i]? = some u → w'.cell? ⟨b, i, none⟩ = some u) ∧ rs.length ≤ c ∧ c ≤ 9223372036854775807 ∧ Ext w w' := by
  have hlen := layM_len hl
  rw [fastWants_len] at hlen
  replace hl := Lib.hid hl
  have hlenh := Lib.hid hlen
  clear hlen
  have d1 : decide (me < 0) = false := by rw [decide_eq_false_iff_not]; omega
  have d2 : decide ((N : Int) ≤ me) = false := by rw [decide_eq_false_iff_not]; omega
  have hX := Ext.refl w
  have b1 := Blk.new w (.cells #[.int .i64 alg, .int .i64 N, .int .i64 mode, .int .i64 base, .int .i64 loc, .int .i64 room] 52)
  replace hX := hX.alloc (.cells #[.int .i64 alg, .int .i64 N, .int .i64 mode, .int .i64 base, .int .i64 loc, .int .i64 room] 52)
  have c_b1 := b1.cells
  go_enter Tryz.func115, Tryz.ntmps115
  go_wp2_with fail
  generalize w.alloc _ = W at *
  have hXW := hX
  clear hX c_b1
  have hX := (Ext.refl W).drew
  have hS : ∀ w', Ext W w' → (∀ i, w'.cell? ⟨w.heap.size, i, none⟩ = (#[.int .i64 alg, .int .i64 N, .int .i64 mode, .int .i64 base, .int .i64 loc, .int .i64 room] : Array Value)[i]?) := fun w' hx => (b1.ext hx).cells
  go_region_held2 (fun w' => ∀ i, w'.cell? ⟨w.heap.size, i, none⟩ = (#[.int .i64 alg, .int .i64 N, .int .i64 mode, .int .i64 base, .int .i64 loc, .int .i64 room] : Array Value)[i]?) (exact hS _ hX)
    (first
      | (go_at_call 53
         refine (fastwants_p N _ h1 h2).mono ?_
         rintro e w2 ⟨v2, rfl, hw2, hx⟩
         replace hX := hX.trans hx
         have hz2 := hX.size
         clear hx)
      | (go_at_call 174
         refine (layp_some hl.out _ (hw2.ext (Ext.refl _)) (by simp [fastWants_len]; omega)).mono ?_
         rintro e w3 ⟨v3, rfl, hr3, hx⟩
         replace hX := hX.trans hx
         clear hx))
  rename_i hh
  clear hh
  obtain ⟨⟨A, c, rfl, q1, q2, hV⟩, hown⟩ := hr3
  obtain ⟨b, rfl, hb, hcells⟩ := hV (by cases rs with | nil => have := hlenh.out; simp only [List.length_nil] at this; omega | cons r l => simp [regVals])
  have hge : w.heap.size ≤ b := Nat.le_trans (Nat.le_trans hXW.size hz2) (hown b rfl)
  have hfh := Lib.hid (And.intro hge (And.intro hb (And.intro hcells (hXW.trans hX))))
  clear hcells hV hb hown hge hz2
  go_wp2_with fail
  first | go_ret2 | go_ret
  exact ⟨_, _, rfl, hfh.out.1, hfh.out.2.1, hfh.out.2.2.1, q1, q2, hfh.out.2.2.2⟩
end Go.Proofs.YtpcohbpeglledaaGreat
/-
  Plain mathematics: registers leave no notes.
-/
namespace Kv
theorem notes_ret {α : Type} (a : α) (n : Nat) : (Prog.ret a).Notes n := .ret a n
theorem notes_forP {σ : Type} {T : Int → σ → Prog σ} (h : ∀ a x, (T a x).Notes 0) : ∀ (l : List Int) (x : σ), (forP T l x).Notes 0
  | [], x => .ret x 0
  | a :: l, x => (h a x).bind0 fun y => notes_forP h l y
theorem notes_trompW (b l v : Int) : (trompW b l v).Notes 0 := by
  refine (notes_gt _).bind0 fun x => ?_
  split
  · exact .ret _ _
  · refine (notes_wr _ _).bind0 fun _ => (notes_st _ _).bind0 fun _ => (notes_gt _).bind0 fun _ => (notes_rd _).bind0 fun _ => ?_
    split
    · exact (notes_wr _ _).bind0 fun _ => notes_st _ _
    · exact .ret _ _
theorem notes_trompR3 (b l x : Int) : (trompR3 b l x).Notes 0 := by
  refine (notes_rd _).bind0 fun _ => (notes_st _ _).bind0 fun _ => (notes_rd _).bind0 fun _ => (notes_gt _).bind0 fun _ => ?_
  split
  · exact notes_gt _
  · exact (notes_rd _).bind0 fun _ => (notes_st _ _).bind0 fun _ => .ret _ _
theorem notes_trompR2 (b l x : Int) : (trompR2 b l x).Notes 0 := by
  refine (notes_rd _).bind0 fun _ => (notes_gt _).bind0 fun _ => ?_
  split
  · exact notes_trompR3 _ _ _
  · exact (notes_gt _).bind0 fun _ => (notes_wr _ _).bind0 fun _ => (notes_st _ _).bind0 fun _ => notes_trompR3 _ _ _
theorem notes_trompR (b l : Int) : (trompR b l).Notes 0 := by
  refine (notes_rd _).bind0 fun _ => (notes_gt _).bind0 fun _ => ?_
  split
  · exact notes_gt _
  · exact (notes_rd _).bind0 fun _ => notes_trompR2 _ _ _
theorem notes_slotsW (b l v : Int) : (slotsW b l v).Notes 0 :=
  (notes_trompR _ _).bind0 fun _ => (notes_gt _).bind0 fun _ => (notes_wr _ _).bind0 fun _ => (notes_st _ _).bind0 fun _ => (notes_trompW _ _ _).bind0 fun _ => notes_trompW _ _ _
theorem notes_slotsR (b l : Int) : (slotsR b l).Notes 0 :=
  (notes_trompR _ _).bind0 fun _ => (notes_trompW _ _ _).bind0 fun _ => (notes_trompR _ _).bind0 fun _ => notes_rd _
theorem notes_tableW (b l n w top me v : Int) : (tableW b l n w top me v).Notes 0 := by
  unfold tableW
  split
  · exact .ret _ _
  · exact (notes_gt _).bind0 fun _ => (notes_st _ _).bind0 fun _ => (notes_forP (fun _ _ => notes_slotsW _ _ _) _ _).bind0 fun _ => notes_st _ _
theorem notes_tableR (b l n w top me : Int) : (tableR b l n w top me).Notes 0 := by
  unfold tableR
  split
  · exact notes_gt _
  · exact (notes_slotsR _ _).bind0 fun _ => (notes_forP (fun _ _ => (notes_slotsR _ _).bind0 fun _ => .ret _ _) _ _).bind0 fun _ => (notes_forP (fun _ _ => notes_slotsW _ _ _) _ _).bind0 fun _ => .ret _ _
theorem notes_manyRs (b l n top me : Int) : ∀ (k : Nat) (j s v : Int), (manyRs b l n top me k j s v).Notes 0
  | 0, _, _, _ => .ret _ _
  | k + 1, j, s, v => by
    unfold manyRs
    refine (notes_tableR _ _ _ _ _ _).bind0 fun y => ?_
    split
    · exact notes_manyRs b l n top me k _ _ _
    · exact notes_manyRs b l n top me k _ _ _
theorem notes_regR (r : Reg) (me : Int) : (regR r me).Notes 0 := by
  unfold regR
  split
  · exact notes_rd _
  · split
    · exact notes_tableR _ _ _ _ _ _
    · exact (notes_manyRs _ _ _ _ _ _ _ _ _).bind0 fun _ => .ret _ _
theorem notes_regW (r : Reg) (me v : Int) : (regW r me v).Notes 0 := by
  unfold regW
  split
  · exact notes_wr _ _
  · split
    · exact notes_tableW _ _ _ _ _ _ _
    · exact (notes_manyRs _ _ _ _ _ _ _ _ _).bind0 fun _ => notes_tableW _ _ _ _ _ _ _
/-- What leaves no notes keeps their number. -/
theorem Prog.Notes.keep {α : Type} {p : Prog α} {n : Nat} (h : p.Notes 0) {S S1 : TS} {a : Option α} (hr : p.run S = (a, S1)) (hn : S.nts.length ≤ n) : S1.nts.length ≤ n := by
  have := h.run S
  rw [hr] at this
  simp only at this
  omega
end Kv
/-
  The program's Mem: a note left.
-/
namespace Go.Proofs.YtpcohbpeglledaaGreat
open Go.RowKit Kv
set_option maxRecDepth 100000 in
theorem note_p (B p : Nat) (S : TS) (n : Int) (w : World) (h : Plays B w p S) (hl : S.nts.length < maxAns) :
    Calls Tryz.prog 109 #[.pointer (some ⟨p, 0, none⟩), .int .i64 n] w fun e w' => e = .returned (.tuple #[]) ∧ Plays B w' p (S.noted n) ∧ KeepP B p w w' := by
  obtain ⟨h1, vA, vL, vC, vN, L, h⟩ := h
  have hc := cell_of_heap h.heap
  have hbo := h.ansN
  have hbn := h.ntsN
  unfold maxAns at hbo hbn hl
  have hle := h.lt
  have hge := h.ge
  obtain ⟨An, cn, hvN⟩ : ∃ A c, vN = .slice A S.nts.length c := by
    rcases h.rowN.2 with ⟨rfl, h0⟩ | ⟨g, cap, cur, rfl, _⟩
    · exact ⟨none, 0, by rw [h0]⟩
    · exact ⟨_, _, rfl⟩
  subst hvN
  obtain ⟨Ac, cc, hvC⟩ : ∃ A c, vC = .slice A S.acc.length c := by
    rcases h.rowC.2 with ⟨rfl, h0⟩ | ⟨g, cap, cur, rfl, _⟩
    · exact ⟨none, 0, by rw [h0]⟩
    · exact ⟨_, _, rfl⟩
  subst hvC
  have hL := Lib.hid h
  clear h
  obtain ⟨i0, hi, hz0, hz1, hz2⟩ := info_parts info_note
  go_enter Tryz.func109, Tryz.ntmps109
  go_wp2_with fail
  go_region_law ((refine step_append_lies _ (by rfl) _ _ _ (by rfl) B 94 i0 _ 2 16 Tryz.underlying34 hi hz0 hz1 hz2 rfl (by omega) (Value.slice An S.nts.length cn) S.nts.length (ntVals S.nts) (by rfl) ((World.ownsRow.drew hL.out.rowN).alloc _) ⟨w.heap.size, 0, none⟩ 1 1 [.int .i64 n, .int .i64 S.acc.length] (by rfl) (by rfl) (cells_new1 w _ _) (by simp [Value.oneCell']) (by omega) (by unfold maxLen; omega) (by omega) (by simp; omega) (w.heap.size + 1) (by simp) ?_; intro gg cap w1 hown1 hgrow hat hlt; have hp1 := grown_heap hL.out.heap hL.out.cNe.2.2 (grown1 hgrow); have hq1 := cell_of_heap hp1; have hf1 := frozen_of_heap hp1))
  all_goals
    obtain ⟨HM, HK⟩ := hL.out.grewN n (grown1 hgrow) (hat.imp id (by omega)) hown1 hl
    clear hown1 hgrow hat hlt hp1 hq1 hf1 hc
    generalize hv' : (Value.slice (some ⟨gg, 0, none⟩) (S.nts.length + 1) cap) = v' at *
    generalize w1.setCell ⟨p, 4, none⟩ v' = W at *
    clear hv' w1
    have HMh : Plays B W p (S.noted n) := ⟨h1, _, _, _, _, _, HM⟩
    have HKh := Lib.hid HK
    clear HM HK
    go_wp2_with fail
    first | go_end0 | refine bodyPost_ret (results_none rfl _ _ _) rfl ?_
    exact ⟨rfl, HMh, HKh.out⟩
end Go.Proofs.YtpcohbpeglledaaGreat
/-
  The document's Mem: a note left.
-/
namespace Go.Proofs.YtpcohbpeglledaaGreat
open Go.RowKit Kv
set_option maxRecDepth 100000 in
theorem note_rf (B p : Nat) (S : TS) (n : Int) (w : World) (h : RAt B w p false S) (hl : S.nts.length < maxAns) :
    Calls Tryz.prog 111 #[.pointer (some ⟨p, 0, none⟩), .int .i64 n] w fun e w' => e = .returned (.tuple #[]) ∧ RAt B w' p false (S.noted n) ∧ KeepR B p w w' := by
  obtain ⟨m, vA, vC, vN, vL, L, h, hn1, hn2⟩ := h
  have hnh := Lib.hid (And.intro hn1 hn2)
  clear hn1 hn2
  have hc := cell_of_heap h.heap
  have hbo := h.ansN
  have hbn := h.ntsN
  unfold maxAns at hbo hbn hl
  have hle := h.lt
  have hge := h.ge
  obtain ⟨An, cn, hvN⟩ : ∃ A c, vN = .slice A S.nts.length c := by
    rcases h.rowN.2 with ⟨rfl, h0⟩ | ⟨g, cap, cur, rfl, _⟩
    · exact ⟨none, 0, by rw [h0]⟩
    · exact ⟨_, _, rfl⟩
  subst hvN
  obtain ⟨Ac, cc, hvC⟩ : ∃ A c, vC = .slice A S.acc.length c := by
    rcases h.rowC.2 with ⟨rfl, h0⟩ | ⟨g, cap, cur, rfl, _⟩
    · exact ⟨none, 0, by rw [h0]⟩
    · exact ⟨_, _, rfl⟩
  subst hvC
  have hL := Lib.hid h
  clear h
  obtain ⟨i0, hi, hz0, hz1, hz2⟩ := info_parts info_note
  go_enter Tryz.func111, Tryz.ntmps111
  go_wp2_with fail
  go_region_law ((refine step_append_lies _ (by rfl) _ _ _ (by rfl) B 94 i0 _ 2 16 Tryz.underlying34 hi hz0 hz1 hz2 rfl (by omega) (Value.slice An S.nts.length cn) S.nts.length (ntVals S.nts) (by rfl) ((World.ownsRow.drew hL.out.rowN).alloc _) ⟨w.heap.size, 0, none⟩ 1 1 [.int .i64 n, .int .i64 S.acc.length] (by rfl) (by rfl) (cells_new1 w _ _) (by simp [Value.oneCell']) (by omega) (by unfold maxLen; omega) (by omega) (by simp; omega) (w.heap.size + 1) (by simp) ?_; intro gg cap w1 hown1 hgrow hat hlt; have hp1 := grown_heap hL.out.heap hL.out.cNe.2.2 (grown1 hgrow); have hq1 := cell_of_heap hp1; have hf1 := frozen_of_heap hp1))
  all_goals
    obtain ⟨HM, HK⟩ := hL.out.grewN n (grown1 hgrow) (hat.imp id (by omega)) hown1 hl
    clear hown1 hgrow hat hlt hp1 hq1 hf1 hc
    generalize hv' : (Value.slice (some ⟨gg, 0, none⟩) (S.nts.length + 1) cap) = v' at *
    generalize w1.setCell ⟨p, 4, none⟩ v' = W at *
    clear hv' w1
    have HMh : RAt B W p false (S.noted n) := ⟨_, _, _, _, _, _, HM, hnh.out.1, hnh.out.2⟩
    have HKh := Lib.hid HK
    clear HM HK
    go_wp2_with fail
    first | go_end0 | refine bodyPost_ret (results_none rfl _ _ _) rfl ?_
    exact ⟨rfl, HMh, HKh.out⟩
theorem note_r (B p : Nat) (o : Bool) (S : TS) (n : Int) (w : World) (h : RAt B w p o S) (hl : S.nts.length < maxAns) :
    Calls Tryz.prog 111 #[.pointer (some ⟨p, 0, none⟩), .int .i64 n] w (RPost encU B p w (nt n) o S) := by
  cases o with
  | false => exact (note_rf B p S n w h hl).mono fun e w' ⟨h1, h2, h3⟩ => ⟨(), false, _, h1, .done rfl, h2, h3⟩
  | true =>
    have hP := Lib.hid h
    have hK := Lib.hid (Keep.refl [3, 4, 5] B p w)
    obtain ⟨vA, m, vC, vN, vL, hc⟩ := h.cell
    clear h
    go_enter Tryz.func111, Tryz.ntmps111
    go_wp2_with fail
    first | go_end0 | refine bodyPost_ret (results_none rfl _ _ _) rfl ?_
    exact ⟨(), true, S, rfl, .over _ _, hP.out, hK.out⟩
theorem noteO {B p : Nat} {S : TS} {n : Int} {w : World} (h : Plays B w p S) (hl : S.nts.length < maxAns) :
    Calls Tryz.prog 109 #[.pointer (some ⟨p, 0, none⟩), .int .i64 n] w (Post encU B p w ((nt n).run S)) :=
  (note_p B p S n w h hl).mono fun _ _ ⟨h1, h2, h3⟩ => ⟨h1, h2, h3⟩
end Go.Proofs.YtpcohbpeglledaaGreat
/-
  Steps that tell how many notes there are; loops of plays; rows laid meanwhile.
-/
namespace Kv
theorem forP_consB {σ β : Type} (T : Int → σ → Prog σ) (a : Int) (l : List Int) (x : σ) (k : σ → Prog β) : (forP T (a :: l) x).bind k = (T a x).bind fun y => (forP T l y).bind k := Prog.bind_assoc _ _ _
theorem forP_nilB {σ β : Type} (T : Int → σ → Prog σ) (x : σ) (k : σ → Prog β) : (forP T [] x).bind k = k x := rfl
theorem ranks_cons (but : Int) (n : Nat) (i : Int) (h : i ≠ but) : ranksFrom but (n + 1) i = i :: ranksFrom but n (i + 1) := by
  rw [ranksFrom, if_neg h]
theorem ranks_skip (n : Nat) (i : Int) : ranksFrom i (n + 1) i = ranksFrom i n (i + 1) := by
  rw [ranksFrom, if_pos rfl]
theorem ranks_zero (but i : Int) : ranksFrom but 0 i = [] := rfl
end Kv
namespace Go.Proofs.YtpcohbpeglledaaGreat
open Go.RowKit Kv
theorem RegsAt.nth {ix : List Nat} {p b : Nat} {w : World} {l : List Reg} (h : RegsAt ix w p b l) {i : Nat} {r : Reg} (hi : l[i]? = some r) : RegCells w b (i * 7) r := reg_cells h.cells hi
/-- A block laid meanwhile is none of the Mem's. -/
theorem Plays.fresh {B p b : Nat} {w w' : World} {S : TS} (h : Plays B w p S) (hx : Ext w w') (hb : w.heap.size ≤ b) : ¬ ownR [2, 3, 4] w' p b := by
  obtain ⟨_, _, _, _, _, _, h⟩ := h
  intro ho
  have := (h.own ((ownR_same (Below.block hx p h.lt) b).1 ho)).2
  omega
theorem RAt.fresh {B p b : Nat} {w w' : World} {o : Bool} {S : TS} (h : RAt B w p o S) (hx : Ext w w') (hb : w.heap.size ≤ b) : ¬ ownR [3, 4, 5] w' p b := by
  obtain ⟨_, _, _, _, _, _, h, _⟩ := h
  intro ho
  have := (h.own ((ownR_same (Below.block hx p h.lt) b).1 ho)).2
  omega
/-- One call behind what was done: what it takes of the answers, and how many notes it leaves. -/
theorem tstepN {α β : Type} {B p : Nat} {w0 w : World} {S : TS} {R : Ending → World → Prop} {P : Program} {f : FuncId} {args : Array Value} {K : Ending → World → Prop} {enc : α → Value} {enc' : β → Value} {T : Prog α} {g : α → Prog β} {k : Nat} (hN : T.Notes k)
    (hO : Owes R enc' B p w0 ((T.bind g).run S)) (hB : KeepP B p w0 w) (h : Calls P f args w (Post enc B p w (T.run S))) (hp : ∀ w', R (stopE p) w' → K (stopE p) w')
    (hk : ∀ v S1 w1, S1.left ≤ S.left → (T.Asks → S1.left < S.left) → S1.nts.length ≤ S.nts.length + k → Plays B w1 p S1 → KeepP B p w w1 → KeepP B p w0 w1 → Owes R enc' B p w0 ((g v).run S1) → K (.returned (enc v)) w1) : Calls P f args w K := by
  refine tstep hO hB h hp fun v S1 w1 hr hP hk1 hk2 hO1 => hk v S1 w1 ?_ (fun ha => ha.left hr hP.1) ?_ hP hk1 hk2 hO1
  · have := Prog.run_left T S
    rw [hr] at this
    exact this
  · have := hN.run S
    rw [hr] at this
    exact this
theorem ref_notes {α : Type} {T : Prog α} {o o' : Bool} {S S' : TS} {a : α} {k : Nat} (hN : T.Notes k) (h : Ref T o S a o' S') : S'.nts.length ≤ S.nts.length + k := by
  have := hN.run S
  cases h with
  | over => omega
  | done h => rw [h] at this; exact this
  | stop _ h => rw [h] at this; exact this
theorem rstepN {α β : Type} {B p : Nat} {w0 w : World} {o : Bool} {S : TS} {R : Ending → World → Prop} {P : Program} {f : FuncId} {args : Array Value} {K : Ending → World → Prop} {enc : α → Value} {enc' : β → Value} {T : Prog α} {g : α → Prog β} {k : Nat} (hN : T.Notes k)
    (hO : ROwes R enc' B p w0 (T.bind g) o S) (hB : KeepR B p w0 w) (h : Calls P f args w (RPost enc B p w T o S))
    (hk : ∀ v o1 S1 w1, S1.left ≤ S.left → (o1 = false → o = false ∧ (T.Asks → S1.left < S.left)) → S1.nts.length ≤ S.nts.length + k → RAt B w1 p o1 S1 → KeepR B p w w1 → KeepR B p w0 w1 → ROwes R enc' B p w0 (g v) o1 S1 → K (.returned (enc v)) w1) : Calls P f args w K := by
  refine h.mono fun e w1 ⟨v, o1, S1, he, hr, h1, h2⟩ => ?_
  subst he
  refine hk v o1 S1 w1 (ref_lefts hr) (fun ho => ?_) (ref_notes hN hr) h1 h2 (hB.trans h2) (hO.then hr)
  subst ho
  cases hr with
  | done hr => exact ⟨rfl, fun ha => ha.left hr h1.len⟩
end Go.Proofs.YtpcohbpeglledaaGreat
/-
  Plain mathematics of three locks (Peterson's filter, Lamport's fast lock, the black-white bakery) as trees.
-/
namespace Kv
/-- The register at a place. -/
def regAt (l : List Reg) (i : Int) : Reg := l.getD i.toNat ⟨1, 0, 0, 1, -1, -1, 1⟩
theorem regAt_of {l : List Reg} {i : Int} {k : Nat} {r : Reg} (hi : i = k) (h : l[k]? = some r) : regAt l i = r := by
  unfold regAt
  rw [hi, Int.toNat_natCast, List.getD_eq_getElem?_getD, h]; rfl
/-- Waiting in the filter: till a thread's level is below one, or another one is the victim. -/
def filWait (r v : Reg) (me level : Int) : Nat → Prog Unit
  | 0 => .ret ()
  | n + 1 => (regR r me).bind fun x => if x < level then .ret () else (regR v me).bind fun y => if y = me + 1 then filWait r v me level n else .ret ()
/-- A level of the filter. -/
def filLevel (N : Nat) (l : List Reg) (n me level : Int) : Prog Unit :=
  (regW (regAt l me) me level).bind fun _ => (regW (regAt l (n - 1 + level)) me (me + 1)).bind fun _ =>
    forP (fun j _ => filWait (regAt l j) (regAt l (n - 1 + level)) me level N) (ranksFrom me n.toNat 0) ()
def filA (N : Nat) (l : List Reg) (n me : Int) : Prog Int :=
  (nt 1).bind fun _ => (forP (fun level _ => filLevel N l n me level) (ranksFrom (-1) (n - 1).toNat 1) ()).bind fun _ => (nt 3).bind fun _ => .ret 0
def filR (l : List Reg) (me : Int) : Prog Unit := (nt 5).bind fun _ => regW (regAt l me) me 0
/-- Reading a register till it tells 0. -/
def zeroP (r : Reg) (me : Int) : Nat → Prog Unit
  | 0 => .ret ()
  | n + 1 => (regR r me).bind fun x => if x = 0 then .ret () else zeroP r me n
/-- The fast lock: so many tries at most. -/
def fastTry (N : Nat) (l : List Reg) (n me : Int) : Nat → Prog Unit
  | 0 => .ret ()
  | k + 1 => (regW (regAt l (2 + me)) me 1).bind fun _ => (regW (regAt l 0) me (me + 1)).bind fun _ => (regR (regAt l 1) me).bind fun y =>
      if y = 0 then
        (regW (regAt l 1) me (me + 1)).bind fun _ => (regR (regAt l 0) me).bind fun x =>
          if x = me + 1 then .ret () else
            (regW (regAt l (2 + me)) me 0).bind fun _ => (forP (fun j _ => zeroP (regAt l (2 + j)) me N) (ranksFrom (-1) n.toNat 0) ()).bind fun _ =>
              (regR (regAt l 1) me).bind fun y => if y = me + 1 then .ret () else (zeroP (regAt l 1) me N).bind fun _ => fastTry N l n me k
      else (regW (regAt l (2 + me)) me 0).bind fun _ => (zeroP (regAt l 1) me N).bind fun _ => fastTry N l n me k
def fastA (N : Nat) (l : List Reg) (n me : Int) : Prog Int := (nt 1).bind fun _ => (fastTry N l n me N).bind fun _ => (nt 3).bind fun _ => .ret 0
def fastR (l : List Reg) (me : Int) : Prog Unit := (nt 5).bind fun _ => (regW (regAt l 1) me 0).bind fun _ => regW (regAt l (2 + me)) me 0
/-- The bakery: the ticket behind all of one's color. -/
def bwMost (l : List Reg) (n me c : Int) (t : Int) : Prog Int :=
  forP (fun j t => (regR (regAt l (1 + n + j)) me).bind fun x => .ret (if x % 2 = c then max t (x / 2) else t)) (ranksFrom me n.toNat 0) t
def bwChoose (r : Reg) (me : Int) : Nat → Prog Unit
  | 0 => .ret ()
  | n + 1 => (regR r me).bind fun x => if x = 0 then .ret () else bwChoose r me n
/-- Waiting till a thread is not ahead any more. -/
def bwWait (l : List Reg) (n me j t c : Int) : Nat → Prog Unit
  | 0 => .ret ()
  | k + 1 => (regR (regAt l (1 + n + j)) me).bind fun x =>
      if x / 2 = 0 then .ret () else if x % 2 = c then (if t < x / 2 ∨ (x / 2 = t ∧ me < j) then .ret () else bwWait l n me j t c k)
      else (regR (regAt l 0) me).bind fun y => if bitM y = c then bwWait l n me j t c k else .ret ()
def bwA (N : Nat) (l : List Reg) (own n me : Int) : Prog Int :=
  (nt 1).bind fun _ => (regW (regAt l (1 + me)) me 1).bind fun _ => (regR (regAt l 0) me).bind fun y => (st own (bitM y)).bind fun _ =>
    (bwMost l n me (bitM y) 0).bind fun t => (regW (regAt l (1 + n + me)) me (2 * (t + 1) + bitM y)).bind fun _ => (regW (regAt l (1 + me)) me 0).bind fun _ => (nt 2).bind fun _ =>
      (forP (fun j _ => (bwChoose (regAt l (1 + j)) me N).bind fun _ => bwWait l n me j (t + 1) (bitM y) N) (ranksFrom me n.toNat 0) ()).bind fun _ => (nt 3).bind fun _ => .ret 0
def bwR (l : List Reg) (own n me : Int) : Prog Unit :=
  (nt 5).bind fun _ => (gt own).bind fun x => (regW (regAt l 0) me (1 - bitM x)).bind fun _ => regW (regAt l (1 + n + me)) me (bitM x)
theorem filLevel_bind {β : Type} (N : Nat) (l : List Reg) (n me level : Int) (f : Unit → Prog β) : (filLevel N l n me level).bind f = (regW (regAt l me) me level).bind fun _ => (regW (regAt l (n - 1 + level)) me (me + 1)).bind fun _ =>
    (forP (fun j _ => filWait (regAt l j) (regAt l (n - 1 + level)) me level N) (ranksFrom me n.toNat 0) ()).bind f := by
  unfold filLevel
  simp only [Prog.bind_assoc]
theorem filWait_bind {β : Type} (r v : Reg) (me level : Int) (n : Nat) (f : Unit → Prog β) : (filWait r v me level (n + 1)).bind f = (regR r me).bind fun x => if x < level then f () else (regR v me).bind fun y => if y = me + 1 then (filWait r v me level n).bind f else f () := by
  rw [show filWait r v me level (n + 1) = (regR r me).bind fun x => if x < level then .ret () else (regR v me).bind fun y => if y = me + 1 then filWait r v me level n else .ret () from rfl, Prog.bind_assoc]
  congr 1
  funext x
  split
  · rfl
  · rw [Prog.bind_assoc]
    congr 1
    funext y
    split <;> rfl
theorem zeroP_bind {β : Type} (r : Reg) (me : Int) (n : Nat) (f : Unit → Prog β) : (zeroP r me (n + 1)).bind f = (regR r me).bind fun x => if x = 0 then f () else (zeroP r me n).bind f := by
  rw [show zeroP r me (n + 1) = (regR r me).bind fun x => if x = 0 then .ret () else zeroP r me n from rfl, Prog.bind_assoc]
  congr 1
  funext x
  split <;> rfl
theorem notes_filWait (r v : Reg) (me level : Int) : ∀ n : Nat, (filWait r v me level n).Notes 0
  | 0 => .ret _ _
  | n + 1 => by
    rw [show filWait r v me level (n + 1) = (regR r me).bind fun x => if x < level then .ret () else (regR v me).bind fun y => if y = me + 1 then filWait r v me level n else .ret () from rfl]
    refine (notes_regR _ _).bind0 fun x => ?_
    split
    · exact .ret _ _
    · refine (notes_regR _ _).bind0 fun y => ?_
      split
      · exact notes_filWait r v me level n
      · exact .ret _ _
theorem notes_zeroP (r : Reg) (me : Int) : ∀ n : Nat, (zeroP r me n).Notes 0
  | 0 => .ret _ _
  | n + 1 => by
    rw [show zeroP r me (n + 1) = (regR r me).bind fun x => if x = 0 then .ret () else zeroP r me n from rfl]
    refine (notes_regR _ _).bind0 fun x => ?_
    split
    · exact .ret _ _
    · exact notes_zeroP r me n
end Kv
/-
  Plain mathematics of Kessels' lock: entering and leaving as trees.
-/
namespace Kv
def kesFree (s t y : Int) : Bool := if s = 1 then decide (bitM y = t) else decide (bitM y ≠ t)
def kesT (s x : Int) : Int := if s = 1 then 1 - bitM x else bitM x
/-- Spinning, so many rounds at most. -/
def kesSpin (qo ro : Reg) (s t me : Int) : Nat → Prog Unit
  | 0 => .ret ()
  | n + 1 => (regR qo me).bind fun x => if x = 0 then .ret () else (regR ro me).bind fun y => if kesFree s t y then .ret () else kesSpin qo ro s t me n
def kesEnter (n : Nat) (qs qo rs ro : Reg) (s me : Int) : Prog Unit :=
  (regW qs me 1).bind fun _ => (regR ro me).bind fun x => (regW rs me (kesT s x)).bind fun _ => kesSpin qo ro s (kesT s x) me n
end Kv
/-
  Kessels: entering, by the program.
-/
namespace Go.Proofs.YtpcohbpeglledaaGreat
open Go.RowKit Kv
theorem kbit_p (x : Int) (w : World) : Calls Tryz.prog 97 #[.int .i64 x] w fun e w' => e = .returned (.int .i64 (bitM x)) ∧ w = w' := by
  unfold bitM
  by_cases h : x = 0
  · rw [if_pos h]
    go_enter Tryz.func97, Tryz.ntmps97
    go_wp2_with fail
    go_ret
    exact ⟨rfl, rfl⟩
  · rw [if_neg h]
    have hb : (x != 0) = true := by rw [bne_iff_ne]; exact h
    go_enter Tryz.func97, Tryz.ntmps97
    go_wp2_with fail
    go_ret
    exact ⟨rfl, rfl⟩
theorem kfree0_p (x t : Int) (b : Nat) (w : World) (h : w.cell? ⟨b, 0, none⟩ = some (.int .i64 t)) : Calls Tryz.prog 98 #[.int .i64 x, .pointer (some ⟨b, 0, none⟩)] w fun e w' => e = .returned (.bool (x != t)) ∧ w = w' := by
  go_enter Tryz.func98, Tryz.ntmps98
  go_wp2_with fail
  go_ret
  exact ⟨rfl, rfl⟩
theorem kfree1_p (x t : Int) (b : Nat) (w : World) (h : w.cell? ⟨b, 0, none⟩ = some (.int .i64 t)) : Calls Tryz.prog 99 #[.int .i64 x, .pointer (some ⟨b, 0, none⟩)] w fun e w' => e = .returned (.bool (x == t)) ∧ w = w' := by
  go_enter Tryz.func99, Tryz.ntmps99
  go_wp2_with fail
  go_ret
  exact ⟨rfl, rfl⟩
theorem cells_pm (r : Reg) (me : Int) (w : World) (ho : r.ok) (ht : r.told me) (hm : 0 ≤ me ∧ me < r.n) : Calls Tryz.prog 100 #[encR r] w fun e w' => ∃ c : Int, e = .returned (.int .i64 c) ∧ (c == 0) = false ∧ Ext w w' := by
  refine (cells_p r w (by rcases ht with h | ⟨h, _⟩ | ⟨h, h2⟩; exact .inl h; exact .inr (.inl h); exact .inr (.inr ⟨h, h2⟩)) ho.n (fun w => mthreads_p r.n w ho.n.1 ho.n.2)).mono fun e w' h => ⟨_, h.1, ?_, h.2⟩
  rw [beq_eq_false_iff_ne]
  have hn := ho.n
  have h2 : r.kind ≠ 1 → 2 ≤ r.n := fun h1 => by
    rcases ht with h | ⟨h, h3⟩ | ⟨h, h3⟩
    · exact absurd h h1
    · have := ho.wr h; omega
    · exact h3
  unfold cellsM
  split
  · decide
  · rename_i h1
    have h3 := h2 h1
    have p1 : 0 < 16 * (r.n - 1) * (r.n - 1) := Int.mul_pos (by omega) (by omega)
    split
    · omega
    · have p2 : 0 < 16 * (r.n - 1) * (r.n - 1) * r.n := Int.mul_pos p1 (by omega)
      omega
set_option maxRecDepth 100000 in
set_option maxHeartbeats 1000000 in
theorem kes_enter_p0 (B p N : Nat) (S : TS) (q0 q1 r0 r1 : Reg) (side me : Int) (b c : Nat) (w : World) (h : Plays B w p S) (hl : RegsAt [2, 3, 4] w p b [q0, q1, r0, r1]) (hq0 : q0.ok) (hq1 : q1.ok) (hr0 : r0.ok) (hr1 : r1.ok)
    (hm0 : 0 ≤ me) (hm1 : me < q0.n) (hm2 : me < q1.n) (hm3 : me < r0.n) (hm4 : me < r1.n) (ht1 : q1.told me) (_ht2 : r1.told me) (hN : S.left < N) (hs : bitM side = 0) (hc4 : 4 ≤ c) (hc5 : c ≤ 9223372036854775807) :
    Calls Tryz.prog 28 #[.pointer (some ⟨p, 0, none⟩), .slice (some ⟨b, 0, none⟩) 4 c, .int .i64 side, .int .i64 me] w (Post encU B p w ((kesEnter N q0 q1 r0 r1 0 me).run S)) := by
  generalize hR : Post encU B p w ((kesEnter N q0 q1 r0 r1 0 me).run S) = R
  have hO : Owes R encU B p w ((kesEnter N q0 q1 r0 r1 0 me).run S) := hR ▸ owes _ _ _ _ _
  clear hR
  have hmf : ∀ (fn : Fn) (first cap : Array Value) (w : World), (Instr.makeFunc fn first cap).run Tryz.prog w = .ok (.func fn first cap) w := fun _ _ _ _ => rfl
  have hK := Keep.refl [2, 3, 4] B p w
  have hP := h
  clear h
  unfold kesEnter at hO
  obtain ⟨⟨a0, a1, a2, a3, a4, a5, a6⟩, ⟨e0, e1, e2, e3, e4, e5, e6⟩, ⟨f0, f1, f2, f3, f4, f5, f6⟩, ⟨g0, g1, g2, g3, g4, g5, g6⟩⟩ := hl.four
  have hc6 : (2 : Int) ≤ (c : Int) := by omega
  have hc7 : (4 : Int) ≤ (c : Int) := by omega
  have hb := kbit_p side w
  rw [hs] at hb
  clear hs
  go_enter Tryz.func28, Tryz.ntmps28
  go_wp2_with fail
  refine hb.mono ?_
  rintro e w' ⟨rfl, rfl⟩
  clear hb
  go_wp2_with fail
  go_quiet (fail)
  have hx := (Ext.refl w).drewN nq
  replace hl := hl.extL hx hP.lt
  replace hK := hK.trans (Keep.of_ext hx hP.lt hP.le)
  replace hP := hP.ext hx
  clear a0 a1 a2 a3 a4 a5 a6 e0 e1 e2 e3 e4 e5 e6 f0 f1 f2 f3 f4 f5 f6 g0 g1 g2 g3 g4 g5 g6 hx
  generalize w.drewN nq = wz at *
  obtain ⟨⟨a0, a1, a2, a3, a4, a5, a6⟩, ⟨e0, e1, e2, e3, e4, e5, e6⟩, ⟨f0, f1, f2, f3, f4, f5, f6⟩, ⟨g0, g1, g2, g3, g4, g5, g6⟩⟩ := hl.four
  go_wp2_with fail
  refine tstepL hO hK (reg_write_p B p S q0 me 1 _ hP hq0 ⟨hm0, by omega⟩) (fun _ h => ⟨rfl, h⟩) ?_
  clear hO hK hP
  intro u S w1 hlf _ hP hk hK hO
  replace hN := Nat.lt_of_le_of_lt hlf hN
  replace hl := hl.keep hk
  clear a0 a1 a2 a3 a4 a5 a6 e0 e1 e2 e3 e4 e5 e6 f0 f1 f2 f3 f4 f5 f6 g0 g1 g2 g3 g4 g5 g6 hk hlf
  obtain ⟨⟨a0, a1, a2, a3, a4, a5, a6⟩, ⟨e0, e1, e2, e3, e4, e5, e6⟩, ⟨f0, f1, f2, f3, f4, f5, f6⟩, ⟨g0, g1, g2, g3, g4, g5, g6⟩⟩ := hl.four
  go_wp2_with fail
  refine tstepL hO hK (reg_read_p B p S r1 me _ hP hr1 ⟨hm0, by omega⟩) (fun _ h => ⟨rfl, h⟩) ?_
  clear hO hK hP
  intro x S w2 hlf _ hP hk hK hO
  replace hN := Nat.lt_of_le_of_lt hlf hN
  replace hl := hl.keep hk
  clear a0 a1 a2 a3 a4 a5 a6 e0 e1 e2 e3 e4 e5 e6 f0 f1 f2 f3 f4 f5 f6 g0 g1 g2 g3 g4 g5 g6 hk hlf
  obtain ⟨⟨a0, a1, a2, a3, a4, a5, a6⟩, ⟨e0, e1, e2, e3, e4, e5, e6⟩, ⟨f0, f1, f2, f3, f4, f5, f6⟩, ⟨g0, g1, g2, g3, g4, g5, g6⟩⟩ := hl.four
  go_wp2_with fail
  have hbx : 0 ≤ bitM x ∧ bitM x ≤ 1 := by unfold bitM; split <;> omega
  have hwx := w64 (1 - bitM x) (by omega) (by omega)
  refine (kbit_p x _).mono ?_
  rintro e w' ⟨rfl, rfl⟩
  go_wp2_with fail
  have hPo := hP
  have bT := hP.held (.cells #[.int .i64 (bitM x)] 3)
  replace hK := hK.trans (Keep.alloc (.cells #[.int .i64 (bitM x)] 3) hP.lt hP.le)
  replace hP := hP.alloc (.cells #[.int .i64 (bitM x)] 3)
  have c_bT := bT.cells
  replace hl := hl.extL ((Ext.refl _).alloc (.cells #[.int .i64 (bitM x)] 3)) hPo.lt
  clear hPo
  clear a0 a1 a2 a3 a4 a5 a6 e0 e1 e2 e3 e4 e5 e6 f0 f1 f2 f3 f4 f5 f6 g0 g1 g2 g3 g4 g5 g6
  rw [show kesT 0 x = (bitM x) from rfl] at hO
  replace hP := hP.drew
  replace hK := hK.drew
  replace bT := bT.drew
  replace hl := hl.extL (Ext.refl _).drew hP.lt
  have hS : ∀ w', RegsAt [2, 3, 4] w' p b [q0, q1, r0, r1] → HeldP w' p w2.heap.size (.cells #[.int .i64 (bitM x)] 3) → (w'.cell? ⟨b, 14, none⟩ = some (.int .i64 r0.kind) ∧ w'.cell? ⟨b, 15, none⟩ = some (.int .i64 r0.base) ∧ w'.cell? ⟨b, 16, none⟩ = some (.int .i64 r0.loc) ∧ w'.cell? ⟨b, 17, none⟩ = some (.int .i64 r0.n) ∧ w'.cell? ⟨b, 18, none⟩ = some (.int .i64 r0.wr) ∧ w'.cell? ⟨b, 19, none⟩ = some (.int .i64 r0.rd) ∧ w'.cell? ⟨b, 20, none⟩ = some (.int .i64 r0.top)) ∧ (∀ i, w'.cell? ⟨w2.heap.size, i, none⟩ = (#[.int .i64 (bitM x)] : Array Value)[i]?) := fun w' h1 h2 => by
    obtain ⟨y0, y1, y2, y3, y4, y5, y6⟩ := h1.four.2.2.1
    exact ⟨⟨y0, y1, y2, y3, y4, y5, y6⟩, h2.cells⟩
  go_region_held2 (fun w' => (w'.cell? ⟨b, 14, none⟩ = some (.int .i64 r0.kind) ∧ w'.cell? ⟨b, 15, none⟩ = some (.int .i64 r0.base) ∧ w'.cell? ⟨b, 16, none⟩ = some (.int .i64 r0.loc) ∧ w'.cell? ⟨b, 17, none⟩ = some (.int .i64 r0.n) ∧ w'.cell? ⟨b, 18, none⟩ = some (.int .i64 r0.wr) ∧ w'.cell? ⟨b, 19, none⟩ = some (.int .i64 r0.rd) ∧ w'.cell? ⟨b, 20, none⟩ = some (.int .i64 r0.top)) ∧ (∀ i, w'.cell? ⟨w2.heap.size, i, none⟩ = (#[.int .i64 (bitM x)] : Array Value)[i]?)) (exact hS _ hl bT)
    (first
      | (go_at_call 89
         refine tstepL hO hK (reg_write_p B p S r0 me (bitM x) _ hP hr0 ⟨hm0, by omega⟩) (fun _ h => ⟨rfl, h⟩) ?_
         clear hO hK hP
         intro u S w3 hlf _ hP hk hK hO
         replace hN := Nat.lt_of_le_of_lt hlf hN
         replace hl := hl.keep hk
         replace bT := bT.keep hk
         clear hk hlf))
  rename_i hh
  clear hh c_bT
  generalize htx : (bitM x) = t at *
  go_wp2_with fail
  go_loopw [] (fun wr => ∃ (n : Nat) (S1 : TS), Plays B wr p S1 ∧ KeepP B p w wr ∧ HeldP wr p w2.heap.size (.cells #[.int .i64 t] 3) ∧ RegsAt [2, 3, 4] wr p b [q0, q1, r0, r1] ∧ Hid (Owes R encU B p w ((kesSpin q1 r1 0 t me n).run S1)) ∧ S1.left < n) (fun wr => leftW 1 3 wr p)
  case atStart => exact ⟨N, S, hP, hK, bT, hl, hO, hN⟩
  case round =>
    clear hS hP hK bT hl hO hN
    obtain ⟨n, S1, hP, hK, bT, hl, hO, hN⟩ := hrel
    have hO := hO.out
    have hlw := Lib.hid hP.left
    cases n with
    | zero => omega
    | succ n =>
      unfold kesSpin at hO
      obtain ⟨⟨a0, a1, a2, a3, a4, a5, a6⟩, ⟨e0, e1, e2, e3, e4, e5, e6⟩, ⟨f0, f1, f2, f3, f4, f5, f6⟩, ⟨g0, g1, g2, g3, g4, g5, g6⟩⟩ := hl.four
      go_wp2_with fail
      refine tstepL hO hK (reg_read_p B p S1 q1 me _ hP hq1 ⟨hm0, by omega⟩) (fun _ h => ⟨rfl, h⟩) ?_
      clear hO hK hP
      intro v S2 w4 _ hlf hP hk hK hO
      replace hlf := hlf (asks_regR _ _ ht1)
      replace hl := hl.keep hk
      replace bT := bT.keep hk
      clear a0 a1 a2 a3 a4 a5 a6 e0 e1 e2 e3 e4 e5 e6 f0 f1 f2 f3 f4 f5 f6 g0 g1 g2 g3 g4 g5 g6 hk
      by_cases hv : v = 0
      · rw [if_pos hv] at hO
        subst hv
        have hf : R (.returned (encU ())) w4 := hO.done hP hK
        clear hO hP hK hl bT
        go_wp2_with fail
        first | exact hf | (refine bodyPost_ret (results_none rfl _ _ _) rfl ?_; exact hf)
      · rw [if_neg hv] at hO
        have hv2 : (v == 0) = false := by rw [beq_eq_false_iff_ne]; exact hv
        obtain ⟨⟨a0, a1, a2, a3, a4, a5, a6⟩, ⟨e0, e1, e2, e3, e4, e5, e6⟩, ⟨f0, f1, f2, f3, f4, f5, f6⟩, ⟨g0, g1, g2, g3, g4, g5, g6⟩⟩ := hl.four
        clear hv
        go_wp2_with fail
        refine tstepL hO hK (reg_read_p B p S2 r1 me _ hP hr1 ⟨hm0, by omega⟩) (fun _ h => ⟨rfl, h⟩) ?_
        clear hO hK hP
        intro y S3 w5 hlf2 _ hP hk hK hO
        replace hl := hl.keep hk
        replace bT := bT.keep hk
        clear a0 a1 a2 a3 a4 a5 a6 e0 e1 e2 e3 e4 e5 e6 f0 f1 f2 f3 f4 f5 f6 g0 g1 g2 g3 g4 g5 g6 hk
        have c_bT := bT.cells
        go_wp2_with fail
        refine (kbit_p y _).mono ?_
        rintro e w' ⟨rfl, rfl⟩
        go_wp2_with fail
        refine (kfree0_p (bitM y) t _ _ (c_bT 0)).mono ?_
        rintro e w' ⟨rfl, rfl⟩
        by_cases hy : kesFree 0 t y = true
        · rw [if_pos hy] at hO
          have hy2 : (bitM y != t) = true := by unfold kesFree at hy; simpa using hy
          have hf : R (.returned (encU ())) w5 := hO.done hP hK
          clear hO hP hK hl bT hy
          go_wp2_with fail
          first | exact hf | (refine bodyPost_ret (results_none rfl _ _ _) rfl ?_; exact hf)
        · rw [if_neg hy] at hO
          have hy2 : (bitM y != t) = false := by unfold kesFree at hy; simpa using hy
          obtain ⟨⟨a0, a1, a2, a3, a4, a5, a6⟩, ⟨e0, e1, e2, e3, e4, e5, e6⟩, ⟨f0, f1, f2, f3, f4, f5, f6⟩, ⟨g0, g1, g2, g3, g4, g5, g6⟩⟩ := hl.four
          clear hy c_bT
          go_wp2_with fail
          refine (cells_pm q1 me _ hq1 ht1 ⟨hm0, by omega⟩).mono ?_
          rintro e w6 ⟨cc, rfl, hcc, hx⟩
          replace hl := hl.extL hx hP.lt
          replace bT := bT.ext hx hP.lt
          replace hK := hK.trans (Keep.of_ext hx hP.lt hP.le)
          replace hP := hP.ext hx
          clear a0 a1 a2 a3 a4 a5 a6 e0 e1 e2 e3 e4 e5 e6 f0 f1 f2 f3 f4 f5 f6 g0 g1 g2 g3 g4 g5 g6 hx
          have hlw2 := Lib.hid hP.left
          have hOh := Lib.hid hO
          clear hO
          go_wp2_with fail
          refine ⟨⟨n, S3, hP, hK, bT, hl, hOh, by omega⟩, ?_⟩
          rw [hlw.out, hlw2.out]
          omega
set_option maxRecDepth 100000 in
set_option maxHeartbeats 1000000 in
theorem kes_enter_p1 (B p N : Nat) (S : TS) (q0 q1 r0 r1 : Reg) (side me : Int) (b c : Nat) (w : World) (h : Plays B w p S) (hl : RegsAt [2, 3, 4] w p b [q0, q1, r0, r1]) (hq0 : q0.ok) (hq1 : q1.ok) (hr0 : r0.ok) (hr1 : r1.ok)
    (hm0 : 0 ≤ me) (hm1 : me < q0.n) (hm2 : me < q1.n) (hm3 : me < r0.n) (hm4 : me < r1.n) (ht1 : q0.told me) (_ht2 : r0.told me) (hN : S.left < N) (hs : bitM side = 1) (hc4 : 4 ≤ c) (hc5 : c ≤ 9223372036854775807) :
    Calls Tryz.prog 28 #[.pointer (some ⟨p, 0, none⟩), .slice (some ⟨b, 0, none⟩) 4 c, .int .i64 side, .int .i64 me] w (Post encU B p w ((kesEnter N q1 q0 r1 r0 1 me).run S)) := by
  generalize hR : Post encU B p w ((kesEnter N q1 q0 r1 r0 1 me).run S) = R
  have hO : Owes R encU B p w ((kesEnter N q1 q0 r1 r0 1 me).run S) := hR ▸ owes _ _ _ _ _
  clear hR
  have hmf : ∀ (fn : Fn) (first cap : Array Value) (w : World), (Instr.makeFunc fn first cap).run Tryz.prog w = .ok (.func fn first cap) w := fun _ _ _ _ => rfl
  have hK := Keep.refl [2, 3, 4] B p w
  have hP := h
  clear h
  unfold kesEnter at hO
  obtain ⟨⟨a0, a1, a2, a3, a4, a5, a6⟩, ⟨e0, e1, e2, e3, e4, e5, e6⟩, ⟨f0, f1, f2, f3, f4, f5, f6⟩, ⟨g0, g1, g2, g3, g4, g5, g6⟩⟩ := hl.four
  have hc6 : (2 : Int) ≤ (c : Int) := by omega
  have hc7 : (4 : Int) ≤ (c : Int) := by omega
  have hb := kbit_p side w
  rw [hs] at hb
  clear hs
  go_enter Tryz.func28, Tryz.ntmps28
  go_wp2_with fail
  refine hb.mono ?_
  rintro e w' ⟨rfl, rfl⟩
  clear hb
  go_wp2_with fail
  go_quiet (fail)
  have hx := (Ext.refl w).drewN nq
  replace hl := hl.extL hx hP.lt
  replace hK := hK.trans (Keep.of_ext hx hP.lt hP.le)
  replace hP := hP.ext hx
  clear a0 a1 a2 a3 a4 a5 a6 e0 e1 e2 e3 e4 e5 e6 f0 f1 f2 f3 f4 f5 f6 g0 g1 g2 g3 g4 g5 g6 hx
  generalize w.drewN nq = wz at *
  obtain ⟨⟨a0, a1, a2, a3, a4, a5, a6⟩, ⟨e0, e1, e2, e3, e4, e5, e6⟩, ⟨f0, f1, f2, f3, f4, f5, f6⟩, ⟨g0, g1, g2, g3, g4, g5, g6⟩⟩ := hl.four
  go_wp2_with fail
  refine tstepL hO hK (reg_write_p B p S q1 me 1 _ hP hq1 ⟨hm0, by omega⟩) (fun _ h => ⟨rfl, h⟩) ?_
  clear hO hK hP
  intro u S w1 hlf _ hP hk hK hO
  replace hN := Nat.lt_of_le_of_lt hlf hN
  replace hl := hl.keep hk
  clear a0 a1 a2 a3 a4 a5 a6 e0 e1 e2 e3 e4 e5 e6 f0 f1 f2 f3 f4 f5 f6 g0 g1 g2 g3 g4 g5 g6 hk hlf
  obtain ⟨⟨a0, a1, a2, a3, a4, a5, a6⟩, ⟨e0, e1, e2, e3, e4, e5, e6⟩, ⟨f0, f1, f2, f3, f4, f5, f6⟩, ⟨g0, g1, g2, g3, g4, g5, g6⟩⟩ := hl.four
  go_wp2_with fail
  refine tstepL hO hK (reg_read_p B p S r0 me _ hP hr0 ⟨hm0, by omega⟩) (fun _ h => ⟨rfl, h⟩) ?_
  clear hO hK hP
  intro x S w2 hlf _ hP hk hK hO
  replace hN := Nat.lt_of_le_of_lt hlf hN
  replace hl := hl.keep hk
  clear a0 a1 a2 a3 a4 a5 a6 e0 e1 e2 e3 e4 e5 e6 f0 f1 f2 f3 f4 f5 f6 g0 g1 g2 g3 g4 g5 g6 hk hlf
  obtain ⟨⟨a0, a1, a2, a3, a4, a5, a6⟩, ⟨e0, e1, e2, e3, e4, e5, e6⟩, ⟨f0, f1, f2, f3, f4, f5, f6⟩, ⟨g0, g1, g2, g3, g4, g5, g6⟩⟩ := hl.four
  go_wp2_with fail
  have hbx : 0 ≤ bitM x ∧ bitM x ≤ 1 := by unfold bitM; split <;> omega
  have hwx := w64 (1 - bitM x) (by omega) (by omega)
  refine (kbit_p x _).mono ?_
  rintro e w' ⟨rfl, rfl⟩
  go_wp2_with fail
  have hPo := hP
  have bT := hP.held (.cells #[.int .i64 (1 - bitM x)] 3)
  replace hK := hK.trans (Keep.alloc (.cells #[.int .i64 (1 - bitM x)] 3) hP.lt hP.le)
  replace hP := hP.alloc (.cells #[.int .i64 (1 - bitM x)] 3)
  have c_bT := bT.cells
  replace hl := hl.extL ((Ext.refl _).alloc (.cells #[.int .i64 (1 - bitM x)] 3)) hPo.lt
  clear hPo
  clear a0 a1 a2 a3 a4 a5 a6 e0 e1 e2 e3 e4 e5 e6 f0 f1 f2 f3 f4 f5 f6 g0 g1 g2 g3 g4 g5 g6
  rw [show kesT 1 x = (1 - bitM x) from rfl] at hO
  replace hP := hP.drew
  replace hK := hK.drew
  replace bT := bT.drew
  replace hl := hl.extL (Ext.refl _).drew hP.lt
  have hS : ∀ w', RegsAt [2, 3, 4] w' p b [q0, q1, r0, r1] → HeldP w' p w2.heap.size (.cells #[.int .i64 (1 - bitM x)] 3) → (w'.cell? ⟨b, 21, none⟩ = some (.int .i64 r1.kind) ∧ w'.cell? ⟨b, 22, none⟩ = some (.int .i64 r1.base) ∧ w'.cell? ⟨b, 23, none⟩ = some (.int .i64 r1.loc) ∧ w'.cell? ⟨b, 24, none⟩ = some (.int .i64 r1.n) ∧ w'.cell? ⟨b, 25, none⟩ = some (.int .i64 r1.wr) ∧ w'.cell? ⟨b, 26, none⟩ = some (.int .i64 r1.rd) ∧ w'.cell? ⟨b, 27, none⟩ = some (.int .i64 r1.top)) ∧ (∀ i, w'.cell? ⟨w2.heap.size, i, none⟩ = (#[.int .i64 (1 - bitM x)] : Array Value)[i]?) := fun w' h1 h2 => by
    obtain ⟨y0, y1, y2, y3, y4, y5, y6⟩ := h1.four.2.2.2
    exact ⟨⟨y0, y1, y2, y3, y4, y5, y6⟩, h2.cells⟩
  go_region_held2 (fun w' => (w'.cell? ⟨b, 21, none⟩ = some (.int .i64 r1.kind) ∧ w'.cell? ⟨b, 22, none⟩ = some (.int .i64 r1.base) ∧ w'.cell? ⟨b, 23, none⟩ = some (.int .i64 r1.loc) ∧ w'.cell? ⟨b, 24, none⟩ = some (.int .i64 r1.n) ∧ w'.cell? ⟨b, 25, none⟩ = some (.int .i64 r1.wr) ∧ w'.cell? ⟨b, 26, none⟩ = some (.int .i64 r1.rd) ∧ w'.cell? ⟨b, 27, none⟩ = some (.int .i64 r1.top)) ∧ (∀ i, w'.cell? ⟨w2.heap.size, i, none⟩ = (#[.int .i64 (1 - bitM x)] : Array Value)[i]?)) (exact hS _ hl bT)
    (first
      | (go_at_call 89
         refine tstepL hO hK (reg_write_p B p S r1 me (1 - bitM x) _ hP hr1 ⟨hm0, by omega⟩) (fun _ h => ⟨rfl, h⟩) ?_
         clear hO hK hP
         intro u S w3 hlf _ hP hk hK hO
         replace hN := Nat.lt_of_le_of_lt hlf hN
         replace hl := hl.keep hk
         replace bT := bT.keep hk
         clear hk hlf))
  rename_i hh
  clear hh c_bT
  generalize htx : (1 - bitM x) = t at *
  go_wp2_with fail
  go_loopw [] (fun wr => ∃ (n : Nat) (S1 : TS), Plays B wr p S1 ∧ KeepP B p w wr ∧ HeldP wr p w2.heap.size (.cells #[.int .i64 t] 3) ∧ RegsAt [2, 3, 4] wr p b [q0, q1, r0, r1] ∧ Hid (Owes R encU B p w ((kesSpin q0 r0 1 t me n).run S1)) ∧ S1.left < n) (fun wr => leftW 1 3 wr p)
  case atStart => exact ⟨N, S, hP, hK, bT, hl, hO, hN⟩
  case round =>
    clear hS hP hK bT hl hO hN
    obtain ⟨n, S1, hP, hK, bT, hl, hO, hN⟩ := hrel
    have hO := hO.out
    have hlw := Lib.hid hP.left
    cases n with
    | zero => omega
    | succ n =>
      unfold kesSpin at hO
      obtain ⟨⟨a0, a1, a2, a3, a4, a5, a6⟩, ⟨e0, e1, e2, e3, e4, e5, e6⟩, ⟨f0, f1, f2, f3, f4, f5, f6⟩, ⟨g0, g1, g2, g3, g4, g5, g6⟩⟩ := hl.four
      go_wp2_with fail
      refine tstepL hO hK (reg_read_p B p S1 q0 me _ hP hq0 ⟨hm0, by omega⟩) (fun _ h => ⟨rfl, h⟩) ?_
      clear hO hK hP
      intro v S2 w4 _ hlf hP hk hK hO
      replace hlf := hlf (asks_regR _ _ ht1)
      replace hl := hl.keep hk
      replace bT := bT.keep hk
      clear a0 a1 a2 a3 a4 a5 a6 e0 e1 e2 e3 e4 e5 e6 f0 f1 f2 f3 f4 f5 f6 g0 g1 g2 g3 g4 g5 g6 hk
      by_cases hv : v = 0
      · rw [if_pos hv] at hO
        subst hv
        have hf : R (.returned (encU ())) w4 := hO.done hP hK
        clear hO hP hK hl bT
        go_wp2_with fail
        first | exact hf | (refine bodyPost_ret (results_none rfl _ _ _) rfl ?_; exact hf)
      · rw [if_neg hv] at hO
        have hv2 : (v == 0) = false := by rw [beq_eq_false_iff_ne]; exact hv
        obtain ⟨⟨a0, a1, a2, a3, a4, a5, a6⟩, ⟨e0, e1, e2, e3, e4, e5, e6⟩, ⟨f0, f1, f2, f3, f4, f5, f6⟩, ⟨g0, g1, g2, g3, g4, g5, g6⟩⟩ := hl.four
        clear hv
        go_wp2_with fail
        refine tstepL hO hK (reg_read_p B p S2 r0 me _ hP hr0 ⟨hm0, by omega⟩) (fun _ h => ⟨rfl, h⟩) ?_
        clear hO hK hP
        intro y S3 w5 hlf2 _ hP hk hK hO
        replace hl := hl.keep hk
        replace bT := bT.keep hk
        clear a0 a1 a2 a3 a4 a5 a6 e0 e1 e2 e3 e4 e5 e6 f0 f1 f2 f3 f4 f5 f6 g0 g1 g2 g3 g4 g5 g6 hk
        have c_bT := bT.cells
        go_wp2_with fail
        refine (kbit_p y _).mono ?_
        rintro e w' ⟨rfl, rfl⟩
        go_wp2_with fail
        refine (kfree1_p (bitM y) t _ _ (c_bT 0)).mono ?_
        rintro e w' ⟨rfl, rfl⟩
        by_cases hy : kesFree 1 t y = true
        · rw [if_pos hy] at hO
          have hy2 : (bitM y == t) = true := by unfold kesFree at hy; simpa using hy
          have hf : R (.returned (encU ())) w5 := hO.done hP hK
          clear hO hP hK hl bT hy
          go_wp2_with fail
          first | exact hf | (refine bodyPost_ret (results_none rfl _ _ _) rfl ?_; exact hf)
        · rw [if_neg hy] at hO
          have hy2 : (bitM y == t) = false := by unfold kesFree at hy; simpa using hy
          obtain ⟨⟨a0, a1, a2, a3, a4, a5, a6⟩, ⟨e0, e1, e2, e3, e4, e5, e6⟩, ⟨f0, f1, f2, f3, f4, f5, f6⟩, ⟨g0, g1, g2, g3, g4, g5, g6⟩⟩ := hl.four
          clear hy c_bT
          go_wp2_with fail
          refine (cells_pm q0 me _ hq0 ht1 ⟨hm0, by omega⟩).mono ?_
          rintro e w6 ⟨cc, rfl, hcc, hx⟩
          replace hl := hl.extL hx hP.lt
          replace bT := bT.ext hx hP.lt
          replace hK := hK.trans (Keep.of_ext hx hP.lt hP.le)
          replace hP := hP.ext hx
          clear a0 a1 a2 a3 a4 a5 a6 e0 e1 e2 e3 e4 e5 e6 f0 f1 f2 f3 f4 f5 f6 g0 g1 g2 g3 g4 g5 g6 hx
          have hlw2 := Lib.hid hP.left
          have hOh := Lib.hid hO
          clear hO
          go_wp2_with fail
          refine ⟨⟨n, S3, hP, hK, bT, hl, hOh, by omega⟩, ?_⟩
          rw [hlw.out, hlw2.out]
          omega
end Go.Proofs.YtpcohbpeglledaaGreat
/-
  The fast lock: reading a register till it tells 0, both sides; writing it unless it is over.
-/
namespace Kv
theorem zeroP_succ (r : Reg) (me : Int) (n : Nat) : zeroP r me (n + 1) = (regR r me).bind fun x => if x = 0 then .ret () else zeroP r me n := rfl
end Kv
namespace Go.Proofs.YtpcohbpeglledaaGreat
open Go.RowKit Kv
set_option maxRecDepth 100000 in
set_option maxHeartbeats 1000000 in
theorem fzero_r (B p D : Nat) (o : Bool) (S : TS) (r : Reg) (me : Int) (w : World) (h : RAt B w p o S) (hr : r.ok) (hm0 : 0 ≤ me) (hmr : me < r.n) (ht : r.told me) (hD : o = false → S.left < D) :
    Calls Tryz.prog 175 #[.pointer (some ⟨p, 0, none⟩), encR r, .int .i64 me] w (RPost encU B p w (zeroP r me D) o S) := by
  generalize hR : RPost encU B p w (zeroP r me D) o S = R
  have hO : ROwes R encU B p w (zeroP r me D) o S := hR ▸ rowes _ _ _ _ _ _ _
  clear hR
  unfold encR
  have hK := Keep.refl [3, 4, 5] B p w
  have hP := h
  have b1 := hP.held (.cells #[.int .i64 r.kind, .int .i64 r.base, .int .i64 r.loc, .int .i64 r.n, .int .i64 r.wr, .int .i64 r.rd, .int .i64 r.top] 77)
  replace hK := hK.trans (Keep.alloc (.cells #[.int .i64 r.kind, .int .i64 r.base, .int .i64 r.loc, .int .i64 r.n, .int .i64 r.wr, .int .i64 r.rd, .int .i64 r.top] 77) hP.lt hP.le)
  replace hP := hP.alloc (.cells #[.int .i64 r.kind, .int .i64 r.base, .int .i64 r.loc, .int .i64 r.n, .int .i64 r.wr, .int .i64 r.rd, .int .i64 r.top] 77)
  have c_b1 := b1.cells
  clear h
  go_enter Tryz.func175, Tryz.ntmps175
  go_wp2_with fail
  clear c_b1
  generalize hbb : w.heap.size = b at *
  generalize World.alloc _ _ = W0 at *
  have hOh := Lib.hid hO
  clear hO hbb
  go_loopw [] (fun wr => ∃ (n : Nat) (o2 : Bool) (S2 : TS), RAt B wr p o2 S2 ∧ KeepR B p w wr ∧ HeldR wr p b (.cells #[.int .i64 r.kind, .int .i64 r.base, .int .i64 r.loc, .int .i64 r.n, .int .i64 r.wr, .int .i64 r.rd, .int .i64 r.top] 77) ∧ Hid (ROwes R encU B p w (zeroP r me n) o2 S2) ∧ (o2 = false → S2.left < n)) (fun wr => leftR wr p)
  case atStart => exact ⟨D, o, S, hP, hK, b1, hOh, hD⟩
  case round =>
    clear hP hK b1 hOh hD
    obtain ⟨n, o2, S2, hP, hK, b1, hO, hD⟩ := hrel
    replace hO := hO.out
    have hlw := Lib.hid hP.leftR
    obtain ⟨_, _, _, _, _, hcc⟩ := hP.cell
    cases o2 with
    | true =>
      have hf : R (.returned (encU ())) wr := hO.over () hP hK
      clear hO hP hK hD b1
      go_wp2_with fail
      first | exact hf | (refine bodyPost_ret (results_none rfl _ _ _) rfl ?_; exact hf)
    | false =>
      have hD := hD rfl
      cases n with
      | zero => omega
      | succ n =>
        rw [zeroP_succ] at hO
        have c_b1 := b1.cells
        have hOh := Lib.hid hO
        clear hO
        go_wp2_with fail
        replace hO := hOh.out
        clear hcc c_b1 hOh
        refine rstepL hO hK (reg_read_r B p false S2 r me _ hP hr ⟨hm0, hmr⟩) ?_
        clear hO hK hP
        intro x o3 S3 w4 hlf hlt hP hk hK hO
        replace b1 := b1.keep hk
        clear hk
        by_cases hx : x = 0
        · have dx : (x == 0) = true := by simpa using hx
          rw [if_pos hx] at hO
          have hf : R (.returned (encU ())) w4 := hO.ret hP hK
          clear hO hP hK hx b1
          go_wp2_with fail
          first | exact hf | (refine bodyPost_ret (results_none rfl _ _ _) rfl ?_; exact hf)
        · have dx : (x == 0) = false := by simpa using hx
          rw [if_neg hx] at hO
          clear hx
          have hlw2 := Lib.hid hP.leftR
          have hOh := Lib.hid hO
          clear hO
          go_wp2_with fail
          refine ⟨⟨n, o3, S3, hP, hK, b1, hOh, fun h => ?_⟩, ?_⟩
          · have := (hlt h).2 (asks_regR _ _ ht)
            omega
          · rw [hlw.out, hlw2.out]
            cases o3 with
            | true => simp; omega
            | false =>
              have := (hlt rfl).2 (asks_regR _ _ ht)
              simp
              omega
set_option maxRecDepth 100000 in
theorem fset_r (B p : Nat) (o : Bool) (S : TS) (r : Reg) (me v : Int) (w : World) (h : RAt B w p o S) (hr : r.ok) (hm : 0 ≤ me ∧ me < r.n) :
    Calls Tryz.prog 119 #[.pointer (some ⟨p, 0, none⟩), encR r, .int .i64 me, .int .i64 v] w (RPost encU B p w (regW r me v) o S) := by
  generalize hR : RPost encU B p w (regW r me v) o S = R
  have hO : ROwes R encU B p w (regW r me v) o S := hR ▸ rowes _ _ _ _ _ _ _
  clear hR
  unfold encR
  have hK := Keep.refl [3, 4, 5] B p w
  have hP := h
  have b1 := hP.held (.cells #[.int .i64 r.kind, .int .i64 r.base, .int .i64 r.loc, .int .i64 r.n, .int .i64 r.wr, .int .i64 r.rd, .int .i64 r.top] 77)
  replace hK := hK.trans (Keep.alloc (.cells #[.int .i64 r.kind, .int .i64 r.base, .int .i64 r.loc, .int .i64 r.n, .int .i64 r.wr, .int .i64 r.rd, .int .i64 r.top] 77) hP.lt hP.le)
  replace hP := hP.alloc (.cells #[.int .i64 r.kind, .int .i64 r.base, .int .i64 r.loc, .int .i64 r.n, .int .i64 r.wr, .int .i64 r.rd, .int .i64 r.top] 77)
  have c_b1 := b1.cells
  clear h
  obtain ⟨_, _, _, _, _, hcc⟩ := hP.cell
  have hOh := Lib.hid hO
  clear hO
  go_enter Tryz.func119, Tryz.ntmps119
  cases o with
  | true =>
    have hPh := Lib.hid hP
    have hKh := Lib.hid hK
    clear hP hK
    go_wp2_with fail
    have hf : R (.returned (encU ())) _ := hOh.out.over () hPh.out hKh.out
    first | exact hf | (refine bodyPost_ret (results_none rfl _ _ _) rfl ?_; exact hf)
  | false =>
    go_wp2_with fail
    replace hO := hOh.out
    clear hOh hcc c_b1 b1
    refine rlast hO hK (reg_write_r B p false S r me v _ hP hr hm) ?_
    clear hO hK hP
    intro u o2 S2 w3 hP hk hK hO
    have hf : R (.returned (encU u)) w3 := hO.ret hP hK
    clear hO hP hK hk
    go_wp2_with fail
    first | exact hf | (refine bodyPost_ret (results_none rfl _ _ _) rfl ?_; exact hf)
set_option maxRecDepth 100000 in
set_option maxHeartbeats 1000000 in
theorem fwait_p (B p D : Nat) (S : TS) (r : Reg) (me : Int) (w : World) (h : Plays B w p S) (hr : r.ok) (hm0 : 0 ≤ me) (hmr : me < r.n) (ht : r.told me) (hD : S.left < D) :
    Calls Tryz.prog 116 #[.pointer (some ⟨p, 0, none⟩), encR r, .int .i64 me] w (Post encB B p w (((zeroP r me D).bind fun _ => .ret true).run S)) := by
  generalize hR : Post encB B p w (((zeroP r me D).bind fun _ => .ret true).run S) = R
  have hO : Owes R encB B p w (((zeroP r me D).bind fun _ => .ret true).run S) := hR ▸ owes _ _ _ _ _
  clear hR
  have hCm := fun w => cells_pm r me w hr ht ⟨hm0, hmr⟩
  have hRd := fun S w (h : Plays B w p S) => reg_read_p B p S r me w h hr ⟨hm0, hmr⟩
  unfold encR at hCm hRd ⊢
  have hK := Keep.refl [2, 3, 4] B p w
  have hP := h
  have b1 := hP.held (.cells #[.int .i64 r.kind, .int .i64 r.base, .int .i64 r.loc, .int .i64 r.n, .int .i64 r.wr, .int .i64 r.rd, .int .i64 r.top] 77)
  replace hK := hK.trans (Keep.alloc (.cells #[.int .i64 r.kind, .int .i64 r.base, .int .i64 r.loc, .int .i64 r.n, .int .i64 r.wr, .int .i64 r.rd, .int .i64 r.top] 77) hP.lt hP.le)
  replace hP := hP.alloc (.cells #[.int .i64 r.kind, .int .i64 r.base, .int .i64 r.loc, .int .i64 r.n, .int .i64 r.wr, .int .i64 r.rd, .int .i64 r.top] 77)
  have c_b1 := b1.cells
  clear h
  have hRh := Lib.hid hRd
  clear hRd
  go_enter Tryz.func116, Tryz.ntmps116
  go_wp2_with fail
  clear c_b1
  generalize hbb : w.heap.size = b at *
  generalize World.alloc _ _ = W0 at *
  have hOh := Lib.hid hO
  clear hO hbb
  go_loopw [] (fun wr => ∃ (n : Nat) (S2 : TS), Plays B wr p S2 ∧ KeepP B p w wr ∧ HeldP wr p b (.cells #[.int .i64 r.kind, .int .i64 r.base, .int .i64 r.loc, .int .i64 r.n, .int .i64 r.wr, .int .i64 r.rd, .int .i64 r.top] 77) ∧ Hid (Owes R encB B p w (((zeroP r me n).bind fun _ => .ret true).run S2)) ∧ S2.left < n) (fun wr => leftW 1 3 wr p)
  case atStart => exact ⟨D, S, hP, hK, b1, hOh, hD⟩
  case round =>
    clear hP hK b1 hOh hD
    obtain ⟨n, S2, hP, hK, b1, hO, hD⟩ := hrel
    replace hO := hO.out
    have hlw := Lib.hid hP.left
    cases n with
    | zero => omega
    | succ n =>
      rw [zeroP_bind] at hO
      have c_b1 := b1.cells
      have hOh := Lib.hid hO
      clear hO
      go_wp2_with fail
      replace hO := hOh.out
      clear c_b1 hOh
      refine tstepL hO hK (hRh.out S2 _ hP) (fun _ h => ⟨rfl, h⟩) ?_
      clear hO hK hP
      intro x S3 w4 _ hlf hP hk hK hO
      replace hlf := hlf (asks_regR _ _ ht)
      replace b1 := b1.keep hk
      clear hk
      by_cases hx : x = 0
      · have dx : (x != 0) = false := by simpa using hx
        rw [if_pos hx] at hO
        have hf : R (.returned (encB true)) w4 := hO.done (v := true) hP hK
        clear hO hP hK hx b1
        go_wp2_with fail
        first | exact hf | (go_ret; exact hf)
      · have dx : (x != 0) = true := by simpa using hx
        rw [if_neg hx] at hO
        clear hx
        have c_b1 := b1.cells
        have hOh := Lib.hid hO
        clear hO
        go_wp2_with fail
        refine (hCm _).mono ?_
        rintro e w6 ⟨cc, rfl, hcc, hx⟩
        replace b1 := b1.ext hx hP.lt
        replace hK := hK.trans (Keep.of_ext hx hP.lt hP.le)
        replace hP := hP.ext hx
        clear hx c_b1
        have hlw2 := Lib.hid hP.left
        go_wp2_with fail
        refine ⟨⟨n, S3, hP, hK, b1, hOh, by omega⟩, ?_⟩
        rw [hlw.out, hlw2.out]
        omega
set_option maxRecDepth 100000 in
theorem fwait_z (B p D : Nat) (S : TS) (r : Reg) (me : Int) (w : World) (h : Plays B w p S) (hr : r.ok) (hm0 : 0 ≤ me) (hmr : me < r.n) (hz : (regR r me).run S = (some 0, S)) :
    Calls Tryz.prog 116 #[.pointer (some ⟨p, 0, none⟩), encR r, .int .i64 me] w (Post encB B p w (((zeroP r me (D + 1)).bind fun _ => .ret true).run S)) := by
  generalize hR : Post encB B p w (((zeroP r me (D + 1)).bind fun _ => .ret true).run S) = R
  have hO : Owes R encB B p w (((zeroP r me (D + 1)).bind fun _ => .ret true).run S) := hR ▸ owes _ _ _ _ _
  clear hR
  have hRd := fun S w (h : Plays B w p S) => reg_read_p B p S r me w h hr ⟨hm0, hmr⟩
  unfold encR at hRd ⊢
  have hK := Keep.refl [2, 3, 4] B p w
  have hP := h
  have b1 := hP.held (.cells #[.int .i64 r.kind, .int .i64 r.base, .int .i64 r.loc, .int .i64 r.n, .int .i64 r.wr, .int .i64 r.rd, .int .i64 r.top] 77)
  replace hK := hK.trans (Keep.alloc (.cells #[.int .i64 r.kind, .int .i64 r.base, .int .i64 r.loc, .int .i64 r.n, .int .i64 r.wr, .int .i64 r.rd, .int .i64 r.top] 77) hP.lt hP.le)
  replace hP := hP.alloc (.cells #[.int .i64 r.kind, .int .i64 r.base, .int .i64 r.loc, .int .i64 r.n, .int .i64 r.wr, .int .i64 r.rd, .int .i64 r.top] 77)
  have c_b1 := b1.cells
  clear h
  have hRh := Lib.hid hRd
  have hzh := Lib.hid hz
  clear hRd hz
  go_enter Tryz.func116, Tryz.ntmps116
  go_wp2_with fail
  clear c_b1
  generalize hbb : w.heap.size = b at *
  generalize World.alloc _ _ = W0 at *
  have hOh := Lib.hid hO
  clear hO hbb
  go_loopw [] (fun wr => W0 = wr) (fun _ => 0)
  case atStart => rfl
  case round =>
    subst hrel
    have hO := hOh.out
    rw [zeroP_bind] at hO
    have c_b1 := b1.cells
    have hOk := Lib.hid hO
    clear hO hOh
    go_wp2_with fail
    replace hO := hOk.out
    clear c_b1 hOk
    refine tstep hO hK (hRh.out S _ hP) (fun _ h => ⟨rfl, h⟩) ?_
    clear hO hK hP
    intro x S3 w4 hr3 hP hk hK hO
    rw [hzh.out] at hr3
    obtain ⟨rfl, rfl⟩ : 0 = x ∧ S = S3 := by simpa using hr3
    rw [if_pos rfl] at hO
    have hf : R (.returned (encB true)) w4 := hO.done (v := true) hP hK
    clear hO hP hK b1 hk hr3
    go_wp2_with fail
    first | exact hf | (go_ret; exact hf)
set_option maxRecDepth 100000 in
theorem fzero_z (B p D : Nat) (o : Bool) (S : TS) (r : Reg) (me : Int) (w : World) (h : RAt B w p o S) (hr : r.ok) (hm0 : 0 ≤ me) (hmr : me < r.n) (hz : o = false → (regR r me).run S = (some 0, S)) :
    Calls Tryz.prog 175 #[.pointer (some ⟨p, 0, none⟩), encR r, .int .i64 me] w (RPost encU B p w (zeroP r me (D + 1)) o S) := by
  generalize hR : RPost encU B p w (zeroP r me (D + 1)) o S = R
  have hO : ROwes R encU B p w (zeroP r me (D + 1)) o S := hR ▸ rowes _ _ _ _ _ _ _
  clear hR
  have hRd := fun w (h : RAt B w p false S) => reg_read_r B p false S r me w h hr ⟨hm0, hmr⟩
  unfold encR at hRd ⊢
  have hK := Keep.refl [3, 4, 5] B p w
  have hP := h
  have b1 := hP.held (.cells #[.int .i64 r.kind, .int .i64 r.base, .int .i64 r.loc, .int .i64 r.n, .int .i64 r.wr, .int .i64 r.rd, .int .i64 r.top] 77)
  replace hK := hK.trans (Keep.alloc (.cells #[.int .i64 r.kind, .int .i64 r.base, .int .i64 r.loc, .int .i64 r.n, .int .i64 r.wr, .int .i64 r.rd, .int .i64 r.top] 77) hP.lt hP.le)
  replace hP := hP.alloc (.cells #[.int .i64 r.kind, .int .i64 r.base, .int .i64 r.loc, .int .i64 r.n, .int .i64 r.wr, .int .i64 r.rd, .int .i64 r.top] 77)
  have c_b1 := b1.cells
  clear h
  have hRh := Lib.hid hRd
  have hzh := Lib.hid hz
  clear hRd hz
  go_enter Tryz.func175, Tryz.ntmps175
  go_wp2_with fail
  clear c_b1
  generalize hbb : w.heap.size = b at *
  generalize World.alloc _ _ = W0 at *
  have hOh := Lib.hid hO
  clear hO hbb
  go_loopw [] (fun wr => W0 = wr) (fun _ => 0)
  case atStart => rfl
  case round =>
    subst hrel
    have hO := hOh.out
    clear hOh
    obtain ⟨_, _, _, _, _, hcc⟩ := hP.cell
    cases o with
    | true =>
      have hf : R (.returned (encU ())) W0 := hO.over () hP hK
      clear hO hP hK b1 hzh hRh
      go_wp2_with fail
      first | exact hf | (refine bodyPost_ret (results_none rfl _ _ _) rfl ?_; exact hf)
    | false =>
      rw [zeroP_succ] at hO
      have c_b1 := b1.cells
      have hOk := Lib.hid hO
      clear hO
      go_wp2_with fail
      replace hO := hOk.out
      clear c_b1 hOk hcc
      refine (hRh.out _ hP).mono ?_
      rintro e w4 ⟨x, o1, S3, rfl, hRef, hP4, hk⟩
      replace hO := hO.then hRef
      have hr3 := hRef.outcome
      rw [hzh.out (by trivial)] at hr3
      cases o1 with
      | true => simp at hr3
      | false =>
        obtain ⟨rfl, rfl⟩ : 0 = x ∧ S = S3 := by simpa using hr3
        rw [if_pos rfl] at hO
        have hf : R (.returned (encU ())) w4 := hO.ret hP4 (hK.trans hk)
        clear hO hP hK b1 hk hr3 hP4 hRef hzh hRh
        go_wp2_with fail
        first | exact hf | (refine bodyPost_ret (results_none rfl _ _ _) rfl ?_; exact hf)
end Go.Proofs.YtpcohbpeglledaaGreat
/-
  The fast lock: releasing, both sides.
-/
namespace Go.Proofs.YtpcohbpeglledaaGreat
open Go.RowKit Kv
set_option maxRecDepth 100000 in
set_option maxHeartbeats 1000000 in
theorem fastrel_r (B p N : Nat) (o : Bool) (S : TS) (alg mode base loc room : Int) (m : Nat) (rs : List Reg) (w : World) (h : RAt B w p o S) (h1 : 1 ≤ N) (h2 : N ≤ 8) (hm1 : m < N) (hl : layM (fastWants N) N mode base loc = some rs)
    (hok : ∀ r ∈ rs, r.ok ∧ r.n = N) (hn0 : S.nts.length = 0) :
    Calls Tryz.prog 52 #[.pointer (some ⟨p, 0, none⟩), .agg #[.int .i64 alg, .int .i64 N, .int .i64 mode, .int .i64 base, .int .i64 loc, .int .i64 room], .int .i64 m] w (RPost encU B p w (fastR rs m) o S) := by
  have hlen := layM_len hl
  rw [fastWants_len] at hlen
  generalize hR : RPost encU B p w (fastR rs m) o S = R
  have hO : ROwes R encU B p w (fastR rs m) o S := hR ▸ rowes _ _ _ _ _ _ _
  clear hR
  have hK := Keep.refl [3, 4, 5] B p w
  have hP := h
  have b1 := hP.held (.cells #[.int .i64 alg, .int .i64 N, .int .i64 mode, .int .i64 base, .int .i64 loc, .int .i64 room] 52)
  replace hK := hK.trans (Keep.alloc (.cells #[.int .i64 alg, .int .i64 N, .int .i64 mode, .int .i64 base, .int .i64 loc, .int .i64 room] 52) hP.lt hP.le)
  replace hP := hP.alloc (.cells #[.int .i64 alg, .int .i64 N, .int .i64 mode, .int .i64 base, .int .i64 loc, .int .i64 room] 52)
  have c_b1 := b1.cells
  clear h
  unfold fastR at hO
  obtain ⟨r1, hr1⟩ : ∃ r, rs[1]? = some r := ⟨_, List.getElem?_eq_getElem (by omega)⟩
  obtain ⟨rm, hrm⟩ : ∃ r, rs[2 + m]? = some r := ⟨_, List.getElem?_eq_getElem (by omega)⟩
  have hok1 := (hok _ (List.mem_of_getElem? hr1)).1
  have hm1' : (m : Int) < r1.n := by rw [(hok _ (List.mem_of_getElem? hr1)).2]; omega
  have hokm := (hok _ (List.mem_of_getElem? hrm)).1
  have hmm : (m : Int) < rm.n := by rw [(hok _ (List.mem_of_getElem? hrm)).2]; omega
  rw [regAt_of (show (1 : Int) = ((1 : Nat) : Int) from rfl) hr1, regAt_of (show (2 : Int) + (m : Int) = ((2 + m : Nat) : Int) from by omega) hrm] at hO
  have hw1 := IntWalk.i64_in ((2 : Int) + (m : Int)) (by omega)
  have hi2 : (2 : Int) + (m : Int) < (rs.length : Int) := by omega
  have hi0 : 0 ≤ (2 : Int) + (m : Int) := by omega
  have hi1 : ((2 : Int) + (m : Int)).toNat = 2 + m := by omega
  have hj2 : (1 : Nat) < rs.length := by omega
  have hj3 : (1 : Int) < (rs.length : Int) := by omega
  have hrh := Lib.hid (And.intro hr1 hrm)
  have hlM := Lib.hid hl
  clear hlen hr1 hrm hok hl
  go_enter Tryz.func52, Tryz.ntmps52
  go_wp2_with fail
  refine (fastregs_r alg mode base loc room N rs _ h1 h2 hlM.out).mono ?_
  rintro e w1 ⟨b, c, rfl, hge, hb, hcells, q1, q2, hx⟩
  have hreg : RegsAt [3, 4, 5] w1 p b rs := ⟨hb, hP.fresh hx hge, hcells⟩
  replace hK := hK.trans (Keep.of_ext hx hP.lt hP.le)
  replace hP := hP.ext hx
  clear hx hcells hge hb c_b1 b1
  go_wp2_with fail
  refine rstepN (notes_nt 5) hO hK (note_r B p o S 5 _ hP (by unfold maxAns; omega)) ?_
  clear hO hK hP
  intro u o1 S1 w2 _ _ _ hP hk hK hO
  replace hreg := hreg.keep hk
  clear hk
  obtain ⟨a0, a1, a2, a3, a4, a5, a6⟩ := hreg.nth hrh.out.1
  go_wp2_with fail
  clear a0 a1 a2 a3 a4 a5 a6
  refine rstepL hO hK (fset_r B p o1 S1 r1 m 0 _ hP hok1 ⟨by omega, hm1'⟩) ?_
  clear hO hK hP
  intro u o2 S2 w3 _ _ hP hk hK hO
  replace hreg := hreg.keep hk
  clear hk
  obtain ⟨a0, a1, a2, a3, a4, a5, a6⟩ := hreg.nth hrh.out.2
  go_wp2_with fail
  clear a0 a1 a2 a3 a4 a5 a6 hrh hreg
  refine rlast hO hK (fset_r B p o2 S2 rm m 0 _ hP hokm ⟨by omega, hmm⟩) ?_
  clear hO hK hP
  intro u o3 S3 w4 hP hk hK hO
  have hf : R (.returned (encU u)) w4 := hO.ret hP hK
  clear hO hP hK hk
  go_wp2_with fail
  first | exact hf | (refine bodyPost_ret (results_none rfl _ _ _) rfl ?_; exact hf)
set_option maxRecDepth 100000 in
set_option maxHeartbeats 1000000 in
theorem fastrel_p (B p N : Nat) (S : TS) (alg mode base loc room : Int) (m : Nat) (rs : List Reg) (w : World) (h : Plays B w p S) (h1 : 1 ≤ N) (h2 : N ≤ 8) (hm1 : m < N) (hl : layM (fastWants N) N mode base loc = some rs)
    (hok : ∀ r ∈ rs, r.ok ∧ r.n = N) (hn0 : S.nts.length = 0) :
    Calls Tryz.prog 51 #[.pointer (some ⟨p, 0, none⟩), .agg #[.int .i64 alg, .int .i64 N, .int .i64 mode, .int .i64 base, .int .i64 loc, .int .i64 room], .int .i64 m] w (Post encU B p w ((fastR rs m).run S)) := by
  have hlen := layM_len hl
  rw [fastWants_len] at hlen
  generalize hR : Post encU B p w ((fastR rs m).run S) = R
  have hO : Owes R encU B p w ((fastR rs m).run S) := hR ▸ owes _ _ _ _ _
  clear hR
  have hK := Keep.refl [2, 3, 4] B p w
  have hP := h
  have b1 := hP.held (.cells #[.int .i64 alg, .int .i64 N, .int .i64 mode, .int .i64 base, .int .i64 loc, .int .i64 room] 52)
  replace hK := hK.trans (Keep.alloc (.cells #[.int .i64 alg, .int .i64 N, .int .i64 mode, .int .i64 base, .int .i64 loc, .int .i64 room] 52) hP.lt hP.le)
  replace hP := hP.alloc (.cells #[.int .i64 alg, .int .i64 N, .int .i64 mode, .int .i64 base, .int .i64 loc, .int .i64 room] 52)
  have c_b1 := b1.cells
  clear h
  unfold fastR at hO
  go_enter Tryz.func51, Tryz.ntmps51
  go_wp2_with fail
  refine (fastlay_p alg mode base loc room m N rs _ h1 h2 hl (by omega) (by omega)).mono ?_
  rintro e w1 ⟨b, c, rfl, hge, hb, hcells, q1, q2, hx⟩
  have hreg : RegsAt [2, 3, 4] w1 p b rs := ⟨hb, hP.fresh hx hge, hcells⟩
  replace hK := hK.trans (Keep.of_ext hx hP.lt hP.le)
  replace hP := hP.ext hx
  obtain ⟨r1, hr1⟩ : ∃ r, rs[1]? = some r := ⟨_, List.getElem?_eq_getElem (by omega)⟩
  obtain ⟨rm, hrm⟩ : ∃ r, rs[2 + m]? = some r := ⟨_, List.getElem?_eq_getElem (by omega)⟩
  have hok1 := (hok _ (List.mem_of_getElem? hr1)).1
  have hm1' : (m : Int) < r1.n := by rw [(hok _ (List.mem_of_getElem? hr1)).2]; omega
  have hokm := (hok _ (List.mem_of_getElem? hrm)).1
  have hmm : (m : Int) < rm.n := by rw [(hok _ (List.mem_of_getElem? hrm)).2]; omega
  rw [regAt_of (show (1 : Int) = ((1 : Nat) : Int) from rfl) hr1, regAt_of (show (2 : Int) + (m : Int) = ((2 + m : Nat) : Int) from by omega) hrm] at hO
  have hw1 := IntWalk.i64_in ((2 : Int) + (m : Int)) (by omega)
  have hi2 : (2 : Int) + (m : Int) < (rs.length : Int) := by omega
  have hi0 : 0 ≤ (2 : Int) + (m : Int) := by omega
  have hi1 : ((2 : Int) + (m : Int)).toNat = 2 + m := by omega
  have hj2 : (1 : Nat) < rs.length := by omega
  have hj3 : (1 : Int) < (rs.length : Int) := by omega
  have hrh := Lib.hid (And.intro hr1 hrm)
  clear hx hcells hge hb b1 c_b1 hlen hr1 hrm hl hok
  go_wp2_with fail
  refine tstepN (notes_nt 5) hO hK (noteO hP (by unfold maxAns; omega)) (fun _ h => ⟨rfl, h⟩) ?_
  clear hO hK hP
  intro u S1 w2 _ _ _ hP hk hK hO
  replace hreg := hreg.keep hk
  clear hk
  obtain ⟨a0, a1, a2, a3, a4, a5, a6⟩ := hreg.nth hrh.out.1
  go_wp2_with fail
  clear a0 a1 a2 a3 a4 a5 a6
  refine tstepN (notes_regW _ _ _) hO hK (reg_write_p B p S1 r1 m 0 _ hP hok1 ⟨by omega, hm1'⟩) (fun _ h => ⟨rfl, h⟩) ?_
  clear hO hK hP
  intro u S2 w3 _ _ _ hP hk hK hO
  replace hreg := hreg.keep hk
  clear hk
  obtain ⟨a0, a1, a2, a3, a4, a5, a6⟩ := hreg.nth hrh.out.2
  go_wp2_with fail
  clear a0 a1 a2 a3 a4 a5 a6 hrh hreg
  refine tlast hO hK (reg_write_p B p S2 rm m 0 _ hP hokm ⟨by omega, hmm⟩) (fun _ h => ⟨rfl, h⟩) ?_
  clear hO hK hP
  intro u S3 w4 hr hP hk hK hO
  have hf := hO.done hP hK
  clear hO hP hK hr hk
  go_wp2_with fail
  first | exact hf | (refine bodyPost_ret (results_none rfl _ _ _) rfl ?_; exact hf)
end Go.Proofs.YtpcohbpeglledaaGreat
/-
  A scope in which the run jumps to several labels.
-/
namespace Kv
open Go
/-- So many values, one behind the other. -/
def Fr : Nat → (List Value → Prop) → Prop
  | 0, G => G []
  | n + 1, G => ∀ u : Value, Fr n fun l => G (u :: l)
theorem fr_list : ∀ (n : Nat) (G : List Value → Prop), Fr n G → ∀ l : List Value, l.length = n → G l
  | 0, G, h, [], _ => h
  | n + 1, G, h, u :: l, hl => fr_list n (fun l => G (u :: l)) (h u) l (by simpa using hl)
/-- A frame of so many slots is its slots. -/
theorem fr_act (n : Nat) (G : Act → Prop) (h : Fr n fun l => G ⟨l.toArray, []⟩) (a : Act) (hd : a.defers = []) (hs : a.tmps.size = n) : G a := by
  obtain ⟨⟨l⟩, d⟩ := a
  obtain rfl : d = [] := hd
  exact fr_list n (fun l => G ⟨l.toArray, []⟩) h l (by simpa using hs)
/-- As Q; by a goto to label l: what J asks there. -/
def Jumps (J : Nat → Act → World → Prop) (Q : Exit → Act → World → Prop) : Exit → Act → World → Prop
  | .goto l, a, w => J l a w
  | e, a, w => Q e a w
section
variable {P : Program} {a : Act} {w : World} {J : Nat → Act → World → Prop} {Q : Exit → Act → World → Prop}
@[go_sem] theorem jumps_normal : Jumps J Q .normal a w = Q .normal a w := rfl
@[go_sem] theorem jumps_exit (id : Nat) : Jumps J Q (.exit id) a w = Q (.exit id) a w := rfl
@[go_sem] theorem jumps_ret : Jumps J Q .ret a w = Q .ret a w := rfl
@[go_sem] theorem jumps_panic (c : List PanicEntry) : Jumps J Q (.panic c) a w = Q (.panic c) a w := rfl
@[go_sem] theorem jumps_goto (l : Nat) : Jumps J Q (.goto l) a w = J l a w := rfl
/-- Each label with what holds where it is jumped to, and a measure that each pass lowers. -/
theorem wp_scope_labels {c : Code} (J : Nat → Act → World → Prop) (μ : Nat → Act → World → Nat) (first : c.wp P (Jumps J Q) a w)
    (pass : ∀ l a w, J l a w → ∃ rest, findLabel c l = some rest ∧ rest.wp P (Jumps (fun l' a' w' => J l' a' w' ∧ μ l' a' w' < μ l a w) Q) a w) : (Code.scope c).wp P Q a w := by
  intro b k cs
  have key : ∀ n l a w rest, findLabel c l = some rest → μ l a w = n → J l a w → ∃ e a' w', Q e a' w' ∧ Arrives P (lone (b.at a (.code rest :: .inScope c :: k)) cs w) b k cs e a' w' := by
    intro n
    induction n using Nat.strongRecOn with
    | _ n ih =>
      intro l a w rest hf hn hJ
      obtain ⟨rest', hf', hp⟩ := pass l a w hJ
      obtain rfl : rest = rest' := by rw [hf] at hf'; injection hf'
      obtain ⟨e, a₁, w₁, hq, harr⟩ := hp b (.inScope c :: k) cs
      cases e with
      | normal => exact ⟨.normal, a₁, w₁, hq, Steps.trans harr (.one step_inScope)⟩
      | exit id => exact ⟨.exit id, a₁, w₁, hq, fun k' hk => harr k' (by simp [exitTo, hk])⟩
      | goto l' =>
        obtain ⟨hJ', hlt⟩ := hq
        obtain ⟨rest2, hf2, _⟩ := pass l' a₁ w₁ hJ'
        have hg : gotoIn l' (.inScope c :: k) = some (.code rest2 :: .inScope c :: k) := by simp [gotoIn, hf2]
        obtain ⟨e₂, a₂, w₂, hq₂, harr₂⟩ := ih _ (by omega) l' a₁ w₁ rest2 hf2 rfl hJ'
        exact ⟨e₂, a₂, w₂, hq₂, .of_steps (harr _ hg) harr₂⟩
      | ret => exact ⟨_, a₁, w₁, hq, harr⟩
      | panic ch => exact ⟨_, a₁, w₁, hq, harr⟩
      | outgrown => exact ⟨_, a₁, w₁, hq, harr⟩
  obtain ⟨e, a₁, w₁, hq, harr⟩ := first b (.inScope c :: k) cs
  cases e with
  | normal => exact ⟨.normal, a₁, w₁, hq, .head step_scope (Steps.trans harr (.one step_inScope))⟩
  | exit id => exact ⟨.exit id, a₁, w₁, hq, fun k' hk => .head step_scope (harr k' (by simp [exitTo, hk]))⟩
  | goto l' =>
    obtain ⟨rest2, hf2, _⟩ := pass l' a₁ w₁ hq
    have hg : gotoIn l' (.inScope c :: k) = some (.code rest2 :: .inScope c :: k) := by simp [gotoIn, hf2]
    obtain ⟨e₂, a₂, w₂, hq₂, harr₂⟩ := key _ l' a₁ w₁ rest2 hf2 rfl hq
    exact ⟨e₂, a₂, w₂, hq₂, .of_steps (.head step_scope (harr _ hg)) harr₂⟩
  | ret => exact ⟨_, a₁, w₁, hq, .of_steps (.one step_scope) harr⟩
  | panic ch => exact ⟨_, a₁, w₁, hq, .of_steps (.one step_scope) harr⟩
  | outgrown => exact ⟨_, a₁, w₁, hq, .of_steps (.one step_scope) harr⟩
/-- As above; who runs into a label holds what holds where it is jumped to. -/
theorem wp_scope_fall {c : Code} (J : Nat → Act → World → Prop) (μ : Nat → Act → World → Nat)
    (pass : ∀ l a w, J l a w → ∃ rest, findLabel c l = some (.seq .skip rest) ∧ rest.wp P (Jumps (fun l' a' w' => J l' a' w' ∧ μ l' a' w' < μ l a w) Q) a w)
    (first : (∀ l rest a w, findLabel c l = some (.seq .skip rest) → J l a w → rest.wp P (Jumps J Q) a w) → c.wp P (Jumps J Q) a w) : (Code.scope c).wp P Q a w := by
  refine wp_scope_labels J μ (first fun l rest a w hf hJ => ?_) fun l a w hJ => ?_
  · obtain ⟨rest', hf', hp⟩ := pass l a w hJ
    obtain rfl : rest = rest' := by rw [hf] at hf'; simpa using hf'
    refine Code.wp_mono (fun e a2 w2 hq => ?_) hp
    cases e with
    | goto l' => exact hq.1
    | normal => exact hq
    | exit id => exact hq
    | ret => exact hq
    | panic ch => exact hq
    | outgrown => exact hq
  · obtain ⟨rest, hf, hp⟩ := pass l a w hJ
    exact ⟨_, hf, wp_seq (wp_skip hp)⟩
end
end Kv
/-
  The fast lock's tries, as the program walks them; steps that tell all.
-/
namespace Kv
theorem fastTry_bind {β : Type} (N : Nat) (l : List Reg) (n me : Int) (k : Nat) (f : Unit → Prog β) : (fastTry N l n me (k + 1)).bind f =
    (regW (regAt l (2 + me)) me 1).bind fun _ => (regW (regAt l 0) me (me + 1)).bind fun _ => (regR (regAt l 1) me).bind fun y =>
      if y = 0 then
        (regW (regAt l 1) me (me + 1)).bind fun _ => (regR (regAt l 0) me).bind fun x =>
          if x = me + 1 then f () else
            (regW (regAt l (2 + me)) me 0).bind fun _ => (forP (fun j _ => zeroP (regAt l (2 + j)) me N) (ranksFrom (-1) n.toNat 0) ()).bind fun _ =>
              (regR (regAt l 1) me).bind fun y => if y = me + 1 then f () else (zeroP (regAt l 1) me N).bind fun _ => (fastTry N l n me k).bind f
      else (regW (regAt l (2 + me)) me 0).bind fun _ => (zeroP (regAt l 1) me N).bind fun _ => (fastTry N l n me k).bind f := by
  simp only [fastTry, Prog.bind_assoc]
  congr 1; funext _; congr 1; funext _; congr 1; funext y
  by_cases hy : y = 0
  · simp only [if_pos hy, Prog.bind_assoc]
    congr 1; funext _; congr 1; funext x
    by_cases hx : x = me + 1
    · simp only [if_pos hx]; rfl
    · simp only [if_neg hx, Prog.bind_assoc]
      congr 1; funext _; congr 1; funext _; congr 1; funext z
      by_cases hz : z = me + 1
      · simp only [if_pos hz]; rfl
      · simp only [if_neg hz, Prog.bind_assoc]
  · simp only [if_neg hy, Prog.bind_assoc]
theorem zeroT_bind {β : Type} (r : Reg) (me : Int) (D : Nat) (f : Unit → Prog β) : (zeroP r me D).bind f = ((zeroP r me D).bind fun _ => Prog.ret true).bind fun _ => f () := by
  rw [Prog.bind_assoc]; rfl
theorem zeroT_run {r : Reg} {me : Int} {D : Nat} {S S1 : TS} {v : Bool} (h : ((zeroP r me D).bind fun _ => Prog.ret true).run S = (some v, S1)) : v = true ∧ (zeroP r me D).run S = (some (), S1) := by
  rw [Prog.run_bind] at h
  rcases hr : (zeroP r me D).run S with ⟨o, S2⟩
  rw [hr] at h
  cases o with
  | none => simp [thenR] at h
  | some u =>
    simp only [thenR, Prog.run, Prod.mk.injEq, Option.some.injEq] at h
    exact ⟨h.1.symm, by rw [← h.2]⟩
theorem notes_zeroT (r : Reg) (me : Int) (D : Nat) : ((zeroP r me D).bind fun _ => Prog.ret true).Notes 0 := (notes_zeroP r me D).bind0 fun _ => .ret _ _
end Kv
namespace Go.Proofs.YtpcohbpeglledaaGreat
open Go.RowKit Kv
/-- A step: what it told, what is left of the answers, how many notes there are. -/
theorem tstepA {α β : Type} {B p : Nat} {w0 w : World} {S : TS} {R : Ending → World → Prop} {P : Program} {f : FuncId} {args : Array Value} {K : Ending → World → Prop} {enc : α → Value} {enc' : β → Value} {T : Prog α} {g : α → Prog β} {k : Nat} (hN : T.Notes k)
    (hO : Owes R enc' B p w0 ((T.bind g).run S)) (hB : KeepP B p w0 w) (h : Calls P f args w (Post enc B p w (T.run S))) (hp : ∀ w', R (stopE p) w' → K (stopE p) w')
    (hk : ∀ v S1 w1, T.run S = (some v, S1) → S1.left ≤ S.left → (T.Asks → S1.left < S.left) → S1.nts.length ≤ S.nts.length + k → Plays B w1 p S1 → KeepP B p w w1 → KeepP B p w0 w1 → Owes R enc' B p w0 ((g v).run S1) → K (.returned (enc v)) w1) : Calls P f args w K := by
  refine tstep hO hB h hp fun v S1 w1 hr hP hk1 hk2 hO1 => hk v S1 w1 hr ?_ (fun ha => ha.left hr hP.1) ?_ hP hk1 hk2 hO1
  · have := Prog.run_left T S
    rw [hr] at this
    exact this
  · have := hN.run S
    rw [hr] at this
    exact this
/-- Two objects laid one behind the other. -/
theorem two_laid {B p b : Nat} {w : World} {S : TS} {rs : List Reg} (h : Plays B w p S) (hl : RegsAt [2, 3, 4] w p b rs) (o1 o2 : Obj) :
    HeldP ((w.alloc o1).alloc o2).drew p w.heap.size o1 ∧ HeldP ((w.alloc o1).alloc o2).drew p (w.heap.size + 1) o2 ∧ Plays B ((w.alloc o1).alloc o2).drew p S ∧ KeepP B p w ((w.alloc o1).alloc o2).drew ∧ RegsAt [2, 3, 4] ((w.alloc o1).alloc o2).drew p b rs := by
  have h2 := (h.alloc o1).held o2
  rw [World.size_alloc] at h2
  exact ⟨((h.held o1).alloc o2 (h.alloc o1).lt).drew, h2.drew, ((h.alloc o1).alloc o2).drew, ((Keep.alloc o1 h.lt h.le).trans (Keep.alloc o2 (h.alloc o1).lt (h.alloc o1).le)).drew, hl.extL ((((Ext.refl w).alloc o1).alloc o2).drew) h.lt⟩
end Go.Proofs.YtpcohbpeglledaaGreat
/-
  The fast lock, by the program: acquiring.
-/
namespace Go.Proofs.YtpcohbpeglledaaGreat
open Go.RowKit Kv
set_option maxRecDepth 100000 in
set_option maxHeartbeats 4000000 in
theorem fastacq_p (B p N D : Nat) (S : TS) (alg mode base loc room : Int) (m : Nat) (rs : List Reg) (w : World) (h : Plays B w p S) (h1 : 1 ≤ N) (h2 : N ≤ 8) (hm1 : m < N) (hl : layM (fastWants N) N mode base loc = some rs)
    (hok : ∀ r ∈ rs, r.ok ∧ r.n = N) (htold : ∀ (i : Nat) r, rs[i]? = some r → i ≠ 2 + m → r.told m) (hD : S.left < D) (hn0 : S.nts.length = 0)
    (Z : TS → Prop) (hzw : ∀ rm, rs[2 + m]? = some rm → ∀ S S', (regW rm m 0).run S = (some (), S') → Z S')
    (hzk : ∀ (j : Nat) r, rs[j]? = some r → ∀ S S', (zeroP r m D).run S = (some (), S') → Z S → Z S')
    (hzz : ∀ rm, rs[2 + m]? = some rm → ∀ S, Z S → rm.told m ∨ (regR rm m).run S = (some 0, S)) :
    Calls Tryz.prog 48 #[.pointer (some ⟨p, 0, none⟩), .agg #[.int .i64 alg, .int .i64 N, .int .i64 mode, .int .i64 base, .int .i64 loc, .int .i64 room], .int .i64 m] w (Post encI B p w ((fastA D rs N m).run S)) := by
  have hlen := layM_len hl
  rw [fastWants_len] at hlen
  generalize hR : Post encI B p w ((fastA D rs N m).run S) = R
  have hO : Owes R encI B p w ((fastA D rs N m).run S) := hR ▸ owes _ _ _ _ _
  clear hR
  have hK := Keep.refl [2, 3, 4] B p w
  have hP := h
  have b1 := hP.held (.cells #[.int .i64 alg, .int .i64 N, .int .i64 mode, .int .i64 base, .int .i64 loc, .int .i64 room] 52)
  replace hK := hK.trans (Keep.alloc (.cells #[.int .i64 alg, .int .i64 N, .int .i64 mode, .int .i64 base, .int .i64 loc, .int .i64 room] 52) hP.lt hP.le)
  replace hP := hP.alloc (.cells #[.int .i64 alg, .int .i64 N, .int .i64 mode, .int .i64 base, .int .i64 loc, .int .i64 room] 52)
  have c_b1 := b1.cells
  clear h
  unfold fastA at hO
  obtain ⟨r0, hr0⟩ : ∃ r, rs[0]? = some r := ⟨_, List.getElem?_eq_getElem (by omega)⟩
  obtain ⟨r1, hr1⟩ : ∃ r, rs[1]? = some r := ⟨_, List.getElem?_eq_getElem (by omega)⟩
  obtain ⟨rm, hrm⟩ : ∃ r, rs[2 + m]? = some r := ⟨_, List.getElem?_eq_getElem (by omega)⟩
  have hok0 := (hok _ (List.mem_of_getElem? hr0)).1
  have hm0' : (m : Int) < r0.n := by rw [(hok _ (List.mem_of_getElem? hr0)).2]; omega
  have ht0 := htold 0 r0 hr0 (by omega)
  have hok1 := (hok _ (List.mem_of_getElem? hr1)).1
  have hm1' : (m : Int) < r1.n := by rw [(hok _ (List.mem_of_getElem? hr1)).2]; omega
  have ht1 := htold 1 r1 hr1 (by omega)
  have hokm := (hok _ (List.mem_of_getElem? hrm)).1
  have hmm : (m : Int) < rm.n := by rw [(hok _ (List.mem_of_getElem? hrm)).2]; omega
  have hw2 := IntWalk.i64_in ((m : Int) + 1) (by omega)
  have hrh := Lib.hid (And.intro hr0 (And.intro hr1 hrm))
  have hokh := Lib.hid hok
  have htoldh := Lib.hid htold
  have hlenh := Lib.hid hlen
  have hzwh := Lib.hid (hzw rm hrm)
  have hzkh := Lib.hid hzk
  have hzzh := Lib.hid (hzz rm hrm)
  have hlh := Lib.hid hl
  clear hzw hzk hzz hlen hr0 hr1 hrm hok htold hl
  go_enter Tryz.func48, Tryz.ntmps48
  have hOh := Lib.hid hO
  clear hO
  go_wp2_with fail
  obtain ⟨J0, hJ0⟩ : ∃ J0 : Nat → Nat → Nat → Nat → World → Prop, ∀ x y b cc wr, J0 x y b cc wr ↔ ∃ (k : Nat) (S2 : TS), Plays B wr p S2 ∧ KeepP B p w wr ∧ HeldP wr p x (.cells #[.int .i64 r0.kind, .int .i64 r0.base, .int .i64 r0.loc, .int .i64 r0.n, .int .i64 r0.wr, .int .i64 r0.rd, .int .i64 r0.top] 77) ∧ HeldP wr p y (.cells #[.int .i64 r1.kind, .int .i64 r1.base, .int .i64 r1.loc, .int .i64 r1.n, .int .i64 r1.wr, .int .i64 r1.rd, .int .i64 r1.top] 77) ∧ RegsAt [2, 3, 4] wr p b rs ∧ S2.left < D ∧ S2.nts.length ≤ 1 ∧ S2.left < k ∧ Hid (Owes R encI B p w (((fastTry D rs N m k).bind fun _ => (nt 3).bind fun _ => .ret 0).run S2)) := ⟨_, fun _ _ _ _ _ => Iff.rfl⟩
  obtain ⟨J1, hJ1⟩ : ∃ J1 : World → Prop, ∀ wr, J1 wr ↔ ∃ S2 : TS, Plays B wr p S2 ∧ KeepP B p w wr ∧ S2.nts.length ≤ 1 ∧ Hid (Owes R encI B p w (((nt 3).bind fun _ => .ret (0 : Int)).run S2)) := ⟨_, fun _ => Iff.rfl⟩
  refine wp_scope_fall (fun l a wr => ∃ x y b cc : Nat, a.defers = [] ∧ a.tmps.size = 111 ∧ a.tmps[0]? = some (.pointer (some ⟨p, 0, none⟩)) ∧ a.tmps[2]? = some (.int .i64 m) ∧ a.tmps[9]? = some (.pointer (some ⟨x, 0, none⟩)) ∧ a.tmps[10]? = some (.pointer (some ⟨y, 0, none⟩)) ∧ a.tmps[11]? = some (.slice (some ⟨b, 14, none⟩) N cc) ∧ (l = 0 ∧ J0 x y b cc wr ∨ l = 1 ∧ J1 wr)) (fun l _ wr => if l = 0 then leftW 1 3 wr p + 1 else 0) ?pass ?first
  case pass =>
    clear hP hK b1 hOh hD hn0 c_b1
    rintro l a wq ⟨x, y, b, cc, ha, hs, f0, f2, f9, f10, f11, hrel⟩
    try dsimp only
    refine fr_act 111 (fun a' => a'.tmps[0]? = some (.pointer (some ⟨p, 0, none⟩)) → a'.tmps[2]? = some (.int .i64 m) → a'.tmps[9]? = some (.pointer (some ⟨x, 0, none⟩)) → a'.tmps[10]? = some (.pointer (some ⟨y, 0, none⟩)) → a'.tmps[11]? = some (.slice (some ⟨b, 14, none⟩) N cc) → ∃ rest, findLabel _ l = some (.seq .skip rest) ∧ rest.wp _ _ a' wq) ?_ a ha hs f0 f2 f9 f10 f11
    clear f0 f2 f9 f10 f11
    clear ha hs a
    dsimp only [Fr]
    intro u0 u1 u2 u3 u4 u5 u6 u7 u8 u9 u10 u11 u12 u13 u14 u15 u16 u17 u18 u19 u20 u21 u22 u23 u24 u25 u26 u27 u28 u29 u30 u31 u32 u33 u34 u35 u36 u37 u38 u39 u40 u41 u42 u43 u44 u45 u46 u47 u48 u49 u50 u51 u52 u53 u54 u55 u56 u57 u58 u59 u60 u61 u62 u63 u64 u65 u66 u67 u68 u69 u70 u71 u72 u73 u74 u75 u76 u77 u78 u79 u80 u81 u82 u83 u84 u85 u86 u87 u88 u89 u90 u91 u92 u93 u94 u95 u96 u97 u98 u99 u100 u101 u102 u103 u104 u105 u106 u107 u108 u109 u110 f0 f2 f9 f10 f11
    obtain rfl := Option.some.inj f0
    obtain rfl := Option.some.inj f2
    obtain rfl := Option.some.inj f9
    obtain rfl := Option.some.inj f10
    obtain rfl := Option.some.inj f11
    clear f0 f2 f9 f10 f11
    rcases hrel with ⟨rfl, hrel⟩ | ⟨rfl, hrel⟩
    · rw [hJ0] at hrel
      obtain ⟨k, S2, hP, hK, bx, by', hreg, hD, hn0, hkk, hOh⟩ := hrel
      cases k with
      | zero => omega
      | succ k =>
        replace hO := hOh.out
        clear hOh
        rw [fastTry_bind, regAt_of (show (0 : Int) = ((0 : Nat) : Int) from rfl) hrh.out.1, regAt_of (show (1 : Int) = ((1 : Nat) : Int) from rfl) hrh.out.2.1, regAt_of (show (2 : Int) + (m : Int) = ((2 + m : Nat) : Int) from by omega) hrh.out.2.2] at hO
        have hlw := Lib.hid hP.left
        have hsh : (2 + m) * 7 = 14 + m * 7 := by omega
        have hmN : (m : Int) < (N : Int) := by omega
        have hOh := Lib.hid hO
        clear hO
        refine ⟨_, rfl, ?_⟩
        obtain ⟨a0, a1, a2, a3, a4, a5, a6⟩ := hreg.nth hrh.out.2.2
        rw [hsh] at a0 a1 a2 a3 a4 a5 a6
        go_wp2_with fail
        replace hO := hOh.out
        clear hOh a0 a1 a2 a3 a4 a5 a6
        refine tstepA (notes_regW _ _ _) hO hK (reg_write_p B p S2 rm m 1 _ hP hokm ⟨by omega, hmm⟩) (fun _ h => ⟨rfl, h⟩) ?_
        clear hO hK hP
        intro u S3 w2 hrun hlf hla hnn hP hk hK hO
        replace hD := Nat.lt_of_le_of_lt hlf hD
        replace hn0 : S3.nts.length ≤ 1 := by omega
        replace hreg := hreg.keep hk
        replace bx := bx.keep hk
        replace by' := by'.keep hk
        clear hk
        have hOh := Lib.hid hO
        clear hO
        have c_bx := bx.cells
        go_wp2_with fail
        replace hO := hOh.out
        clear hOh c_bx
        refine tstepA (notes_regW _ _ _) hO hK (reg_write_p B p S3 r0 m _ _ hP hok0 ⟨by omega, hm0'⟩) (fun _ h => ⟨rfl, h⟩) ?_
        clear hO hK hP
        intro u S4 w2 hrun hlf hla hnn hP hk hK hO
        replace hD := Nat.lt_of_le_of_lt hlf hD
        replace hn0 : S4.nts.length ≤ 1 := by omega
        replace hreg := hreg.keep hk
        replace bx := bx.keep hk
        replace by' := by'.keep hk
        clear hk
        have hOh := Lib.hid hO
        clear hO
        have c_by := by'.cells
        go_wp2_with fail
        replace hO := hOh.out
        clear hOh c_by
        refine tstepA (notes_regR _ _) hO hK (reg_read_p B p S4 r1 m _ hP hok1 ⟨by omega, hm1'⟩) (fun _ h => ⟨rfl, h⟩) ?_
        clear hO hK hP
        intro y0 S5 w2 hrun hlf5 hla5 hnn hP hk hK hO
        have hlt5 := hla5 (asks_regR _ _ ht1)
        replace hD := Nat.lt_of_le_of_lt hlf5 hD
        replace hn0 : S5.nts.length ≤ 1 := by omega
        replace hreg := hreg.keep hk
        replace bx := bx.keep hk
        replace by' := by'.keep hk
        have hl5 : S5.left < S2.left := by omega
        clear hk
        clear hlt5 hla5 hlf5
        by_cases hy : y0 = 0
        · have dy : (y0 != 0) = false := by simpa using hy
          rw [if_pos hy] at hO
          clear hy
          have hOh := Lib.hid hO
          clear hO
          have c_by := by'.cells
          go_wp2_with fail
          replace hO := hOh.out
          clear hOh c_by
          refine tstepA (notes_regW _ _ _) hO hK (reg_write_p B p S5 r1 m _ _ hP hok1 ⟨by omega, hm1'⟩) (fun _ h => ⟨rfl, h⟩) ?_
          clear hO hK hP
          intro u S6 w2 hrun hlf hla hnn hP hk hK hO
          replace hD := Nat.lt_of_le_of_lt hlf hD
          replace hn0 : S6.nts.length ≤ 1 := by omega
          replace hreg := hreg.keep hk
          replace bx := bx.keep hk
          replace by' := by'.keep hk
          clear hk
          have hOh := Lib.hid hO
          clear hO
          have c_bx := bx.cells
          go_wp2_with fail
          replace hO := hOh.out
          clear hOh c_bx
          refine tstepA (notes_regR _ _) hO hK (reg_read_p B p S6 r0 m _ hP hok0 ⟨by omega, hm0'⟩) (fun _ h => ⟨rfl, h⟩) ?_
          clear hO hK hP
          intro u S7 w2 hrun hlf hla hnn hP hk hK hO
          replace hD := Nat.lt_of_le_of_lt hlf hD
          replace hn0 : S7.nts.length ≤ 1 := by omega
          replace hreg := hreg.keep hk
          replace bx := bx.keep hk
          replace by' := by'.keep hk
          clear hk
          have hOh := Lib.hid hO
          clear hO
          by_cases hx : u = (m : Int) + 1
          · have dx : (u == (m : Int) + 1) = true := by simpa using hx
            replace hO := hOh.out
            rw [if_pos hx] at hO
            clear hx hOh
            have hOh := Lib.hid hO
            clear hO
            go_wp2_with fail
            refine wp_goto ?_
            refine And.intro ⟨x, y, b, cc, rfl, rfl, rfl, rfl, rfl, rfl, rfl, .inr ⟨rfl, (hJ1 _).2 ⟨S7, hP, hK, hn0, hOh⟩⟩⟩ ?_
            show 0 < leftW 1 3 wq p + 1
            omega
          · have dx : (u == (m : Int) + 1) = false := by simpa using hx
            replace hO := hOh.out
            rw [if_neg hx] at hO
            clear hx hOh
            have hOh := Lib.hid hO
            clear hO
            obtain ⟨a0, a1, a2, a3, a4, a5, a6⟩ := hreg.nth hrh.out.2.2
            rw [hsh] at a0 a1 a2 a3 a4 a5 a6
            go_wp2_with fail
            replace hO := hOh.out
            clear hOh a0 a1 a2 a3 a4 a5 a6
            refine tstepA (notes_regW _ _ _) hO hK (reg_write_p B p S7 rm m 0 _ hP hokm ⟨by omega, hmm⟩) (fun _ h => ⟨rfl, h⟩) ?_
            clear hO hK hP
            intro u S8 w2 hrun hlf hla hnn hP hk hK hO
            replace hD := Nat.lt_of_le_of_lt hlf hD
            replace hn0 : S8.nts.length ≤ 1 := by omega
            replace hreg := hreg.keep hk
            replace bx := bx.keep hk
            replace by' := by'.keep hk
            clear hk
            have hOh := Lib.hid hO
            clear hO
            have hz := hzwh.out _ _ hrun
            replace hO := hOh.out
            rw [show (N : Int).toNat = N from by omega] at hO
            clear hOh hrun
            have hzh := Lib.hid hz
            have hOh := Lib.hid hO
            clear hO hz
            go_wp2_with fail
            have hl8 : S8.left < S2.left := by omega
            obtain ⟨F, hF⟩ : ∃ F : Unit → Prog Int, F = fun _ => (regR r1 m).bind fun y => if y = (m : Int) + 1 then (nt 3).bind fun _ => .ret 0 else (zeroP r1 m D).bind fun _ => (fastTry D rs N m k).bind fun _ => (nt 3).bind fun _ => .ret 0 := ⟨_, rfl⟩
            replace hO := hOh.out
            rw [← hF] at hO
            clear hOh
            have hOh := Lib.hid hO
            have hFh := Lib.hid hF
            clear hO hF
            go_loopw [89] (fun i wr => ∃ (q : Nat) (S9 : TS), i = .int .i64 q ∧ q ≤ N ∧ Plays B wr p S9 ∧ KeepP B p w wr ∧ HeldP wr p x (.cells #[.int .i64 r0.kind, .int .i64 r0.base, .int .i64 r0.loc, .int .i64 r0.n, .int .i64 r0.wr, .int .i64 r0.rd, .int .i64 r0.top] 77) ∧ HeldP wr p y (.cells #[.int .i64 r1.kind, .int .i64 r1.base, .int .i64 r1.loc, .int .i64 r1.n, .int .i64 r1.wr, .int .i64 r1.rd, .int .i64 r1.top] 77) ∧ RegsAt [2, 3, 4] wr p b rs ∧ S9.left < D ∧ S9.left < S2.left ∧ S9.nts.length ≤ 1 ∧ Hid (Z S9) ∧ Hid (Owes R encI B p w (((forP (fun j _ => zeroP (regAt rs (2 + j)) m D) (ranksFrom (-1) (N - q) q) ()).bind F).run S9))) (fun i _ => N - (intOf i).toNat)
            case atStart => exact ⟨0, S8, rfl, by omega, hP, hK, bx, by', hreg, hD, hl8, hn0, hzh, hOh⟩
            case round =>
              clear hP hK hreg bx by' hD hn0 hzh hOh hl8
              obtain ⟨q, S9, rfl, hq, hP, hK, bx, by', hreg, hD, hl9, hn0, hzh, hOh⟩ := hrel
              by_cases hlt : q < N
              · have dlt : decide ((q : Int) < (N : Int)) = true := by rw [decide_eq_true_eq]; omega
                obtain ⟨v, hv⟩ : ∃ v, N - q = v + 1 := ⟨N - q - 1, by omega⟩
                obtain ⟨rk, hrk⟩ : ∃ r, rs[2 + q]? = some r := ⟨_, List.getElem?_eq_getElem (by have := hlenh.out; omega)⟩
                replace hO := hOh.out
                rw [hv, ranks_cons _ _ _ (by omega), forP_consB, regAt_of (show (2 : Int) + (q : Int) = ((2 + q : Nat) : Int) from by omega) hrk, show v = N - (q + 1) from by omega, zeroT_bind] at hO
                have hokk := (hokh.out _ (List.mem_of_getElem? hrk)).1
                have hmk : (m : Int) < rk.n := by rw [(hokh.out _ (List.mem_of_getElem? hrk)).2]; omega
                have hcall : ∀ W, Plays B W p S9 → Calls Tryz.prog 116 #[.pointer (some ⟨p, 0, none⟩), encR rk, .int .i64 m] W (Post encB B p W (((zeroP rk m D).bind fun _ => .ret true).run S9)) := fun W hW => by
                  by_cases hkm : q = m
                  · subst hkm
                    obtain rfl : rm = rk := Option.some.inj (hrh.out.2.2.symm.trans hrk)
                    rcases hzzh.out _ hzh.out with ht | hz
                    · exact fwait_p B p D S9 rm q W hW hokk (by omega) hmk ht hD
                    · obtain ⟨E, rfl⟩ : ∃ E, D = E + 1 := ⟨D - 1, by omega⟩
                      exact fwait_z B p E S9 rm q W hW hokk (by omega) hmk hz
                  · exact fwait_p B p D S9 rk m W hW hokk (by omega) hmk (htoldh.out _ _ hrk (by omega)) hD
                have hch := Lib.hid hcall
                have hrkh := Lib.hid hrk
                have hsq : (2 + q) * 7 = 14 + q * 7 := by omega
                obtain ⟨a0, a1, a2, a3, a4, a5, a6⟩ := hreg.nth hrk
                rw [hsq] at a0 a1 a2 a3 a4 a5 a6
                have hOh := Lib.hid hO
                clear hO hcall hrk hv
                have bn := hP.held (.cells #[.int .i64 rk.kind, .int .i64 rk.base, .int .i64 rk.loc, .int .i64 rk.n, .int .i64 rk.wr, .int .i64 rk.rd, .int .i64 rk.top] 77)
                have hKn := hK.trans (Keep.alloc (.cells #[.int .i64 rk.kind, .int .i64 rk.base, .int .i64 rk.loc, .int .i64 rk.n, .int .i64 rk.wr, .int .i64 rk.rd, .int .i64 rk.top] 77) hP.lt hP.le)
                have hPn := hP.alloc (.cells #[.int .i64 rk.kind, .int .i64 rk.base, .int .i64 rk.loc, .int .i64 rk.n, .int .i64 rk.wr, .int .i64 rk.rd, .int .i64 rk.top] 77)
                have bxn := bx.alloc (.cells #[.int .i64 rk.kind, .int .i64 rk.base, .int .i64 rk.loc, .int .i64 rk.n, .int .i64 rk.wr, .int .i64 rk.rd, .int .i64 rk.top] 77) hP.lt
                have byn := by'.alloc (.cells #[.int .i64 rk.kind, .int .i64 rk.base, .int .i64 rk.loc, .int .i64 rk.n, .int .i64 rk.wr, .int .i64 rk.rd, .int .i64 rk.top] 77) hP.lt
                have hregn := hreg.extL ((Ext.refl wr).alloc (.cells #[.int .i64 rk.kind, .int .i64 rk.base, .int .i64 rk.loc, .int .i64 rk.n, .int .i64 rk.wr, .int .i64 rk.rd, .int .i64 rk.top] 77)) hP.lt
                have c_bn := bn.cells
                clear hK hP bx by' hreg
                go_wp2_with fail
                clear c_bn a0 a1 a2 a3 a4 a5 a6 bn
                have hP := hPn
                have hK := hKn
                have bx := bxn
                have by' := byn
                have hreg := hregn
                clear hPn hKn bxn byn hregn
                generalize wr.alloc _ = W at *
                replace hO := hOh.out
                clear hOh
                refine tstepA (notes_zeroT _ _ _) hO hK (hch.out _ hP) (fun _ h => ⟨rfl, h⟩) ?_
                clear hO hK hP
                intro vb S10 w2 hrun hlf hla hnn hP hk hK hO
                replace hD := Nat.lt_of_le_of_lt hlf hD
                replace hn0 : S10.nts.length ≤ 1 := by omega
                replace hreg := hreg.keep hk
                replace bx := bx.keep hk
                replace by' := by'.keep hk
                clear hk
                have hOh := Lib.hid hO
                clear hO
                obtain ⟨rfl, hzr⟩ := zeroT_run hrun
                have hz := hzkh.out _ _ hrkh.out _ _ hzr hzh.out
                clear hzh hrun hzr hch
                have hzh := Lib.hid hz
                clear hz
                go_wp2_with fail
                refine ⟨⟨q + 1, S10, by go_num, by omega, hP, hK, bx, by', hreg, hD, by omega, hn0, hzh, hOh⟩, ?_⟩
                simp [intOf]; omega
              · obtain rfl : q = N := by omega
                have dlt : decide ((q : Int) < (q : Int)) = false := by rw [decide_eq_false_iff_not]; omega
                replace hO := hOh.out
                rw [Nat.sub_self, ranks_zero, forP_nilB, hFh.out] at hO
                clear hOh hzh hlt hFh
                have hOh := Lib.hid hO
                clear hO
                have c_by := by'.cells
                go_wp2_with fail
                replace hO := hOh.out
                clear hOh c_by
                refine tstepA (notes_regR _ _) hO hK (reg_read_p B p S9 r1 m _ hP hok1 ⟨by omega, hm1'⟩) (fun _ h => ⟨rfl, h⟩) ?_
                clear hO hK hP
                intro y1 S10 w2 hrun hlf hla hnn hP hk hK hO
                replace hD := Nat.lt_of_le_of_lt hlf hD
                replace hn0 : S10.nts.length ≤ 1 := by omega
                replace hreg := hreg.keep hk
                replace bx := bx.keep hk
                replace by' := by'.keep hk
                clear hk
                have hOh := Lib.hid hO
                clear hO
                by_cases hx : y1 = (m : Int) + 1
                · have dx : (y1 == (m : Int) + 1) = true := by simpa using hx
                  replace hO := hOh.out
                  rw [if_pos hx] at hO
                  clear hx hOh
                  have hOh := Lib.hid hO
                  clear hO
                  go_wp2_with fail
                  refine wp_goto ?_
                  refine And.intro ⟨x, y, b, cc, rfl, rfl, rfl, rfl, rfl, rfl, rfl, .inr ⟨rfl, (hJ1 _).2 ⟨S10, hP, hK, hn0, hOh⟩⟩⟩ ?_
                  show 0 < leftW 1 3 wq p + 1
                  omega
                · have dx : (y1 == (m : Int) + 1) = false := by simpa using hx
                  replace hO := hOh.out
                  rw [if_neg hx, zeroT_bind] at hO
                  clear hx hOh
                  have hOh := Lib.hid hO
                  clear hO
                  have c_by := by'.cells
                  go_wp2_with fail
                  replace hO := hOh.out
                  clear hOh c_by
                  refine tstepA (notes_zeroT _ _ _) hO hK (fwait_p B p D S10 r1 m _ hP hok1 (by omega) hm1' ht1 hD) (fun _ h => ⟨rfl, h⟩) ?_
                  clear hO hK hP
                  intro vb S11 w2 hrun hlf hla hnn hP hk hK hO
                  replace hD := Nat.lt_of_le_of_lt hlf hD
                  replace hn0 : S11.nts.length ≤ 1 := by omega
                  replace hreg := hreg.keep hk
                  replace bx := bx.keep hk
                  replace by' := by'.keep hk
                  clear hk
                  have hOh := Lib.hid hO
                  clear hO
                  obtain ⟨rfl, -⟩ := zeroT_run hrun
                  go_wp2_with fail
                  have hlw2 := hP.left
                  refine wp_goto ?_
                  refine And.intro ⟨x, y, b, cc, rfl, rfl, rfl, rfl, rfl, rfl, rfl, .inl ⟨rfl, (hJ0 _ _ _ _ _).2 ⟨k, S11, hP, hK, bx, by', hreg, hD, hn0, by omega, hOh⟩⟩⟩ ?_
                  show leftW 1 3 _ p + 1 < leftW 1 3 wq p + 1
                  rw [hlw.out, hlw2]
                  omega
        · have dy : (y0 != 0) = true := by simpa using hy
          rw [if_neg hy] at hO
          clear hy
          have hOh := Lib.hid hO
          clear hO
          obtain ⟨a0, a1, a2, a3, a4, a5, a6⟩ := hreg.nth hrh.out.2.2
          rw [hsh] at a0 a1 a2 a3 a4 a5 a6
          go_wp2_with fail
          replace hO := hOh.out
          clear hOh a0 a1 a2 a3 a4 a5 a6
          refine tstepA (notes_regW _ _ _) hO hK (reg_write_p B p S5 rm m 0 _ hP hokm ⟨by omega, hmm⟩) (fun _ h => ⟨rfl, h⟩) ?_
          clear hO hK hP
          intro u S6 w2 hrun hlf hla hnn hP hk hK hO
          replace hD := Nat.lt_of_le_of_lt hlf hD
          replace hn0 : S6.nts.length ≤ 1 := by omega
          replace hreg := hreg.keep hk
          replace bx := bx.keep hk
          replace by' := by'.keep hk
          clear hk
          have hOh := Lib.hid hO
          clear hO
          replace hO := hOh.out
          rw [zeroT_bind] at hO
          clear hOh
          have hOh := Lib.hid hO
          clear hO
          have c_by := by'.cells
          go_wp2_with fail
          replace hO := hOh.out
          clear hOh c_by
          refine tstepA (notes_zeroT _ _ _) hO hK (fwait_p B p D S6 r1 m _ hP hok1 (by omega) hm1' ht1 hD) (fun _ h => ⟨rfl, h⟩) ?_
          clear hO hK hP
          intro vb S7 w2 hrun hlf hla hnn hP hk hK hO
          replace hD := Nat.lt_of_le_of_lt hlf hD
          replace hn0 : S7.nts.length ≤ 1 := by omega
          replace hreg := hreg.keep hk
          replace bx := bx.keep hk
          replace by' := by'.keep hk
          clear hk
          have hOh := Lib.hid hO
          clear hO
          obtain ⟨rfl, -⟩ := zeroT_run hrun
          go_wp2_with fail
          have hlw2 := hP.left
          refine wp_goto ?_
          refine And.intro ⟨x, y, b, cc, rfl, rfl, rfl, rfl, rfl, rfl, rfl, .inl ⟨rfl, (hJ0 _ _ _ _ _).2 ⟨k, S7, hP, hK, bx, by', hreg, hD, hn0, by omega, hOh⟩⟩⟩ ?_
          show leftW 1 3 _ p + 1 < leftW 1 3 wq p + 1
          rw [hlw.out, hlw2]
          omega
    · rw [hJ1] at hrel
      obtain ⟨S2, hP, hK, hn0, hOh⟩ := hrel
      clear hJ0 hJ1 hzzh hzkh hzwh
      refine ⟨_, rfl, ?_⟩
      go_wp2_with fail
      refine tstepN (notes_nt 3) hOh.out hK (noteO hP (by unfold maxAns; omega)) (fun _ h => ⟨rfl, h⟩) ?_
      clear hOh hK hP
      intro u S3 w3 _ _ _ hP _ hK hO
      have hf := hO.done (v := (0 : Int)) hP hK
      clear hO hP hK
      go_wp2_with fail
      first | exact hf | (go_ret; exact hf)
  case first =>
    intro hfall
    refine (fun (hfall : Hid _) => ?_) (Lib.hid hfall)
    clear hzwh hzkh hzzh htoldh hJ1
    go_wp2_with fail
    refine (fastlay_p alg mode base loc room m N rs _ h1 h2 hlh.out (by omega) (by omega)).mono ?_
    rintro e w1 ⟨b, c0, rfl, hge, hb, hcells, q1, q2, hx⟩
    obtain ⟨c, rfl⟩ : ∃ c, c0 = c + 3 := ⟨c0 - 3, by have := hlenh.out; omega⟩
    have hreg : RegsAt [2, 3, 4] w1 p b rs := ⟨hb, hP.fresh hx hge, hcells⟩
    replace hK := hK.trans (Keep.of_ext hx hP.lt hP.le)
    replace hP := hP.ext hx
    have hl2 : 2 ≤ rs.length := by have := hlenh.out; omega
    have hl3 : 1 < rs.length := by have := hlenh.out; omega
    have hl4 : 0 < rs.length := by have := hlenh.out; omega
    have hl5 : (2 : Int) ≤ (rs.length : Int) := by omega
    have hl6 : (1 : Int) < (rs.length : Int) := by omega
    have hl7 : (0 : Int) < (rs.length : Int) := by omega
    clear hx hcells hge hb b1 c_b1
    generalize w.alloc _ = W0 at *
    go_upto_region 4 with fail
    go_cut [9, 10, 11] (fun s9 s10 s11 wx => ∃ (x y : Nat), s9 = .pointer (some ⟨x, 0, none⟩) ∧ s10 = .pointer (some ⟨y, 0, none⟩) ∧ s11 = .slice (some ⟨b, 14, none⟩) (rs.length - 2) (c + 1) ∧ HeldP wx p x (.cells #[.int .i64 r0.kind, .int .i64 r0.base, .int .i64 r0.loc, .int .i64 r0.n, .int .i64 r0.wr, .int .i64 r0.rd, .int .i64 r0.top] 77) ∧ HeldP wx p y (.cells #[.int .i64 r1.kind, .int .i64 r1.base, .int .i64 r1.loc, .int .i64 r1.n, .int .i64 r1.wr, .int .i64 r1.rd, .int .i64 r1.top] 77) ∧ Plays B wx p S ∧ KeepP B p w wx ∧ RegsAt [2, 3, 4] wx p b rs)
    case first =>
      have hS : ∀ w', RegsAt [2, 3, 4] w' p b rs → ((w'.cell? ⟨b, 0, none⟩ = some (.int .i64 r0.kind) ∧ w'.cell? ⟨b, 1, none⟩ = some (.int .i64 r0.base) ∧ w'.cell? ⟨b, 2, none⟩ = some (.int .i64 r0.loc) ∧ w'.cell? ⟨b, 3, none⟩ = some (.int .i64 r0.n) ∧ w'.cell? ⟨b, 4, none⟩ = some (.int .i64 r0.wr) ∧ w'.cell? ⟨b, 5, none⟩ = some (.int .i64 r0.rd) ∧ w'.cell? ⟨b, 6, none⟩ = some (.int .i64 r0.top)) ∧ (w'.cell? ⟨b, 7, none⟩ = some (.int .i64 r1.kind) ∧ w'.cell? ⟨b, 8, none⟩ = some (.int .i64 r1.base) ∧ w'.cell? ⟨b, 9, none⟩ = some (.int .i64 r1.loc) ∧ w'.cell? ⟨b, 10, none⟩ = some (.int .i64 r1.n) ∧ w'.cell? ⟨b, 11, none⟩ = some (.int .i64 r1.wr) ∧ w'.cell? ⟨b, 12, none⟩ = some (.int .i64 r1.rd) ∧ w'.cell? ⟨b, 13, none⟩ = some (.int .i64 r1.top))) := fun w' y => by
        obtain ⟨a0, a1, a2, a3, a4, a5, a6⟩ := y.nth hrh.out.1
        obtain ⟨e0, e1, e2, e3, e4, e5, e6⟩ := y.nth hrh.out.2.1
        exact ⟨⟨a0, a1, a2, a3, a4, a5, a6⟩, ⟨e0, e1, e2, e3, e4, e5, e6⟩⟩
      have hrg2 := hreg.extL (Ext.refl w1).drew hP.lt
      obtain ⟨⟨a0, a1, a2, a3, a4, a5, a6⟩, ⟨e0, e1, e2, e3, e4, e5, e6⟩⟩ := hS _ hreg
      go_region_held2 (fun w' => (w'.cell? ⟨b, 0, none⟩ = some (.int .i64 r0.kind) ∧ w'.cell? ⟨b, 1, none⟩ = some (.int .i64 r0.base) ∧ w'.cell? ⟨b, 2, none⟩ = some (.int .i64 r0.loc) ∧ w'.cell? ⟨b, 3, none⟩ = some (.int .i64 r0.n) ∧ w'.cell? ⟨b, 4, none⟩ = some (.int .i64 r0.wr) ∧ w'.cell? ⟨b, 5, none⟩ = some (.int .i64 r0.rd) ∧ w'.cell? ⟨b, 6, none⟩ = some (.int .i64 r0.top)) ∧ (w'.cell? ⟨b, 7, none⟩ = some (.int .i64 r1.kind) ∧ w'.cell? ⟨b, 8, none⟩ = some (.int .i64 r1.base) ∧ w'.cell? ⟨b, 9, none⟩ = some (.int .i64 r1.loc) ∧ w'.cell? ⟨b, 10, none⟩ = some (.int .i64 r1.n) ∧ w'.cell? ⟨b, 11, none⟩ = some (.int .i64 r1.wr) ∧ w'.cell? ⟨b, 12, none⟩ = some (.int .i64 r1.rd) ∧ w'.cell? ⟨b, 13, none⟩ = some (.int .i64 r1.top))) (first | with_reducible exact hS _ hrg2 | go_keep) (fail)
      · rename_i hh
        clear hh
        obtain ⟨bx, by', hP2, hK2, hl9⟩ := two_laid hP hreg (.cells #[.int .i64 r0.kind, .int .i64 r0.base, .int .i64 r0.loc, .int .i64 r0.n, .int .i64 r0.wr, .int .i64 r0.rd, .int .i64 r0.top] 77) (.cells #[.int .i64 r1.kind, .int .i64 r1.base, .int .i64 r1.loc, .int .i64 r1.n, .int .i64 r1.wr, .int .i64 r1.rd, .int .i64 r1.top] 77)
        replace hK2 := hK.trans hK2
        clear hS hrg2 hreg hP hK a0 a1 a2 a3 a4 a5 a6 e0 e1 e2 e3 e4 e5 e6
        go_wp2_with fail
        go_meet
        exact ⟨_, _, rfl, rfl, rfl, bx, by', hP2, hK2, hl9⟩
      · rename_i hh
        clear hh
        obtain ⟨by', bx, hP2, hK2, hl9⟩ := two_laid hP hreg (.cells #[.int .i64 r1.kind, .int .i64 r1.base, .int .i64 r1.loc, .int .i64 r1.n, .int .i64 r1.wr, .int .i64 r1.rd, .int .i64 r1.top] 77) (.cells #[.int .i64 r0.kind, .int .i64 r0.base, .int .i64 r0.loc, .int .i64 r0.n, .int .i64 r0.wr, .int .i64 r0.rd, .int .i64 r0.top] 77)
        replace hK2 := hK.trans hK2
        clear hS hrg2 hreg hP hK a0 a1 a2 a3 a4 a5 a6 e0 e1 e2 e3 e4 e5 e6
        go_wp2_with fail
        go_meet
        exact ⟨_, _, rfl, rfl, rfl, bx, by', hP2, hK2, hl9⟩
    case rest =>
      clear hreg hP
      obtain ⟨x, y, rfl, rfl, hs11, bx, by', hP, hK, hreg⟩ := hcut
      rw [show rs.length - 2 = N from by have := hlenh.out; omega] at hs11
      generalize c + 1 = cc at hs11
      subst hs11
      go_wp2_with fail
      refine tstepN (notes_nt 1) hOh.out hK (noteO hP (by unfold maxAns; omega)) (fun _ h => ⟨rfl, h⟩) ?_
      clear hOh hK hP
      intro u S1 w2 hlf _ hnn hP hk hK hO
      replace hD := Nat.lt_of_le_of_lt hlf hD
      replace hn0 : S1.nts.length ≤ 1 := by omega
      replace hreg := hreg.keep hk
      replace bx := bx.keep hk
      replace by' := by'.keep hk
      have hOh := Lib.hid hO
      clear hO hk
      go_wp2_with fail
      refine wp_label ?_
      rename_i hKK
      replace hKK := Lib.hid hKK
      refine hKK.out _ _ ?_
      exact hfall.out 0 _ _ _ rfl ⟨x, y, b, cc, rfl, rfl, rfl, rfl, rfl, rfl, rfl, .inl ⟨rfl, (hJ0 _ _ _ _ _).2 ⟨D, S1, hP, hK, bx, by', hreg, hD, hn0, hD, hOh⟩⟩⟩
end Go.Proofs.YtpcohbpeglledaaGreat
