/-
  Locks' registers, laid by the program and by the document.
-/
import Derived.Test.YtpcohbpeglledaaGreatJFilterPlaysSaid0
import Derived.Deep.DeepCutAuto
/-
  Locks' registers, laid by the program and by the document.
-/
namespace Kv
theorem filWants_len (N : Nat) : (filWants N).length = 2 * N - 1 := by simp [filWants]
theorem fastWants_len (N : Nat) : (fastWants N).length = N + 2 := by simp [fastWants]
theorem bwWants_len (N : Nat) : (bwWants N).length = 2 * N + 1 := by simp [bwWants]
end Kv
namespace Go.Proofs.YtpcohbpeglledaaGreat
open Go.RowKit Kv
theorem layr_some {va : Value} {l : List Want} {n mode base loc : Int} {rs : List Reg} (hl : layM l n mode base loc = some rs) (w : World) (h : WantsAt w va l) (hlen : l.length ≤ 1000) :
    Calls Tryz.prog 82 #[va, .int .i64 n, .int .i64 mode, .int .i64 base, .int .i64 loc] w fun e w' => ∃ v, e = .returned (.tuple #[v, .int .i64 0]) ∧ (RegsV w' v rs ∧ ∀ k, v.ownBlock = some k → w.heap.size ≤ k) ∧ Ext w w' := by
  have := lay_r va l n mode base loc w h hlen
  rw [hl] at this
  exact this.mono fun e w' ⟨hx, v, he, hr⟩ => ⟨v, he, ⟨Recs.of_row hr, fun k hk => (hr.lt k hk).1⟩, hx⟩
theorem layp_some {va : Value} {l : List Want} {n mode base loc : Int} {rs : List Reg} (hl : layM l n mode base loc = some rs) (w : World) (h : WantsAt w va l) (hlen : l.length ≤ 1000) :
    Calls Tryz.prog 174 #[va, .int .i64 n, .int .i64 mode, .int .i64 base, .int .i64 loc] w fun e w' => ∃ v, e = .returned (.tuple #[v, .int .i64 0]) ∧ (RegsV w' v rs ∧ ∀ k, v.ownBlock = some k → w.heap.size ≤ k) ∧ Ext w w' := by
  have := plan_p va l n mode base loc w h hlen
  rw [hl] at this
  exact this.mono fun e w' ⟨hx, v, he, hr⟩ => ⟨v, he, ⟨Recs.of_row hr, fun k hk => (hr.lt k hk).1⟩, hx⟩
set_option maxRecDepth 100000 in
theorem filregs_r (alg mode base loc room : Int) (N : Nat) (rs : List Reg) (w : World) (h1 : 1 ≤ N) (h2 : N ≤ 8) (hl : layM (filWants N) N mode base loc = some rs) :
    Calls Tryz.prog 110 #[.agg #[.int .i64 alg, .int .i64 N, .int .i64 mode, .int .i64 base, .int .i64 loc, .int .i64 room]] w fun e w' => ∃ b c, e = .returned (.slice (some ⟨b, 0, none⟩) rs.length c) ∧ w.heap.size ≤ b ∧ b < w'.heap.size ∧ (∀ (i : Nat) u, (rs.flatMap regVals)[i]? = some u → w'.cell? ⟨b, i, none⟩ = some u) ∧ rs.length ≤ c ∧ c ≤ 9223372036854775807 ∧ Ext w w' := by
  have hlen := layM_len hl
  rw [filWants_len] at hlen
  replace hl := Lib.hid hl
  have hlenh := Lib.hid hlen
  clear hlen
  have hX := Ext.refl w
  have b1 := Blk.new w (.cells #[.int .i64 alg, .int .i64 N, .int .i64 mode, .int .i64 base, .int .i64 loc, .int .i64 room] 52)
  replace hX := hX.alloc (.cells #[.int .i64 alg, .int .i64 N, .int .i64 mode, .int .i64 base, .int .i64 loc, .int .i64 room] 52)
  have c_b1 := b1.cells
  go_enter Tryz.func110, Tryz.ntmps110
  go_wp2_with fail
  generalize w.alloc _ = W at *
  have hXW := hX
  clear hX c_b1
  have hX := (Ext.refl W).drew
  have hS : ∀ w', Ext W w' → (∀ i, w'.cell? ⟨w.heap.size, i, none⟩ = (#[.int .i64 alg, .int .i64 N, .int .i64 mode, .int .i64 base, .int .i64 loc, .int .i64 room] : Array Value)[i]?) := fun w' hx => (b1.ext hx).cells
  go_region_held2 (fun w' => ∀ i, w'.cell? ⟨w.heap.size, i, none⟩ = (#[.int .i64 alg, .int .i64 N, .int .i64 mode, .int .i64 base, .int .i64 loc, .int .i64 room] : Array Value)[i]?) (exact hS _ hX)
    (first
      | (go_at_call 34
         refine (filwants_r N _ h1 h2).mono ?_
         rintro e w2 ⟨v2, rfl, hw2, hx⟩
         replace hX := hX.trans hx
         have hz2 := hX.size
         clear hx)
      | (go_at_call 82
         refine (layr_some hl.out _ (hw2.ext (Ext.refl _)) (by simp [filWants_len]; omega)).mono ?_
         rintro e w3 ⟨v3, rfl, hr3, hx⟩
         replace hX := hX.trans hx
         clear hx))
  rename_i hh
  clear hh
  obtain ⟨⟨A, c, rfl, q1, q2, hV⟩, hown⟩ := hr3
  obtain ⟨b, rfl, hb, hcells⟩ := hV (by cases rs with | nil => have := hlenh.out; simp only [List.length_nil] at this; omega | cons r l => simp [regVals])
  have hge : w.heap.size ≤ b := Nat.le_trans (Nat.le_trans hXW.size hz2) (hown b rfl)
  have hfh := Lib.hid (And.intro hge (And.intro hb (And.intro hcells (hXW.trans hX))))
  clear hcells hV hb hown hge hz2
  go_wp2_with fail
  go_ret
  exact ⟨_, _, rfl, hfh.out.1, hfh.out.2.1, hfh.out.2.2.1, q1, q2, hfh.out.2.2.2⟩
set_option maxRecDepth 100000 in
theorem fastregs_r (alg mode base loc room : Int) (N : Nat) (rs : List Reg) (w : World) (h1 : 1 ≤ N) (h2 : N ≤ 8) (hl : layM (fastWants N) N mode base loc = some rs) :
    Calls Tryz.prog 117 #[.agg #[.int .i64 alg, .int .i64 N, .int .i64 mode, .int .i64 base, .int .i64 loc, .int .i64 room]] w fun e w' => ∃ b c, e = .returned (.slice (some ⟨b, 0, none⟩) rs.length c) ∧ w.heap.size ≤ b ∧ b < w'.heap.size ∧ (∀ (i : Nat) u, (rs.flatMap regVals)[i]? = some u → w'.cell? ⟨b, i, none⟩ = some u) ∧ rs.length ≤ c ∧ c ≤ 9223372036854775807 ∧ Ext w w' := by
  have hlen := layM_len hl
  rw [fastWants_len] at hlen
  replace hl := Lib.hid hl
  have hlenh := Lib.hid hlen
  clear hlen
  have hX := Ext.refl w
  have b1 := Blk.new w (.cells #[.int .i64 alg, .int .i64 N, .int .i64 mode, .int .i64 base, .int .i64 loc, .int .i64 room] 52)
  replace hX := hX.alloc (.cells #[.int .i64 alg, .int .i64 N, .int .i64 mode, .int .i64 base, .int .i64 loc, .int .i64 room] 52)
  have c_b1 := b1.cells
  go_enter Tryz.func117, Tryz.ntmps117
  go_wp2_with fail
  generalize w.alloc _ = W at *
  have hXW := hX
  clear hX c_b1
  have hX := (Ext.refl W).drew
  have hS : ∀ w', Ext W w' → (∀ i, w'.cell? ⟨w.heap.size, i, none⟩ = (#[.int .i64 alg, .int .i64 N, .int .i64 mode, .int .i64 base, .int .i64 loc, .int .i64 room] : Array Value)[i]?) := fun w' hx => (b1.ext hx).cells
  go_region_held2 (fun w' => ∀ i, w'.cell? ⟨w.heap.size, i, none⟩ = (#[.int .i64 alg, .int .i64 N, .int .i64 mode, .int .i64 base, .int .i64 loc, .int .i64 room] : Array Value)[i]?) (exact hS _ hX)
    (first
      | (go_at_call 45
         refine (fastwants_r N _ h1 h2).mono ?_
         rintro e w2 ⟨v2, rfl, hw2, hx⟩
         replace hX := hX.trans hx
         have hz2 := hX.size
         clear hx)
      | (go_at_call 82
         refine (layr_some hl.out _ (hw2.ext (Ext.refl _)) (by simp [fastWants_len]; omega)).mono ?_
         rintro e w3 ⟨v3, rfl, hr3, hx⟩
         replace hX := hX.trans hx
         clear hx))
  rename_i hh
  clear hh
  obtain ⟨⟨A, c, rfl, q1, q2, hV⟩, hown⟩ := hr3
  obtain ⟨b, rfl, hb, hcells⟩ := hV (by cases rs with | nil => have := hlenh.out; simp only [List.length_nil] at this; omega | cons r l => simp [regVals])
  have hge : w.heap.size ≤ b := Nat.le_trans (Nat.le_trans hXW.size hz2) (hown b rfl)
  have hfh := Lib.hid (And.intro hge (And.intro hb (And.intro hcells (hXW.trans hX))))
  clear hcells hV hb hown hge hz2
  go_wp2_with fail
  go_ret
  exact ⟨_, _, rfl, hfh.out.1, hfh.out.2.1, hfh.out.2.2.1, q1, q2, hfh.out.2.2.2⟩
set_option maxRecDepth 100000 in
theorem fillay_p (alg mode base loc room me : Int) (N : Nat) (rs : List Reg) (w : World) (h1 : 1 ≤ N) (h2 : N ≤ 8) (hl : layM (filWants N) N mode base loc = some rs) (hm0 : 0 ≤ me) (hm1 : me < N) :
    Calls Tryz.prog 108 #[.agg #[.int .i64 alg, .int .i64 N, .int .i64 mode, .int .i64 base, .int .i64 loc, .int .i64 room], .int .i64 me] w fun e w' => ∃ b c A2 c2, e = .returned (.tuple #[.slice (some ⟨b, 0, none⟩) N c, .slice A2 (N - 1) c2, .int .i64 0]) ∧ (2 ≤ N → A2 = some ⟨b, N * 7, none⟩) ∧ w.heap.size ≤ b ∧ b < w'.heap.size ∧ (∀ (i : Nat) u, (rs.flatMap regVals)[i]? = some u → w'.cell? ⟨b, i, none⟩ = some u) ∧ N ≤ c ∧ c ≤ 9223372036854775807 ∧ Ext w w' := by
  have hlen := layM_len hl
  rw [filWants_len] at hlen
  replace hl := Lib.hid hl
  have hlenh := Lib.hid hlen
  clear hlen
  have d1 : decide (me < 0) = false := by rw [decide_eq_false_iff_not]; omega
  have d2 : decide ((N : Int) ≤ me) = false := by rw [decide_eq_false_iff_not]; omega
  have hX := Ext.refl w
  have b1 := Blk.new w (.cells #[.int .i64 alg, .int .i64 N, .int .i64 mode, .int .i64 base, .int .i64 loc, .int .i64 room] 52)
  replace hX := hX.alloc (.cells #[.int .i64 alg, .int .i64 N, .int .i64 mode, .int .i64 base, .int .i64 loc, .int .i64 room] 52)
  have c_b1 := b1.cells
  go_enter Tryz.func108, Tryz.ntmps108
  go_wp2_with fail
  generalize w.alloc _ = W at *
  have hXW := hX
  clear hX c_b1
  have hX := (Ext.refl W).drew
  have hS : ∀ w', Ext W w' → (∀ i, w'.cell? ⟨w.heap.size, i, none⟩ = (#[.int .i64 alg, .int .i64 N, .int .i64 mode, .int .i64 base, .int .i64 loc, .int .i64 room] : Array Value)[i]?) := fun w' hx => (b1.ext hx).cells
  go_region_held2 (fun w' => ∀ i, w'.cell? ⟨w.heap.size, i, none⟩ = (#[.int .i64 alg, .int .i64 N, .int .i64 mode, .int .i64 base, .int .i64 loc, .int .i64 room] : Array Value)[i]?) (exact hS _ hX)
    (first
      | (go_at_call 44
         refine (filwants_p N _ h1 h2).mono ?_
         rintro e w2 ⟨v2, rfl, hw2, hx⟩
         replace hX := hX.trans hx
         have hz2 := hX.size
         clear hx)
      | (go_at_call 174
         refine (layp_some hl.out _ (hw2.ext (Ext.refl _)) (by simp [filWants_len]; omega)).mono ?_
         rintro e w3 ⟨v3, rfl, hr3, hx⟩
         replace hX := hX.trans hx
         clear hx))
  rename_i hh
  clear hh
  obtain ⟨⟨A, c, rfl, q1, q2, hV⟩, hown⟩ := hr3
  obtain ⟨b, rfl, hb, hcells⟩ := hV (by cases rs with | nil => have := hlenh.out; simp only [List.length_nil] at this; omega | cons r l => simp [regVals])
  have hge : w.heap.size ≤ b := Nat.le_trans (Nat.le_trans hXW.size hz2) (hown b rfl)
  have hfh := Lib.hid (And.intro hge (And.intro hb (And.intro hcells (hXW.trans hX))))
  clear hcells hV hb hown hge hz2
  have c_b1 := hS _ hX
  clear hS
  have hz3 := hlenh.out
  go_wp2_with fail
  go_quiet (fail)
  have hx9 := (Ext.refl w3).drewN nq
  have hg9 := hfh.out.1
  have hb9 := Nat.lt_of_lt_of_le hfh.out.2.1 hx9.size
  have hc9 : Hid (∀ (i : Nat) u, (rs.flatMap regVals)[i]? = some u → (w3.drewN nq).cell? ⟨b, i, none⟩ = some u) := Lib.hid fun i u hu => (hx9.cell (p := ⟨b, i, none⟩) hfh.out.2.1).trans (hfh.out.2.2.1 i u hu)
  have hX9 := Lib.hid (hfh.out.2.2.2.trans hx9)
  clear hx9 c_b1 hfh
  generalize w3.drewN nq = W9 at *
  generalize hA2 : (if c = N then some (⟨b, 0, none⟩ : Addr) else some ⟨b, N * 7, none⟩) = A2
  have hA3 : Hid (2 ≤ N → A2 = some ⟨b, N * 7, none⟩) := Lib.hid fun h => by rw [← hA2]; exact if_neg (by omega)
  clear hA2
  rw [show 2 * N - 1 - N = N - 1 from by omega]
  go_wp2_with fail
  refine bodyPost_ret (v := .tuple #[.slice (some ⟨b, 0, none⟩) N c, .slice A2 (N - 1) (c - N), .int .i64 0]) (by simp [results, Tryz.results108, go_sem]) rfl ?_
  exact ⟨b, c, _, c - N, rfl, hA3.out, hg9, hb9, hc9.out, by omega, q2, hX9.out⟩
set_option maxRecDepth 100000 in
theorem fastlay_p (alg mode base loc room me : Int) (N : Nat) (rs : List Reg) (w : World) (h1 : 1 ≤ N) (h2 : N ≤ 8) (hl : layM (fastWants N) N mode base loc = some rs) (hm0 : 0 ≤ me) (hm1 : me < N) :
    Calls Tryz.prog 115 #[.agg #[.int .i64 alg, .int .i64 N, .int .i64 mode, .int .i64 base, .int .i64 loc, .int .i64 room], .int .i64 me] w fun e w' => ∃ b c, e = .returned (.tuple #[.slice (some ⟨b, 0, none⟩) rs.length c, .int .i64 0]) ∧ w.heap.size ≤ b ∧ b < w'.heap.size ∧ (∀ (i : Nat) u, (rs.flatMap regVals)[i]? = some u → w'.cell? ⟨b, i, none⟩ = some u) ∧ rs.length ≤ c ∧ c ≤ 9223372036854775807 ∧ Ext w w' := by
  have hlen := layM_len hl
  rw [fastWants_len] at hlen
  replace hl := Lib.hid hl
  have hlenh := Lib.hid hlen
  clear hlen
  have d1 : decide (me < 0) = false := by rw [decide_eq_false_iff_not]; omega
  have d2 : decide ((N : Int) ≤ me) = false := by rw [decide_eq_false_iff_not]; omega
  have hX := Ext.refl w
  have b1 := Blk.new w (.cells #[.int .i64 alg, .int .i64 N, .int .i64 mode, .int .i64 base, .int .i64 loc, .int .i64 room] 52)
  replace hX := hX.alloc (.cells #[.int .i64 alg, .int .i64 N, .int .i64 mode, .int .i64 base, .int .i64 loc, .int .i64 room] 52)
  have c_b1 := b1.cells
  go_enter Tryz.func115, Tryz.ntmps115
  go_wp2_with fail
  generalize w.alloc _ = W at *
  have hXW := hX
  clear hX c_b1
  have hX := (Ext.refl W).drew
  have hS : ∀ w', Ext W w' → (∀ i, w'.cell? ⟨w.heap.size, i, none⟩ = (#[.int .i64 alg, .int .i64 N, .int .i64 mode, .int .i64 base, .int .i64 loc, .int .i64 room] : Array Value)[i]?) := fun w' hx => (b1.ext hx).cells
  go_region_held2 (fun w' => ∀ i, w'.cell? ⟨w.heap.size, i, none⟩ = (#[.int .i64 alg, .int .i64 N, .int .i64 mode, .int .i64 base, .int .i64 loc, .int .i64 room] : Array Value)[i]?) (exact hS _ hX)
    (first
      | (go_at_call 53
         refine (fastwants_p N _ h1 h2).mono ?_
         rintro e w2 ⟨v2, rfl, hw2, hx⟩
         replace hX := hX.trans hx
         have hz2 := hX.size
         clear hx)
      | (go_at_call 174
         refine (layp_some hl.out _ (hw2.ext (Ext.refl _)) (by simp [fastWants_len]; omega)).mono ?_
         rintro e w3 ⟨v3, rfl, hr3, hx⟩
         replace hX := hX.trans hx
         clear hx))
  rename_i hh
  clear hh
  obtain ⟨⟨A, c, rfl, q1, q2, hV⟩, hown⟩ := hr3
  obtain ⟨b, rfl, hb, hcells⟩ := hV (by cases rs with | nil => have := hlenh.out; simp only [List.length_nil] at this; omega | cons r l => simp [regVals])
  have hge : w.heap.size ≤ b := Nat.le_trans (Nat.le_trans hXW.size hz2) (hown b rfl)
  have hfh := Lib.hid (And.intro hge (And.intro hb (And.intro hcells (hXW.trans hX))))
  clear hcells hV hb hown hge hz2
  go_wp2_with fail
  first | go_ret2 | go_ret
  exact ⟨_, _, rfl, hfh.out.1, hfh.out.2.1, hfh.out.2.2.1, q1, q2, hfh.out.2.2.2⟩
end Go.Proofs.YtpcohbpeglledaaGreat
/-
  Plain mathematics: registers leave no notes.
-/
namespace Kv
theorem notes_ret {α : Type} (a : α) (n : Nat) : (Prog.ret a).Notes n := .ret a n
theorem notes_forP {σ : Type} {T : Int → σ → Prog σ} (h : ∀ a x, (T a x).Notes 0) : ∀ (l : List Int) (x : σ), (forP T l x).Notes 0
  | [], x => .ret x 0
  | a :: l, x => (h a x).bind0 fun y => notes_forP h l y
theorem notes_trompW (b l v : Int) : (trompW b l v).Notes 0 := by
  refine (notes_gt _).bind0 fun x => ?_
  split
  · exact .ret _ _
  · refine (notes_wr _ _).bind0 fun _ => (notes_st _ _).bind0 fun _ => (notes_gt _).bind0 fun _ => (notes_rd _).bind0 fun _ => ?_
    split
    · exact (notes_wr _ _).bind0 fun _ => notes_st _ _
    · exact .ret _ _
theorem notes_trompR3 (b l x : Int) : (trompR3 b l x).Notes 0 := by
  refine (notes_rd _).bind0 fun _ => (notes_st _ _).bind0 fun _ => (notes_rd _).bind0 fun _ => (notes_gt _).bind0 fun _ => ?_
  split
  · exact notes_gt _
  · exact (notes_rd _).bind0 fun _ => (notes_st _ _).bind0 fun _ => .ret _ _
theorem notes_trompR2 (b l x : Int) : (trompR2 b l x).Notes 0 := by
  refine (notes_rd _).bind0 fun _ => (notes_gt _).bind0 fun _ => ?_
  split
  · exact notes_trompR3 _ _ _
  · exact (notes_gt _).bind0 fun _ => (notes_wr _ _).bind0 fun _ => (notes_st _ _).bind0 fun _ => notes_trompR3 _ _ _
theorem notes_trompR (b l : Int) : (trompR b l).Notes 0 := by
  refine (notes_rd _).bind0 fun _ => (notes_gt _).bind0 fun _ => ?_
  split
  · exact notes_gt _
  · exact (notes_rd _).bind0 fun _ => notes_trompR2 _ _ _
theorem notes_slotsW (b l v : Int) : (slotsW b l v).Notes 0 :=
  (notes_trompR _ _).bind0 fun _ => (notes_gt _).bind0 fun _ => (notes_wr _ _).bind0 fun _ => (notes_st _ _).bind0 fun _ => (notes_trompW _ _ _).bind0 fun _ => notes_trompW _ _ _
theorem notes_slotsR (b l : Int) : (slotsR b l).Notes 0 :=
  (notes_trompR _ _).bind0 fun _ => (notes_trompW _ _ _).bind0 fun _ => (notes_trompR _ _).bind0 fun _ => notes_rd _
theorem notes_tableW (b l n w top me v : Int) : (tableW b l n w top me v).Notes 0 := by
  unfold tableW
  split
  · exact .ret _ _
  · exact (notes_gt _).bind0 fun _ => (notes_st _ _).bind0 fun _ => (notes_forP (fun _ _ => notes_slotsW _ _ _) _ _).bind0 fun _ => notes_st _ _
theorem notes_tableR (b l n w top me : Int) : (tableR b l n w top me).Notes 0 := by
  unfold tableR
  split
  · exact notes_gt _
  · exact (notes_slotsR _ _).bind0 fun _ => (notes_forP (fun _ _ => (notes_slotsR _ _).bind0 fun _ => .ret _ _) _ _).bind0 fun _ => (notes_forP (fun _ _ => notes_slotsW _ _ _) _ _).bind0 fun _ => .ret _ _
theorem notes_manyRs (b l n top me : Int) : ∀ (k : Nat) (j s v : Int), (manyRs b l n top me k j s v).Notes 0
  | 0, _, _, _ => .ret _ _
  | k + 1, j, s, v => by
    unfold manyRs
    refine (notes_tableR _ _ _ _ _ _).bind0 fun y => ?_
    split
    · exact notes_manyRs b l n top me k _ _ _
    · exact notes_manyRs b l n top me k _ _ _
theorem notes_regR (r : Reg) (me : Int) : (regR r me).Notes 0 := by
  unfold regR
  split
  · exact notes_rd _
  · split
    · exact notes_tableR _ _ _ _ _ _
    · exact (notes_manyRs _ _ _ _ _ _ _ _ _).bind0 fun _ => .ret _ _
theorem notes_regW (r : Reg) (me v : Int) : (regW r me v).Notes 0 := by
  unfold regW
  split
  · exact notes_wr _ _
  · split
    · exact notes_tableW _ _ _ _ _ _ _
    · exact (notes_manyRs _ _ _ _ _ _ _ _ _).bind0 fun _ => notes_tableW _ _ _ _ _ _ _
/-- What leaves no notes keeps their number. -/
theorem Prog.Notes.keep {α : Type} {p : Prog α} {n : Nat} (h : p.Notes 0) {S S1 : TS} {a : Option α} (hr : p.run S = (a, S1)) (hn : S.nts.length ≤ n) : S1.nts.length ≤ n := by
  have := h.run S
  rw [hr] at this
  simp only at this
  omega
end Kv
/-
  The program's Mem: a note left.
-/
namespace Go.Proofs.YtpcohbpeglledaaGreat
open Go.RowKit Kv
set_option maxRecDepth 100000 in
theorem note_p (B p : Nat) (S : TS) (n : Int) (w : World) (h : Plays B w p S) (hl : S.nts.length < maxAns) :
    Calls Tryz.prog 109 #[.pointer (some ⟨p, 0, none⟩), .int .i64 n] w fun e w' => e = .returned (.tuple #[]) ∧ Plays B w' p (S.noted n) ∧ KeepP B p w w' := by
  obtain ⟨h1, vA, vL, vC, vN, L, h⟩ := h
  have hc := cell_of_heap h.heap
  have hbo := h.ansN
  have hbn := h.ntsN
  unfold maxAns at hbo hbn hl
  have hle := h.lt
  have hge := h.ge
  obtain ⟨An, cn, hvN⟩ : ∃ A c, vN = .slice A S.nts.length c := by
    rcases h.rowN.2 with ⟨rfl, h0⟩ | ⟨g, cap, cur, rfl, _⟩
    · exact ⟨none, 0, by rw [h0]⟩
    · exact ⟨_, _, rfl⟩
  subst hvN
  obtain ⟨Ac, cc, hvC⟩ : ∃ A c, vC = .slice A S.acc.length c := by
    rcases h.rowC.2 with ⟨rfl, h0⟩ | ⟨g, cap, cur, rfl, _⟩
    · exact ⟨none, 0, by rw [h0]⟩
    · exact ⟨_, _, rfl⟩
  subst hvC
  have hL := Lib.hid h
  clear h
  obtain ⟨i0, hi, hz0, hz1, hz2⟩ := info_parts info_note
  go_enter Tryz.func109, Tryz.ntmps109
  go_wp2_with fail
  go_region_law ((refine step_append_lies _ (by rfl) _ _ _ (by rfl) B 94 i0 _ 2 16 Tryz.underlying34 hi hz0 hz1 hz2 rfl (by omega) (Value.slice An S.nts.length cn) S.nts.length (ntVals S.nts) (by rfl) ((World.ownsRow.drew hL.out.rowN).alloc _) ⟨w.heap.size, 0, none⟩ 1 1 [.int .i64 n, .int .i64 S.acc.length] (by rfl) (by rfl) (cells_new1 w _ _) (by simp [Value.oneCell']) (by omega) (by unfold maxLen; omega) (by omega) (by simp; omega) (w.heap.size + 1) (by simp) ?_; intro gg cap w1 hown1 hgrow hat hlt; have hp1 := grown_heap hL.out.heap hL.out.cNe.2.2 (grown1 hgrow); have hq1 := cell_of_heap hp1; have hf1 := frozen_of_heap hp1))
  all_goals
    obtain ⟨HM, HK⟩ := hL.out.grewN n (grown1 hgrow) (hat.imp id (by omega)) hown1 hl
    clear hown1 hgrow hat hlt hp1 hq1 hf1 hc
    generalize hv' : (Value.slice (some ⟨gg, 0, none⟩) (S.nts.length + 1) cap) = v' at *
    generalize w1.setCell ⟨p, 4, none⟩ v' = W at *
    clear hv' w1
    have HMh : Plays B W p (S.noted n) := ⟨h1, _, _, _, _, _, HM⟩
    have HKh := Lib.hid HK
    clear HM HK
    go_wp2_with fail
    first | go_end0 | refine bodyPost_ret (results_none rfl _ _ _) rfl ?_
    exact ⟨rfl, HMh, HKh.out⟩
end Go.Proofs.YtpcohbpeglledaaGreat
/-
  The document's Mem: a note left.
-/
namespace Go.Proofs.YtpcohbpeglledaaGreat
open Go.RowKit Kv
set_option maxRecDepth 100000 in
theorem note_rf (B p : Nat) (S : TS) (n : Int) (w : World) (h : RAt B w p false S) (hl : S.nts.length < maxAns) :
    Calls Tryz.prog 111 #[.pointer (some ⟨p, 0, none⟩), .int .i64 n] w fun e w' => e = .returned (.tuple #[]) ∧ RAt B w' p false (S.noted n) ∧ KeepR B p w w' := by
  obtain ⟨m, vA, vC, vN, vL, L, h, hn1, hn2⟩ := h
  have hnh := Lib.hid (And.intro hn1 hn2)
  clear hn1 hn2
  have hc := cell_of_heap h.heap
  have hbo := h.ansN
  have hbn := h.ntsN
  unfold maxAns at hbo hbn hl
  have hle := h.lt
  have hge := h.ge
  obtain ⟨An, cn, hvN⟩ : ∃ A c, vN = .slice A S.nts.length c := by
    rcases h.rowN.2 with ⟨rfl, h0⟩ | ⟨g, cap, cur, rfl, _⟩
    · exact ⟨none, 0, by rw [h0]⟩
    · exact ⟨_, _, rfl⟩
  subst hvN
  obtain ⟨Ac, cc, hvC⟩ : ∃ A c, vC = .slice A S.acc.length c := by
    rcases h.rowC.2 with ⟨rfl, h0⟩ | ⟨g, cap, cur, rfl, _⟩
    · exact ⟨none, 0, by rw [h0]⟩
    · exact ⟨_, _, rfl⟩
  subst hvC
  have hL := Lib.hid h
  clear h
  obtain ⟨i0, hi, hz0, hz1, hz2⟩ := info_parts info_note
  go_enter Tryz.func111, Tryz.ntmps111
  go_wp2_with fail
  go_region_law ((refine step_append_lies _ (by rfl) _ _ _ (by rfl) B 94 i0 _ 2 16 Tryz.underlying34 hi hz0 hz1 hz2 rfl (by omega) (Value.slice An S.nts.length cn) S.nts.length (ntVals S.nts) (by rfl) ((World.ownsRow.drew hL.out.rowN).alloc _) ⟨w.heap.size, 0, none⟩ 1 1 [.int .i64 n, .int .i64 S.acc.length] (by rfl) (by rfl) (cells_new1 w _ _) (by simp [Value.oneCell']) (by omega) (by unfold maxLen; omega) (by omega) (by simp; omega) (w.heap.size + 1) (by simp) ?_; intro gg cap w1 hown1 hgrow hat hlt; have hp1 := grown_heap hL.out.heap hL.out.cNe.2.2 (grown1 hgrow); have hq1 := cell_of_heap hp1; have hf1 := frozen_of_heap hp1))
  all_goals
    obtain ⟨HM, HK⟩ := hL.out.grewN n (grown1 hgrow) (hat.imp id (by omega)) hown1 hl
    clear hown1 hgrow hat hlt hp1 hq1 hf1 hc
    generalize hv' : (Value.slice (some ⟨gg, 0, none⟩) (S.nts.length + 1) cap) = v' at *
    generalize w1.setCell ⟨p, 4, none⟩ v' = W at *
    clear hv' w1
    have HMh : RAt B W p false (S.noted n) := ⟨_, _, _, _, _, _, HM, hnh.out.1, hnh.out.2⟩
    have HKh := Lib.hid HK
    clear HM HK
    go_wp2_with fail
    first | go_end0 | refine bodyPost_ret (results_none rfl _ _ _) rfl ?_
    exact ⟨rfl, HMh, HKh.out⟩
theorem note_r (B p : Nat) (o : Bool) (S : TS) (n : Int) (w : World) (h : RAt B w p o S) (hl : S.nts.length < maxAns) :
    Calls Tryz.prog 111 #[.pointer (some ⟨p, 0, none⟩), .int .i64 n] w (RPost encU B p w (nt n) o S) := by
  cases o with
  | false => exact (note_rf B p S n w h hl).mono fun e w' ⟨h1, h2, h3⟩ => ⟨(), false, _, h1, .done rfl, h2, h3⟩
  | true =>
    have hP := Lib.hid h
    have hK := Lib.hid (Keep.refl [3, 4, 5] B p w)
    obtain ⟨vA, m, vC, vN, vL, hc⟩ := h.cell
    clear h
    go_enter Tryz.func111, Tryz.ntmps111
    go_wp2_with fail
    first | go_end0 | refine bodyPost_ret (results_none rfl _ _ _) rfl ?_
    exact ⟨(), true, S, rfl, .over _ _, hP.out, hK.out⟩
theorem noteO {B p : Nat} {S : TS} {n : Int} {w : World} (h : Plays B w p S) (hl : S.nts.length < maxAns) :
    Calls Tryz.prog 109 #[.pointer (some ⟨p, 0, none⟩), .int .i64 n] w (Post encU B p w ((nt n).run S)) :=
  (note_p B p S n w h hl).mono fun _ _ ⟨h1, h2, h3⟩ => ⟨h1, h2, h3⟩
end Go.Proofs.YtpcohbpeglledaaGreat
/-
  Steps that tell how many notes there are; loops of plays; rows laid meanwhile.
-/
namespace Kv
theorem forP_consB {σ β : Type} (T : Int → σ → Prog σ) (a : Int) (l : List Int) (x : σ) (k : σ → Prog β) : (forP T (a :: l) x).bind k = (T a x).bind fun y => (forP T l y).bind k := Prog.bind_assoc _ _ _
theorem forP_nilB {σ β : Type} (T : Int → σ → Prog σ) (x : σ) (k : σ → Prog β) : (forP T [] x).bind k = k x := rfl
theorem ranks_cons (but : Int) (n : Nat) (i : Int) (h : i ≠ but) : ranksFrom but (n + 1) i = i :: ranksFrom but n (i + 1) := by
  rw [ranksFrom, if_neg h]
theorem ranks_skip (n : Nat) (i : Int) : ranksFrom i (n + 1) i = ranksFrom i n (i + 1) := by
  rw [ranksFrom, if_pos rfl]
theorem ranks_zero (but i : Int) : ranksFrom but 0 i = [] := rfl
end Kv
namespace Go.Proofs.YtpcohbpeglledaaGreat
open Go.RowKit Kv
theorem RegsAt.nth {ix : List Nat} {p b : Nat} {w : World} {l : List Reg} (h : RegsAt ix w p b l) {i : Nat} {r : Reg} (hi : l[i]? = some r) : RegCells w b (i * 7) r := reg_cells h.cells hi
/-- A block laid meanwhile is none of the Mem's. -/
theorem Plays.fresh {B p b : Nat} {w w' : World} {S : TS} (h : Plays B w p S) (hx : Ext w w') (hb : w.heap.size ≤ b) : ¬ ownR [2, 3, 4] w' p b := by
  obtain ⟨_, _, _, _, _, _, h⟩ := h
  intro ho
  have := (h.own ((ownR_same (Below.block hx p h.lt) b).1 ho)).2
  omega
theorem RAt.fresh {B p b : Nat} {w w' : World} {o : Bool} {S : TS} (h : RAt B w p o S) (hx : Ext w w') (hb : w.heap.size ≤ b) : ¬ ownR [3, 4, 5] w' p b := by
  obtain ⟨_, _, _, _, _, _, h, _⟩ := h
  intro ho
  have := (h.own ((ownR_same (Below.block hx p h.lt) b).1 ho)).2
  omega
/-- One call behind what was done: what it takes of the answers, and how many notes it leaves. -/
theorem tstepN {α β : Type} {B p : Nat} {w0 w : World} {S : TS} {R : Ending → World → Prop} {P : Program} {f : FuncId} {args : Array Value} {K : Ending → World → Prop} {enc : α → Value} {enc' : β → Value} {T : Prog α} {g : α → Prog β} {k : Nat} (hN : T.Notes k)
    (hO : Owes R enc' B p w0 ((T.bind g).run S)) (hB : KeepP B p w0 w) (h : Calls P f args w (Post enc B p w (T.run S))) (hp : ∀ w', R (stopE p) w' → K (stopE p) w')
    (hk : ∀ v S1 w1, S1.left ≤ S.left → (T.Asks → S1.left < S.left) → S1.nts.length ≤ S.nts.length + k → Plays B w1 p S1 → KeepP B p w w1 → KeepP B p w0 w1 → Owes R enc' B p w0 ((g v).run S1) → K (.returned (enc v)) w1) : Calls P f args w K := by
  refine tstep hO hB h hp fun v S1 w1 hr hP hk1 hk2 hO1 => hk v S1 w1 ?_ (fun ha => ha.left hr hP.1) ?_ hP hk1 hk2 hO1
  · have := Prog.run_left T S
    rw [hr] at this
    exact this
  · have := hN.run S
    rw [hr] at this
    exact this
theorem ref_notes {α : Type} {T : Prog α} {o o' : Bool} {S S' : TS} {a : α} {k : Nat} (hN : T.Notes k) (h : Ref T o S a o' S') : S'.nts.length ≤ S.nts.length + k := by
  have := hN.run S
  cases h with
  | over => omega
  | done h => rw [h] at this; exact this
  | stop _ h => rw [h] at this; exact this
theorem rstepN {α β : Type} {B p : Nat} {w0 w : World} {o : Bool} {S : TS} {R : Ending → World → Prop} {P : Program} {f : FuncId} {args : Array Value} {K : Ending → World → Prop} {enc : α → Value} {enc' : β → Value} {T : Prog α} {g : α → Prog β} {k : Nat} (hN : T.Notes k)
    (hO : ROwes R enc' B p w0 (T.bind g) o S) (hB : KeepR B p w0 w) (h : Calls P f args w (RPost enc B p w T o S))
    (hk : ∀ v o1 S1 w1, S1.left ≤ S.left → (o1 = false → o = false ∧ (T.Asks → S1.left < S.left)) → S1.nts.length ≤ S.nts.length + k → RAt B w1 p o1 S1 → KeepR B p w w1 → KeepR B p w0 w1 → ROwes R enc' B p w0 (g v) o1 S1 → K (.returned (enc v)) w1) : Calls P f args w K := by
  refine h.mono fun e w1 ⟨v, o1, S1, he, hr, h1, h2⟩ => ?_
  subst he
  refine hk v o1 S1 w1 (ref_lefts hr) (fun ho => ?_) (ref_notes hN hr) h1 h2 (hB.trans h2) (hO.then hr)
  subst ho
  cases hr with
  | done hr => exact ⟨rfl, fun ha => ha.left hr h1.len⟩
end Go.Proofs.YtpcohbpeglledaaGreat
/-
  Plain mathematics of three locks (Peterson's filter, Lamport's fast lock, the black-white bakery) as trees.
-/
namespace Kv
/-- The register at a place. -/
def regAt (l : List Reg) (i : Int) : Reg := l.getD i.toNat ⟨1, 0, 0, 1, -1, -1, 1⟩
theorem regAt_of {l : List Reg} {i : Int} {k : Nat} {r : Reg} (hi : i = k) (h : l[k]? = some r) : regAt l i = r := by
  unfold regAt
  rw [hi, Int.toNat_natCast, List.getD_eq_getElem?_getD, h]; rfl
/-- Waiting in the filter: till a thread's level is below one, or another one is the victim. -/
def filWait (r v : Reg) (me level : Int) : Nat → Prog Unit
  | 0 => .ret ()
  | n + 1 => (regR r me).bind fun x => if x < level then .ret () else (regR v me).bind fun y => if y = me + 1 then filWait r v me level n else .ret ()
/-- A level of the filter. -/
def filLevel (N : Nat) (l : List Reg) (n me level : Int) : Prog Unit :=
  (regW (regAt l me) me level).bind fun _ => (regW (regAt l (n - 1 + level)) me (me + 1)).bind fun _ =>
    forP (fun j _ => filWait (regAt l j) (regAt l (n - 1 + level)) me level N) (ranksFrom me n.toNat 0) ()
def filA (N : Nat) (l : List Reg) (n me : Int) : Prog Int :=
  (nt 1).bind fun _ => (forP (fun level _ => filLevel N l n me level) (ranksFrom (-1) (n - 1).toNat 1) ()).bind fun _ => (nt 3).bind fun _ => .ret 0
def filR (l : List Reg) (me : Int) : Prog Unit := (nt 5).bind fun _ => regW (regAt l me) me 0
/-- Reading a register till it tells 0. -/
def zeroP (r : Reg) (me : Int) : Nat → Prog Unit
  | 0 => .ret ()
  | n + 1 => (regR r me).bind fun x => if x = 0 then .ret () else zeroP r me n
/-- The fast lock: so many tries at most. -/
def fastTry (N : Nat) (l : List Reg) (n me : Int) : Nat → Prog Unit
  | 0 => .ret ()
  | k + 1 => (regW (regAt l (2 + me)) me 1).bind fun _ => (regW (regAt l 0) me (me + 1)).bind fun _ => (regR (regAt l 1) me).bind fun y =>
      if y = 0 then
        (regW (regAt l 1) me (me + 1)).bind fun _ => (regR (regAt l 0) me).bind fun x =>
          if x = me + 1 then .ret () else
            (regW (regAt l (2 + me)) me 0).bind fun _ => (forP (fun j _ => zeroP (regAt l (2 + j)) me N) (ranksFrom (-1) n.toNat 0) ()).bind fun _ =>
              (regR (regAt l 1) me).bind fun y => if y = me + 1 then .ret () else (zeroP (regAt l 1) me N).bind fun _ => fastTry N l n me k
      else (regW (regAt l (2 + me)) me 0).bind fun _ => (zeroP (regAt l 1) me N).bind fun _ => fastTry N l n me k
def fastA (N : Nat) (l : List Reg) (n me : Int) : Prog Int := (nt 1).bind fun _ => (fastTry N l n me N).bind fun _ => (nt 3).bind fun _ => .ret 0
def fastR (l : List Reg) (me : Int) : Prog Unit := (nt 5).bind fun _ => (regW (regAt l 1) me 0).bind fun _ => regW (regAt l (2 + me)) me 0
/-- The bakery: the ticket behind all of one's color. -/
def bwMost (l : List Reg) (n me c : Int) (t : Int) : Prog Int :=
  forP (fun j t => (regR (regAt l (1 + n + j)) me).bind fun x => .ret (if x % 2 = c then max t (x / 2) else t)) (ranksFrom me n.toNat 0) t
def bwChoose (r : Reg) (me : Int) : Nat → Prog Unit
  | 0 => .ret ()
  | n + 1 => (regR r me).bind fun x => if x = 0 then .ret () else bwChoose r me n
/-- Waiting till a thread is not ahead any more. -/
def bwWait (l : List Reg) (n me j t c : Int) : Nat → Prog Unit
  | 0 => .ret ()
  | k + 1 => (regR (regAt l (1 + n + j)) me).bind fun x =>
      if x / 2 = 0 then .ret () else if x % 2 = c then (if t < x / 2 ∨ (x / 2 = t ∧ me < j) then .ret () else bwWait l n me j t c k)
      else (regR (regAt l 0) me).bind fun y => if bitM y = c then bwWait l n me j t c k else .ret ()
def bwA (N : Nat) (l : List Reg) (own n me : Int) : Prog Int :=
  (nt 1).bind fun _ => (regW (regAt l (1 + me)) me 1).bind fun _ => (regR (regAt l 0) me).bind fun y => (st own (bitM y)).bind fun _ =>
    (bwMost l n me (bitM y) 0).bind fun t => (regW (regAt l (1 + n + me)) me (2 * (t + 1) + bitM y)).bind fun _ => (regW (regAt l (1 + me)) me 0).bind fun _ => (nt 2).bind fun _ =>
      (forP (fun j _ => (bwChoose (regAt l (1 + j)) me N).bind fun _ => bwWait l n me j (t + 1) (bitM y) N) (ranksFrom me n.toNat 0) ()).bind fun _ => (nt 3).bind fun _ => .ret 0
def bwR (l : List Reg) (own n me : Int) : Prog Unit :=
  (nt 5).bind fun _ => (gt own).bind fun x => (regW (regAt l 0) me (1 - bitM x)).bind fun _ => regW (regAt l (1 + n + me)) me (bitM x)
theorem filLevel_bind {β : Type} (N : Nat) (l : List Reg) (n me level : Int) (f : Unit → Prog β) : (filLevel N l n me level).bind f = (regW (regAt l me) me level).bind fun _ => (regW (regAt l (n - 1 + level)) me (me + 1)).bind fun _ =>
    (forP (fun j _ => filWait (regAt l j) (regAt l (n - 1 + level)) me level N) (ranksFrom me n.toNat 0) ()).bind f := by
  unfold filLevel
  simp only [Prog.bind_assoc]
theorem filWait_bind {β : Type} (r v : Reg) (me level : Int) (n : Nat) (f : Unit → Prog β) : (filWait r v me level (n + 1)).bind f = (regR r me).bind fun x => if x < level then f () else (regR v me).bind fun y => if y = me + 1 then (filWait r v me level n).bind f else f () := by
  rw [show filWait r v me level (n + 1) = (regR r me).bind fun x => if x < level then .ret () else (regR v me).bind fun y => if y = me + 1 then filWait r v me level n else .ret () from rfl, Prog.bind_assoc]
  congr 1
  funext x
  split
  · rfl
  · rw [Prog.bind_assoc]
    congr 1
    funext y
    split <;> rfl
theorem zeroP_bind {β : Type} (r : Reg) (me : Int) (n : Nat) (f : Unit → Prog β) : (zeroP r me (n + 1)).bind f = (regR r me).bind fun x => if x = 0 then f () else (zeroP r me n).bind f := by
  rw [show zeroP r me (n + 1) = (regR r me).bind fun x => if x = 0 then .ret () else zeroP r me n from rfl, Prog.bind_assoc]
  congr 1
  funext x
  split <;> rfl
theorem notes_filWait (r v : Reg) (me level : Int) : ∀ n : Nat, (filWait r v me level n).Notes 0
  | 0 => .ret _ _
  | n + 1 => by
    rw [show filWait r v me level (n + 1) = (regR r me).bind fun x => if x < level then .ret () else (regR v me).bind fun y => if y = me + 1 then filWait r v me level n else .ret () from rfl]
    refine (notes_regR _ _).bind0 fun x => ?_
    split
    · exact .ret _ _
    · refine (notes_regR _ _).bind0 fun y => ?_
      split
      · exact notes_filWait r v me level n
      · exact .ret _ _
theorem notes_zeroP (r : Reg) (me : Int) : ∀ n : Nat, (zeroP r me n).Notes 0
  | 0 => .ret _ _
  | n + 1 => by
    rw [show zeroP r me (n + 1) = (regR r me).bind fun x => if x = 0 then .ret () else zeroP r me n from rfl]
    refine (notes_regR _ _).bind0 fun x => ?_
    split
    · exact .ret _ _
    · exact notes_zeroP r me n
end Kv
/-
  The filter, by the program.
-/
namespace Go.Proofs.YtpcohbpeglledaaGreat
open Go.RowKit Kv
set_option maxRecDepth 100000 in
set_option maxHeartbeats 1000000 in
theorem filacq_p (B p N D : Nat) (S : TS) (alg mode base loc room : Int) (m : Nat) (rs : List Reg) (w : World) (h : Plays B w p S) (_hBw : B ≤ w.heap.size) (h1 : 1 ≤ N) (h2 : N ≤ 8) (hm1 : m < N) (hl : layM (filWants N) N mode base loc = some rs)
    (hok : ∀ r ∈ rs, r.ok ∧ r.n = N) (htold : ∀ (i : Nat) r, rs[i]? = some r → i ≠ m → 2 ≤ N → r.told m) (hD : S.left < D) (hn0 : S.nts.length = 0) :
    Calls Tryz.prog 39 #[.pointer (some ⟨p, 0, none⟩), .agg #[.int .i64 alg, .int .i64 N, .int .i64 mode, .int .i64 base, .int .i64 loc, .int .i64 room], .int .i64 m] w (Post encI B p w ((filA D rs N m).run S)) := by
  have hlen := layM_len hl
  rw [filWants_len] at hlen
  generalize hR : Post encI B p w ((filA D rs N m).run S) = R
  have hO : Owes R encI B p w ((filA D rs N m).run S) := hR ▸ owes _ _ _ _ _
  clear hR
  have hK := Keep.refl [2, 3, 4] B p w
  have hP := h
  have b1 := hP.held (.cells #[.int .i64 alg, .int .i64 N, .int .i64 mode, .int .i64 base, .int .i64 loc, .int .i64 room] 52)
  replace hK := hK.trans (Keep.alloc (.cells #[.int .i64 alg, .int .i64 N, .int .i64 mode, .int .i64 base, .int .i64 loc, .int .i64 room] 52) hP.lt hP.le)
  replace hP := hP.alloc (.cells #[.int .i64 alg, .int .i64 N, .int .i64 mode, .int .i64 base, .int .i64 loc, .int .i64 room] 52)
  have c_b1 := b1.cells
  clear h
  unfold filA at hO
  go_enter Tryz.func39, Tryz.ntmps39
  go_wp2_with fail
  refine (fillay_p alg mode base loc room m N rs _ h1 h2 hl (by omega) (by omega)).mono ?_
  rintro e w1 ⟨b, c, A2, c2, rfl, hA2, hge, hb, hcells, q1, q2, hx⟩
  have hreg : RegsAt [2, 3, 4] w1 p b rs := ⟨hb, hP.fresh hx hge, hcells⟩
  replace hK := hK.trans (Keep.of_ext hx hP.lt hP.le)
  replace hP := hP.ext hx
  have hA2 := Lib.hid hA2
  have hlh := Lib.hid hlen
  have hlM := Lib.hid hl
  clear hx hcells hge hb b1 c_b1 hlen hl
  go_wp2_with fail
  refine tstepN (notes_nt 1) hO hK (noteO hP (by unfold maxAns; omega)) (fun _ h => ⟨rfl, h⟩) ?_
  clear hO hK hP
  intro u S1 w2 hlf _ hnn hP hk hK hO
  replace hD := Nat.lt_of_le_of_lt hlf hD
  replace hn0 : S1.nts.length ≤ 1 := by omega
  replace hreg := hreg.keep hk
  clear hk hlf hnn
  generalize hM : N - 1 = M at *
  rw [show ((N : Int) - 1).toNat = M from by omega] at hO
  have hOh := Lib.hid hO
  have hNM := Lib.hid hM
  clear hO hM
  go_wp2_with fail
  go_loopw [28] (fun i wr => ∃ (k : Nat) (S2 : TS), i = .int .i64 k ∧ k ≤ M ∧ Plays B wr p S2 ∧ KeepP B p w wr ∧ RegsAt [2, 3, 4] wr p b rs ∧ S2.left < D ∧ S2.nts.length ≤ 1 ∧ Hid (Owes R encI B p w (((forP (fun level _ => filLevel D rs N m level) (ranksFrom (-1) (M - k) ((k : Int) + 1)) ()).bind fun _ => (nt 3).bind fun _ => .ret 0).run S2))) (fun i _ => M - (intOf i).toNat)
  case atStart => exact ⟨0, S1, rfl, by omega, hP, hK, hreg, hD, hn0, hOh⟩
  case round =>
    clear hP hK hreg hD hn0 hOh
    obtain ⟨k, S2, rfl, hk, hP, hK, hreg, hD, hn0, hO⟩ := hrel
    by_cases hlt : k < M
    · have hNe : k + 2 ≤ N := by have := hNM.out; omega
      obtain rfl := hA2.out (by omega)
      have hlen := hlh.out
      obtain ⟨r0, hr0⟩ : ∃ r, rs[m]? = some r := ⟨_, List.getElem?_eq_getElem (by omega)⟩
      obtain ⟨rv, hrv⟩ : ∃ r, rs[N + k]? = some r := ⟨_, List.getElem?_eq_getElem (by omega)⟩
      have hok0 := (hok _ (List.mem_of_getElem? hr0)).1
      have hokv := (hok _ (List.mem_of_getElem? hrv)).1
      have hm0 : (m : Int) < r0.n := by rw [(hok _ (List.mem_of_getElem? hr0)).2]; omega
      have hmv : (m : Int) < rv.n := by rw [(hok _ (List.mem_of_getElem? hrv)).2]; omega
      have hcv := hreg.nth hrv
      rw [show (N + k) * 7 = N * 7 + k * 7 from by omega] at hcv
      obtain ⟨e0, e1, e2, e3, e4, e5, e6⟩ := hcv
      have e0r := regAt_of (i := (m : Int)) rfl hr0
      have evr := regAt_of (i := (N : Int) - 1 + ((k : Int) + 1)) (by omega) hrv
      replace hO := hO.out
      rw [show M - k = (M - (k + 1)) + 1 from by omega, ranks_cons _ _ _ (by omega), forP_consB] at hO
      rw [filLevel_bind, e0r, evr, Int.toNat_natCast] at hO
      have hOh := Lib.hid hO
      have hrh := Lib.hid (And.intro hr0 (And.intro hrv hlen))
      have hk8 : k < 8 := by omega
      have hN2 : 2 ≤ N := by omega
      clear hO hr0 hrv hlen hNe e0r evr hA2
      have hPo := hP
      have bV := hP.held (.cells #[.int .i64 rv.kind, .int .i64 rv.base, .int .i64 rv.loc, .int .i64 rv.n, .int .i64 rv.wr, .int .i64 rv.rd, .int .i64 rv.top] 77)
      replace hK := hK.trans (Keep.alloc (.cells #[.int .i64 rv.kind, .int .i64 rv.base, .int .i64 rv.loc, .int .i64 rv.n, .int .i64 rv.wr, .int .i64 rv.rd, .int .i64 rv.top] 77) hP.lt hP.le)
      replace hP := hP.alloc (.cells #[.int .i64 rv.kind, .int .i64 rv.base, .int .i64 rv.loc, .int .i64 rv.n, .int .i64 rv.wr, .int .i64 rv.rd, .int .i64 rv.top] 77)
      have c_bV := bV.cells
      replace hreg := hreg.extL ((Ext.refl wr).alloc (.cells #[.int .i64 rv.kind, .int .i64 rv.base, .int .i64 rv.loc, .int .i64 rv.n, .int .i64 rv.wr, .int .i64 rv.rd, .int .i64 rv.top] 77)) hPo.lt
      clear hPo
      go_wp2_with fail
      rename_i hKK
      replace hKK := Lib.hid hKK
      refine wp_scope_straight ?_
      clear e0 e1 e2 e3 e4 e5 e6
      obtain ⟨a0, a1, a2, a3, a4, a5, a6⟩ := hreg.nth hrh.out.1
      generalize wr.heap.size = v at *
      generalize wr.alloc _ = W at *
      go_wp2_with fail
      clear a0 a1 a2 a3 a4 a5 a6
      replace hO := hOh.out
      clear hOh c_bV
      refine tstepN (notes_regW _ _ _) hO hK (reg_write_p B p S2 r0 m (k + 1) _ hP hok0 ⟨by omega, hm0⟩) (fun _ h => ⟨rfl, h⟩) ?_
      clear hO hK hP
      intro u S3 w3 hlf _ hnn hP hk1 hK hO
      replace hD := Nat.lt_of_le_of_lt hlf hD
      replace hn0 := Nat.le_trans hnn hn0
      replace hreg := hreg.keep hk1
      replace bV := bV.keep hk1
      have c_bV := bV.cells
      have hOh := Lib.hid hO
      clear hk1 hlf hnn hO
      go_wp2_with fail
      replace hO := hOh.out
      clear hOh c_bV
      refine tstepN (notes_regW _ _ _) hO hK (reg_write_p B p S3 rv m (m + 1) _ hP hokv ⟨by omega, hmv⟩) (fun _ h => ⟨rfl, h⟩) ?_
      clear hO hK hP
      intro u S4 w4 hlf _ hnn hP hk1 hK hO
      replace hD := Nat.lt_of_le_of_lt hlf hD
      replace hn0 := Nat.le_trans hnn hn0
      replace hreg := hreg.keep hk1
      replace bV := bV.keep hk1
      have hOh := Lib.hid hO
      clear hk1 hlf hnn hO
      go_wp2_with fail
      apply wp_label
      replace hO := hOh.out
      clear hOh
      obtain ⟨F, hF⟩ : ∃ F : Unit → Prog Int, F = (fun _ : Unit => (forP (fun level _ => filLevel D rs N m level) (ranksFrom (-1) (M - (k + 1)) ((k : Int) + 1 + 1)) ()).bind fun _ => (nt 3).bind fun _ => Prog.ret (0 : Int)) := ⟨_, rfl⟩
      rw [← hF] at hO
      have hFh := Lib.hid hF
      have hOh := Lib.hid hO
      clear hF hO
      go_wp2_with fail
      go_loopw [51] (fun i wr => ∃ (j : Nat) (S5 : TS), i = .int .i64 j ∧ j ≤ N ∧ Plays B wr p S5 ∧ KeepP B p w wr ∧ RegsAt [2, 3, 4] wr p b rs ∧ HeldP wr p v (.cells #[.int .i64 rv.kind, .int .i64 rv.base, .int .i64 rv.loc, .int .i64 rv.n, .int .i64 rv.wr, .int .i64 rv.rd, .int .i64 rv.top] 77) ∧ S5.left < D ∧ S5.nts.length ≤ 1 ∧ Hid (Owes R encI B p w (((forP (fun j _ => filWait (regAt rs j) rv m ((k : Int) + 1) D) (ranksFrom m (N - j) j) ()).bind F).run S5))) (fun i _ => N - (intOf i).toNat)
      case atStart => exact ⟨0, S4, rfl, by omega, hP, hK, hreg, bV, hD, hn0, hOh⟩
      case round =>
        clear hP hK hreg bV hD hn0 hOh
        obtain ⟨j, S5, rfl, hj, hP, hK, hreg, bV, hD, hn0, hO⟩ := hrel
        replace hO := hO.out
        by_cases hjN : j < N
        · obtain ⟨g, hg⟩ : ∃ g, N - j = g + 1 := ⟨N - j - 1, by omega⟩
          by_cases hjm : j = m
          · subst hjm
            rw [hg, ranks_skip, show g = N - (j + 1) from by omega] at hO
            clear hg
            have hf := Lib.hid hO
            clear hO
            go_wp2_with fail
            refine ⟨⟨j + 1, S5, by go_num, by omega, hP, hK, hreg, bV, by omega, by omega, hf⟩, ?_⟩
            simp [intOf]; omega
          · have djm : ((j : Int) == (m : Int)) = false := by rw [beq_eq_false_iff_ne]; omega
            obtain ⟨rj, hrj⟩ : ∃ r, rs[j]? = some r := ⟨_, List.getElem?_eq_getElem (by have := hrh.out.2.2; omega)⟩
            have hokj := (hok _ (List.mem_of_getElem? hrj)).1
            have hmj : (m : Int) < rj.n := by rw [(hok _ (List.mem_of_getElem? hrj)).2]; omega
            have htj := htold j rj hrj hjm (by omega)
            rw [hg, ranks_cons _ _ _ (by omega), forP_consB, regAt_of rfl hrj, show g = N - (j + 1) from by omega] at hO
            have hrjh := Lib.hid hrj
            have hOh := Lib.hid hO
            clear hg hrj hO
            go_wp2_with fail
            go_loopw [] (fun wr => ∃ (n : Nat) (S6 : TS), Plays B wr p S6 ∧ KeepP B p w wr ∧ RegsAt [2, 3, 4] wr p b rs ∧ HeldP wr p v (.cells #[.int .i64 rv.kind, .int .i64 rv.base, .int .i64 rv.loc, .int .i64 rv.n, .int .i64 rv.wr, .int .i64 rv.rd, .int .i64 rv.top] 77) ∧ S6.left < D ∧ S6.nts.length ≤ 1 ∧ S6.left < n ∧ Hid (Owes R encI B p w (((filWait rj rv m ((k : Int) + 1) n).bind fun _ => (forP (fun j _ => filWait (regAt rs j) rv m ((k : Int) + 1) D) (ranksFrom m (N - (j + 1)) ((j : Int) + 1)) ()).bind F).run S6))) (fun wr => leftW 1 3 wr p)
            case atStart => exact ⟨D, S5, hP, hK, hreg, bV, hD, hn0, hD, hOh⟩
            case round =>
              clear hP hK hreg bV hD hn0 hOh
              obtain ⟨n, S6, hP, hK, hreg, bV, hD, hn0, hDn, hO⟩ := hrel
              replace hO := hO.out
              have hlw := Lib.hid hP.left
              cases n with
              | zero => omega
              | succ n =>
                rw [filWait_bind] at hO
                obtain ⟨a0, a1, a2, a3, a4, a5, a6⟩ := hreg.nth hrjh.out
                have hOh := Lib.hid hO
                clear hO
                go_wp2_with fail
                replace hO := hOh.out
                clear hOh a0 a1 a2 a3 a4 a5 a6
                refine tstepN (notes_regR _ _) hO hK (reg_read_p B p S6 rj m _ hP hokj ⟨by omega, hmj⟩) (fun _ h => ⟨rfl, h⟩) ?_
                clear hO hK hP
                intro x S7 w5 _ hlf hnn hP hk1 hK hO
                replace hlf := hlf (asks_regR _ _ htj)
                replace hreg := hreg.keep hk1
                replace bV := bV.keep hk1
                replace hn0 := Nat.le_trans hnn hn0
                clear hk1 hnn
                by_cases hx : x < (k : Int) + 1
                · have dx : decide (x < (k : Int) + 1) = true := by simpa using hx
                  rw [if_pos hx] at hO
                  have hD7 : S7.left < D := by omega
                  clear hx
                  have hf := Lib.hid hO
                  clear hO
                  go_wp2_with fail
                  refine ⟨⟨j + 1, S7, by go_num, by omega, hP, hK, hreg, bV, by omega, hn0, hf⟩, ?_⟩
                  simp [intOf]; omega
                · have dx : decide (x < (k : Int) + 1) = false := by simpa using hx
                  rw [if_neg hx] at hO
                  clear hx
                  have c_bV := bV.cells
                  have hOh := Lib.hid hO
                  clear hO
                  go_wp2_with fail
                  replace hO := hOh.out
                  clear hOh c_bV
                  refine tstepN (notes_regR _ _) hO hK (reg_read_p B p S7 rv m _ hP hokv ⟨by omega, hmv⟩) (fun _ h => ⟨rfl, h⟩) ?_
                  clear hO hK hP
                  intro y S8 w6 hlf2 _ hnn hP hk1 hK hO
                  replace hreg := hreg.keep hk1
                  replace bV := bV.keep hk1
                  replace hn0 := Nat.le_trans hnn hn0
                  clear hk1 hnn
                  by_cases hy : y = (m : Int) + 1
                  · have dy : (y != (m : Int) + 1) = false := by simpa using hy
                    rw [if_pos hy] at hO
                    clear hy
                    have hlw2 := Lib.hid hP.left
                    have hf := Lib.hid hO
                    clear hO
                    go_wp2_with fail
                    refine ⟨⟨n, S8, hP, hK, hreg, bV, by omega, hn0, by omega, hf⟩, ?_⟩
                    rw [hlw.out, hlw2.out]
                    omega
                  · have dy : (y != (m : Int) + 1) = true := by simpa using hy
                    rw [if_neg hy] at hO
                    clear hy
                    have hf := Lib.hid hO
                    clear hO
                    go_wp2_with fail
                    refine ⟨⟨j + 1, S8, by go_num, by omega, hP, hK, hreg, bV, by omega, hn0, hf⟩, ?_⟩
                    simp [intOf]; omega
        · obtain rfl : j = N := by omega
          rw [Nat.sub_self, ranks_zero, forP_nilB, hFh.out] at hO
          have hf := Lib.hid (show Owes R encI B p w (((forP (fun level _ => filLevel D rs j m level) (ranksFrom (-1) (M - (k + 1)) (((k + 1 : Nat) : Int) + 1)) ()).bind fun _ => (nt 3).bind fun _ => Prog.ret (0 : Int)).run S5) from by
            rw [show (((k + 1 : Nat) : Int) + 1) = (k : Int) + 1 + 1 from by omega]
            exact hO)
          clear hO
          go_wp2_with fail
          refine hKK.out _ _ ?_
          go_wp2_with fail
          refine ⟨⟨k + 1, S5, by go_num, by omega, hP, hK, hreg, hD, hn0, hf⟩, ?_⟩
          simp [intOf]; omega
    · obtain rfl : k = M := by omega
      replace hO := hO.out
      rw [Nat.sub_self, ranks_zero, forP_nilB] at hO
      go_wp2_with fail
      refine tstepN (notes_nt 3) hO hK (noteO hP (by unfold maxAns; omega)) (fun _ h => ⟨rfl, h⟩) ?_
      clear hO hK hP
      intro u S3 w3 _ _ _ hP _ hK hO
      have hf := hO.done (v := (0 : Int)) hP hK
      clear hO hP hK
      go_wp2_with fail
      first | exact hf | (go_ret; exact hf)
set_option maxRecDepth 100000 in
theorem filrel_p (B p N : Nat) (S : TS) (alg mode base loc room : Int) (m : Nat) (rs : List Reg) (w : World) (h : Plays B w p S) (h1 : 1 ≤ N) (h2 : N ≤ 8) (hm1 : m < N) (hl : layM (filWants N) N mode base loc = some rs)
    (hok : ∀ r ∈ rs, r.ok ∧ r.n = N) (hn0 : S.nts.length = 0) :
    Calls Tryz.prog 42 #[.pointer (some ⟨p, 0, none⟩), .agg #[.int .i64 alg, .int .i64 N, .int .i64 mode, .int .i64 base, .int .i64 loc, .int .i64 room], .int .i64 m] w (Post encU B p w ((filR rs m).run S)) := by
  have hlen := layM_len hl
  rw [filWants_len] at hlen
  generalize hR : Post encU B p w ((filR rs m).run S) = R
  have hO : Owes R encU B p w ((filR rs m).run S) := hR ▸ owes _ _ _ _ _
  clear hR
  have hK := Keep.refl [2, 3, 4] B p w
  have hP := h
  have b1 := hP.held (.cells #[.int .i64 alg, .int .i64 N, .int .i64 mode, .int .i64 base, .int .i64 loc, .int .i64 room] 52)
  replace hK := hK.trans (Keep.alloc (.cells #[.int .i64 alg, .int .i64 N, .int .i64 mode, .int .i64 base, .int .i64 loc, .int .i64 room] 52) hP.lt hP.le)
  replace hP := hP.alloc (.cells #[.int .i64 alg, .int .i64 N, .int .i64 mode, .int .i64 base, .int .i64 loc, .int .i64 room] 52)
  have c_b1 := b1.cells
  clear h
  unfold filR at hO
  go_enter Tryz.func42, Tryz.ntmps42
  go_wp2_with fail
  refine (fillay_p alg mode base loc room m N rs _ h1 h2 hl (by omega) (by omega)).mono ?_
  rintro e w1 ⟨b, c, A2, c2, rfl, hA2, hge, hb, hcells, q1, q2, hx⟩
  have hreg : RegsAt [2, 3, 4] w1 p b rs := ⟨hb, hP.fresh hx hge, hcells⟩
  replace hK := hK.trans (Keep.of_ext hx hP.lt hP.le)
  replace hP := hP.ext hx
  obtain ⟨r0, hr0⟩ : ∃ r, rs[m]? = some r := ⟨_, List.getElem?_eq_getElem (by omega)⟩
  have hok0 := (hok _ (List.mem_of_getElem? hr0)).1
  have hm0 : (m : Int) < r0.n := by rw [(hok _ (List.mem_of_getElem? hr0)).2]; omega
  rw [regAt_of rfl hr0] at hO
  have hrh := Lib.hid hr0
  clear hx hcells hge hb b1 c_b1 hlen hl hr0 hA2 hok
  go_wp2_with fail
  refine tstepN (notes_nt 5) hO hK (noteO hP (by unfold maxAns; omega)) (fun _ h => ⟨rfl, h⟩) ?_
  clear hO hK hP
  intro u S1 w2 _ _ _ hP hk hK hO
  replace hreg := hreg.keep hk
  clear hk
  obtain ⟨a0, a1, a2, a3, a4, a5, a6⟩ := hreg.nth hrh.out
  go_wp2_with fail
  clear a0 a1 a2 a3 a4 a5 a6 hrh hreg
  refine tlast hO hK (reg_write_p B p S1 r0 m 0 _ hP hok0 ⟨by omega, hm0⟩) (fun _ h => ⟨rfl, h⟩) ?_
  clear hO hK hP
  intro u S2 w3 hr hP hk hK hO
  have hf := hO.done hP hK
  clear hO hP hK hr hk
  go_wp2_with fail
  first | exact hf | (refine bodyPost_ret (results_none rfl _ _ _) rfl ?_; exact hf)
end Go.Proofs.YtpcohbpeglledaaGreat
/-
  The filter, by the document.
-/
namespace Kv
theorem filWait_succ (r v : Reg) (me level : Int) (n : Nat) : filWait r v me level (n + 1) = (regR r me).bind fun x => if x < level then .ret () else (regR v me).bind fun y => if y = me + 1 then filWait r v me level n else .ret () := rfl
end Kv
namespace Go.Proofs.YtpcohbpeglledaaGreat
open Go.RowKit Kv
set_option maxRecDepth 100000 in
set_option maxHeartbeats 1000000 in
theorem filwait_r (B p D : Nat) (o : Bool) (S : TS) (r v : Reg) (me level : Int) (w : World) (h : RAt B w p o S) (hr : r.ok) (hv : v.ok) (hm0 : 0 ≤ me) (hm9 : me ≤ 100) (hmr : me < r.n) (hmv : me < v.n) (ht : r.told me) (hD : o = false → S.left < D) :
    Calls Tryz.prog 112 #[.pointer (some ⟨p, 0, none⟩), encR r, encR v, .int .i64 me, .int .i64 level] w (RPost encU B p w (filWait r v me level D) o S) := by
  generalize hR : RPost encU B p w (filWait r v me level D) o S = R
  have hO : ROwes R encU B p w (filWait r v me level D) o S := hR ▸ rowes _ _ _ _ _ _ _
  clear hR
  unfold encR
  have hK := Keep.refl [3, 4, 5] B p w
  have hP := h
  have b1 := hP.held (.cells #[.int .i64 r.kind, .int .i64 r.base, .int .i64 r.loc, .int .i64 r.n, .int .i64 r.wr, .int .i64 r.rd, .int .i64 r.top] 77)
  replace hK := hK.trans (Keep.alloc (.cells #[.int .i64 r.kind, .int .i64 r.base, .int .i64 r.loc, .int .i64 r.n, .int .i64 r.wr, .int .i64 r.rd, .int .i64 r.top] 77) hP.lt hP.le)
  replace hP := hP.alloc (.cells #[.int .i64 r.kind, .int .i64 r.base, .int .i64 r.loc, .int .i64 r.n, .int .i64 r.wr, .int .i64 r.rd, .int .i64 r.top] 77)
  have b2 := hP.held (.cells #[.int .i64 v.kind, .int .i64 v.base, .int .i64 v.loc, .int .i64 v.n, .int .i64 v.wr, .int .i64 v.rd, .int .i64 v.top] 77)
  simp only [World.size_alloc] at b2
  replace b1 := b1.alloc (.cells #[.int .i64 v.kind, .int .i64 v.base, .int .i64 v.loc, .int .i64 v.n, .int .i64 v.wr, .int .i64 v.rd, .int .i64 v.top] 77) hP.lt
  replace hK := hK.trans (Keep.alloc (.cells #[.int .i64 v.kind, .int .i64 v.base, .int .i64 v.loc, .int .i64 v.n, .int .i64 v.wr, .int .i64 v.rd, .int .i64 v.top] 77) hP.lt hP.le)
  replace hP := hP.alloc (.cells #[.int .i64 v.kind, .int .i64 v.base, .int .i64 v.loc, .int .i64 v.n, .int .i64 v.wr, .int .i64 v.rd, .int .i64 v.top] 77)
  have c_b1 := b1.cells
  have c_b2 := b2.cells
  clear h
  go_enter Tryz.func112, Tryz.ntmps112
  go_wp2_with fail
  clear c_b1 c_b2
  generalize hbb : w.heap.size = b at *
  generalize World.alloc (World.alloc _ _) _ = W0 at *
  have hOh := Lib.hid hO
  clear hO hbb
  go_loopw [] (fun wr => ∃ (n : Nat) (o2 : Bool) (S2 : TS), RAt B wr p o2 S2 ∧ KeepR B p w wr ∧ HeldR wr p b (.cells #[.int .i64 r.kind, .int .i64 r.base, .int .i64 r.loc, .int .i64 r.n, .int .i64 r.wr, .int .i64 r.rd, .int .i64 r.top] 77) ∧ HeldR wr p (b + 1) (.cells #[.int .i64 v.kind, .int .i64 v.base, .int .i64 v.loc, .int .i64 v.n, .int .i64 v.wr, .int .i64 v.rd, .int .i64 v.top] 77) ∧ Hid (ROwes R encU B p w (filWait r v me level n) o2 S2) ∧ (o2 = false → S2.left < n)) (fun wr => leftR wr p)
  case atStart => exact ⟨D, o, S, hP, hK, b1, b2, hOh, hD⟩
  case round =>
    clear hP hK b1 b2 hOh hD
    obtain ⟨n, o2, S2, hP, hK, b1, b2, hO, hD⟩ := hrel
    replace hO := hO.out
    have hlw := Lib.hid hP.leftR
    obtain ⟨_, _, _, _, _, hcc⟩ := hP.cell
    cases o2 with
    | true =>
      have hf : R (.returned (encU ())) wr := hO.over () hP hK
      clear hO hP hK hD b1 b2
      go_wp2_with fail
      first | exact hf | (refine bodyPost_ret (results_none rfl _ _ _) rfl ?_; exact hf)
    | false =>
      have hD := hD rfl
      cases n with
      | zero => omega
      | succ n =>
        rw [filWait_succ] at hO
        have c_b1 := b1.cells
        have hOh := Lib.hid hO
        clear hO
        go_wp2_with fail
        replace hO := hOh.out
        clear hcc c_b1 hOh
        refine rstepL hO hK (reg_read_r B p false S2 r me _ hP hr ⟨hm0, hmr⟩) ?_
        clear hO hK hP
        intro x o3 S3 w4 hlf hlt hP hk hK hO
        replace b1 := b1.keep hk
        replace b2 := b2.keep hk
        clear hk
        obtain ⟨_, _, _, _, _, hcc⟩ := hP.cell
        by_cases hx : x < level
        · have dx : decide (x < level) = true := by simpa using hx
          rw [if_pos hx] at hO
          have hf : R (.returned (encU ())) w4 := hO.ret hP hK
          clear hO hP hK hcc hx b1 b2
          go_wp2_with fail
          first | exact hf | (refine bodyPost_ret (results_none rfl _ _ _) rfl ?_; exact hf)
        · have dx : decide (x < level) = false := by simpa using hx
          rw [if_neg hx] at hO
          clear hx
          cases o3 with
          | true =>
            have hlw2 := Lib.hid hP.leftR
            have hOh := Lib.hid hO
            clear hO
            go_wp2_with fail
            refine ⟨⟨n, true, S3, hP, hK, b1, b2, hOh.out.any _, fun h => by cases h⟩, ?_⟩
            rw [hlw.out, hlw2.out]
            simp
            omega
          | false =>
            replace hlt := (hlt rfl).2 (asks_regR _ _ ht)
            have c_b2 := b2.cells
            have hOh := Lib.hid hO
            clear hO
            go_wp2_with fail
            replace hO := hOh.out
            clear hcc c_b2 hOh
            refine rstepL hO hK (reg_read_r B p false S3 v me _ hP hv ⟨hm0, hmv⟩) ?_
            clear hO hK hP
            intro y o4 S4 w5 hlf4 _ hP hk hK hO
            replace b1 := b1.keep hk
            replace b2 := b2.keep hk
            clear hk
            by_cases hy : y = me + 1
            · have dy : (y != me + 1) = false := by simpa using hy
              rw [if_pos hy] at hO
              have hlw2 := Lib.hid hP.leftR
              have hOh := Lib.hid hO
              clear hO hy
              go_wp2_with fail
              refine ⟨⟨n, o4, S4, hP, hK, b1, b2, hOh, fun _ => by omega⟩, ?_⟩
              rw [hlw.out, hlw2.out]
              simp only [Bool.false_eq_true, if_false]
              split <;> omega
            · have dy : (y != me + 1) = true := by simpa using hy
              rw [if_neg hy] at hO
              have hf : R (.returned (encU ())) w5 := hO.ret hP hK
              clear hO hP hK hy b1 b2
              go_wp2_with fail
              first | exact hf | (refine bodyPost_ret (results_none rfl _ _ _) rfl ?_; exact hf)
end Go.Proofs.YtpcohbpeglledaaGreat
/-
  The filter, by the document: acquiring and releasing.
-/
namespace Go.Proofs.YtpcohbpeglledaaGreat
open Go.RowKit Kv
set_option maxRecDepth 100000 in
set_option maxHeartbeats 2000000 in
theorem filacq_r (B p N D : Nat) (o : Bool) (S : TS) (alg mode base loc room : Int) (m : Nat) (rs : List Reg) (w : World) (h : RAt B w p o S) (h1 : 1 ≤ N) (h2 : N ≤ 8) (hm1 : m < N) (hl : layM (filWants N) N mode base loc = some rs)
    (hok : ∀ r ∈ rs, r.ok ∧ r.n = N) (htold : ∀ (i : Nat) r, rs[i]? = some r → i ≠ m → 2 ≤ N → r.told m) (hD : S.left < D) (hn0 : S.nts.length = 0) :
    Calls Tryz.prog 40 #[.pointer (some ⟨p, 0, none⟩), .agg #[.int .i64 alg, .int .i64 N, .int .i64 mode, .int .i64 base, .int .i64 loc, .int .i64 room], .int .i64 m] w (RPost encI B p w (filA D rs N m) o S) := by
  have hlen := layM_len hl
  rw [filWants_len] at hlen
  generalize hR : RPost encI B p w (filA D rs N m) o S = R
  have hO : ROwes R encI B p w (filA D rs N m) o S := hR ▸ rowes _ _ _ _ _ _ _
  clear hR
  have hK := Keep.refl [3, 4, 5] B p w
  have hP := h
  have b1 := hP.held (.cells #[.int .i64 alg, .int .i64 N, .int .i64 mode, .int .i64 base, .int .i64 loc, .int .i64 room] 52)
  replace hK := hK.trans (Keep.alloc (.cells #[.int .i64 alg, .int .i64 N, .int .i64 mode, .int .i64 base, .int .i64 loc, .int .i64 room] 52) hP.lt hP.le)
  replace hP := hP.alloc (.cells #[.int .i64 alg, .int .i64 N, .int .i64 mode, .int .i64 base, .int .i64 loc, .int .i64 room] 52)
  have c_b1 := b1.cells
  clear h
  unfold filA at hO
  go_enter Tryz.func40, Tryz.ntmps40
  go_wp2_with fail
  refine (filregs_r alg mode base loc room N rs _ h1 h2 hl).mono ?_
  rintro e w1 ⟨b, c, rfl, hge, hb, hcells, q1, q2, hx⟩
  have hreg : RegsAt [3, 4, 5] w1 p b rs := ⟨hb, hP.fresh hx hge, hcells⟩
  replace hK := hK.trans (Keep.of_ext hx hP.lt hP.le)
  replace b1 := b1.ext hx hP.lt
  replace hP := hP.ext hx
  have hlh := Lib.hid hlen
  clear hx hcells hge hb c_b1 hlen hl
  generalize w.heap.size = z at *
  go_wp2_with fail
  refine rstepN (notes_nt 1) hO hK (note_r B p o S 1 _ hP (by unfold maxAns; omega)) ?_
  clear hO hK hP
  intro u o1 S1 w2 hlf _ hnn hP hk hK hO
  replace hD := Nat.lt_of_le_of_lt hlf hD
  replace hn0 : S1.nts.length ≤ 1 := by omega
  replace hreg := hreg.keep hk
  replace b1 := b1.keep hk
  clear hk hlf hnn
  obtain ⟨M, hM⟩ : ∃ M, M = N - 1 := ⟨_, rfl⟩
  rw [show ((N : Int) - 1).toNat = M from by omega] at hO
  have hOh := Lib.hid hO
  have hNM := Lib.hid hM
  clear hO hM
  go_wp2_with fail
  go_loopw [8] (fun i wr => ∃ (k : Nat) (o2 : Bool) (S2 : TS), i = .int .i64 ((k : Int) + 1) ∧ k ≤ M ∧ RAt B wr p o2 S2 ∧ KeepR B p w wr ∧ HeldR wr p z (.cells #[.int .i64 alg, .int .i64 N, .int .i64 mode, .int .i64 base, .int .i64 loc, .int .i64 room] 52) ∧ RegsAt [3, 4, 5] wr p b rs ∧ S2.left < D ∧ S2.nts.length ≤ 1 ∧ Hid (ROwes R encI B p w ((forP (fun level _ => filLevel D rs N m level) (ranksFrom (-1) (M - k) ((k : Int) + 1)) ()).bind fun _ => (nt 3).bind fun _ => .ret 0) o2 S2)) (fun i _ => M + 1 - (intOf i).toNat)
  case atStart => exact ⟨0, o1, S1, rfl, by omega, hP, hK, b1, hreg, hD, hn0, hOh⟩
  case round =>
    clear hP hK hreg b1 hD hn0 hOh
    obtain ⟨k, o2, S2, rfl, hk, hP, hK, b1, hreg, hD, hn0, hO⟩ := hrel
    replace hO := hO.out
    obtain ⟨_, _, _, _, _, hcc⟩ := hP.cell
    have c_b1 := b1.cells
    by_cases hlt : k < M
    · have dlt : decide ((k : Int) + 1 < (N : Int)) = true := by rw [decide_eq_true_eq]; have := hNM.out; omega
      cases o2 with
      | true =>
        replace hO := hO.any ((nt 3).bind fun _ => .ret (0 : Int))
        have hOh := Lib.hid hO
        clear hO
        go_wp2_with fail
        replace hO := hOh.out
        clear hcc c_b1
        refine rstepN (notes_nt 3) hO hK (note_r B p true S2 3 _ hP (by unfold maxAns; omega)) ?_
        clear hO hK hP
        intro u o3 S3 w3 _ _ _ hP _ hK hO
        have hf : R (.returned (encI 0)) w3 := hO.ret hP hK
        clear hO hP hK hOh
        go_wp2_with fail
        first | exact hf | (go_ret; exact hf)
      | false =>
        have hNe : k + 2 ≤ N := by have := hNM.out; omega
        have hlen := hlh.out
        obtain ⟨r0, hr0⟩ : ∃ r, rs[m]? = some r := ⟨_, List.getElem?_eq_getElem (by omega)⟩
        obtain ⟨rv, hrv⟩ : ∃ r, rs[N + k]? = some r := ⟨_, List.getElem?_eq_getElem (by omega)⟩
        have hok0 := (hok _ (List.mem_of_getElem? hr0)).1
        have hokv := (hok _ (List.mem_of_getElem? hrv)).1
        have hm0 : (m : Int) < r0.n := by rw [(hok _ (List.mem_of_getElem? hr0)).2]; omega
        have hmv : (m : Int) < rv.n := by rw [(hok _ (List.mem_of_getElem? hrv)).2]; omega
        obtain ⟨a0, a1, a2, a3, a4, a5, a6⟩ := hreg.nth hr0
        have e0r := regAt_of (i := (m : Int)) rfl hr0
        have evr := regAt_of (i := (N : Int) - 1 + ((k : Int) + 1)) (by omega) hrv
        rw [show M - k = (M - (k + 1)) + 1 from by omega, ranks_cons _ _ _ (by omega), forP_consB] at hO
        rw [filLevel_bind, e0r, evr, Int.toNat_natCast] at hO
        have hk8 : k < 8 := by omega
        have hN2 : 2 ≤ N := by omega
        have hml : m < rs.length := by omega
        have hNl : N + k < rs.length := by omega
        obtain ⟨F, hF⟩ : ∃ F : Unit → Prog Int, F = (fun _ : Unit => (forP (fun level _ => filLevel D rs N m level) (ranksFrom (-1) (M - (k + 1)) ((k : Int) + 1 + 1)) ()).bind fun _ => (nt 3).bind fun _ => Prog.ret (0 : Int)) := ⟨_, rfl⟩
        rw [← hF] at hO
        have hFh := Lib.hid hF
        have hOh := Lib.hid hO
        have hrh := Lib.hid (And.intro hr0 (And.intro hrv hlen))
        clear hO hF hr0 hrv hlen hNe e0r evr
        go_wp2_with fail
        replace hO := hOh.out
        clear hOh a0 a1 a2 a3 a4 a5 a6 hcc c_b1
        refine rstepN (notes_regW _ _ _) hO hK (reg_write_r B p false S2 r0 m (k + 1) _ hP hok0 ⟨by omega, hm0⟩) ?_
        clear hO hK hP
        intro u o3 S3 w3 hlf _ hnn hP hk1 hK hO
        replace hD := Nat.lt_of_le_of_lt hlf hD
        replace hn0 := Nat.le_trans hnn hn0
        replace hreg := hreg.keep hk1
        replace b1 := b1.keep hk1
        clear hk1 hlf hnn
        obtain ⟨_, _, _, _, _, hcc⟩ := hP.cell
        have hOh := Lib.hid hO
        clear hO
        go_upto_if 39 with fail
        go_cut [] (fun wx => ∃ (o4 : Bool) (S4 : TS), RAt B wx p o4 S4 ∧ KeepR B p w wx ∧ HeldR wx p z (.cells #[.int .i64 alg, .int .i64 N, .int .i64 mode, .int .i64 base, .int .i64 loc, .int .i64 room] 52) ∧ RegsAt [3, 4, 5] wx p b rs ∧ S4.left < D ∧ S4.nts.length ≤ 1 ∧ Hid (ROwes R encI B p w ((forP (fun j _ => filWait (regAt rs j) rv m ((k : Int) + 1) D) (ranksFrom m N 0) ()).bind F) o4 S4))
        case first =>
          cases o3 with
          | true =>
            go_wp2_with fail
            go_meet
            exact ⟨true, S3, hP, hK, b1, hreg, hD, hn0, hOh.out.any _⟩
          | false =>
            have hcv := hreg.nth hrh.out.2.1
            rw [show (N + k) * 7 = (N - 1 + (k + 1)) * 7 from by omega] at hcv
            obtain ⟨e0, e1, e2, e3, e4, e5, e6⟩ := hcv
            have c_b1 := b1.cells
            go_wp2_with fail
            replace hO := hOh.out
            clear hOh c_b1 e0 e1 e2 e3 e4 e5 e6 hcc
            refine rstepN (notes_regW _ _ _) hO hK (reg_write_r B p false S3 rv m (m + 1) _ hP hokv ⟨by omega, hmv⟩) ?_
            clear hO hK hP
            intro u o4 S4 w4 hlf _ hnn hP hk1 hK hO
            replace hD := Nat.lt_of_le_of_lt hlf hD
            replace hn0 := Nat.le_trans hnn hn0
            replace hreg := hreg.keep hk1
            replace b1 := b1.keep hk1
            have hOh := Lib.hid hO
            clear hk1 hlf hnn hO
            go_wp2_with fail
            go_meet
            exact ⟨o4, S4, hP, hK, b1, hreg, hD, hn0, hOh⟩
        case rest =>
          clear hP hK b1 hreg hD hn0 hOh hcc
          obtain ⟨o4, S4, hP, hK, b1, hreg, hD, hn0, hO⟩ := hcut
          go_wp2_with fail
          go_loopw [9] (fun i wr => ∃ (j : Nat) (o5 : Bool) (S5 : TS), i = .int .i64 j ∧ j ≤ N ∧ RAt B wr p o5 S5 ∧ KeepR B p w wr ∧ HeldR wr p z (.cells #[.int .i64 alg, .int .i64 N, .int .i64 mode, .int .i64 base, .int .i64 loc, .int .i64 room] 52) ∧ RegsAt [3, 4, 5] wr p b rs ∧ S5.left < D ∧ S5.nts.length ≤ 1 ∧ Hid (ROwes R encI B p w ((forP (fun j _ => filWait (regAt rs j) rv m ((k : Int) + 1) D) (ranksFrom m (N - j) j) ()).bind F) o5 S5)) (fun i _ => N - (intOf i).toNat)
          case atStart => exact ⟨0, o4, S4, rfl, by omega, hP, hK, b1, hreg, hD, hn0, hO⟩
          case round =>
            clear hP hK hreg b1 hD hn0 hO
            obtain ⟨j, o5, S5, rfl, hj, hP, hK, b1, hreg, hD, hn0, hO⟩ := hrel
            replace hO := hO.out
            obtain ⟨_, _, _, _, _, hcc⟩ := hP.cell
            have c_b1 := b1.cells
            by_cases hjN : j < N
            · cases o5 with
              | true =>
                have hf := Lib.hid (hO.any ((forP (fun level _ => filLevel D rs N m level) (ranksFrom (-1) (M - (k + 1)) (((k + 1 : Nat) : Int) + 1)) ()).bind fun _ => (nt 3).bind fun _ => Prog.ret (0 : Int)))
                clear hO
                go_wp2_with fail
                refine ⟨⟨k + 1, true, S5, by go_num, by omega, hP, hK, b1, hreg, hD, hn0, hf⟩, ?_⟩
                simp [intOf]; omega
              | false =>
                obtain ⟨g, hg⟩ : ∃ g, N - j = g + 1 := ⟨N - j - 1, by omega⟩
                by_cases hjm : j = m
                · subst hjm
                  rw [hg, ranks_skip, show g = N - (j + 1) from by omega] at hO
                  clear hg
                  have hf := Lib.hid hO
                  clear hO
                  go_wp2_with fail
                  refine ⟨⟨j + 1, false, S5, by go_num, by omega, hP, hK, b1, hreg, hD, hn0, hf⟩, ?_⟩
                  simp [intOf]; omega
                · have djm : ((j : Int) != (m : Int)) = true := by rw [bne_iff_ne]; omega
                  obtain ⟨rj, hrj⟩ : ∃ r, rs[j]? = some r := ⟨_, List.getElem?_eq_getElem (by omega)⟩
                  have hokj := (hok _ (List.mem_of_getElem? hrj)).1
                  have hmj : (m : Int) < rj.n := by rw [(hok _ (List.mem_of_getElem? hrj)).2]; omega
                  have htj := htold j rj hrj hjm (by omega)
                  rw [hg, ranks_cons _ _ _ (by omega), forP_consB, regAt_of rfl hrj, show g = N - (j + 1) from by omega] at hO
                  have hjl : j < rs.length := by omega
                  have hrjh := Lib.hid hrj
                  have hOh := Lib.hid hO
                  clear hg hrj hO
                  go_wp2_with fail
                  have hS : ∀ w', RegsAt [3, 4, 5] w' p b rs → HeldR w' p z (.cells #[.int .i64 alg, .int .i64 N, .int .i64 mode, .int .i64 base, .int .i64 loc, .int .i64 room] 52) → ((w'.cell? ⟨b, j * 7, none⟩ = some (.int .i64 rj.kind) ∧ w'.cell? ⟨b, j * 7 + 1, none⟩ = some (.int .i64 rj.base) ∧ w'.cell? ⟨b, j * 7 + 2, none⟩ = some (.int .i64 rj.loc) ∧ w'.cell? ⟨b, j * 7 + 3, none⟩ = some (.int .i64 rj.n) ∧ w'.cell? ⟨b, j * 7 + 4, none⟩ = some (.int .i64 rj.wr) ∧ w'.cell? ⟨b, j * 7 + 5, none⟩ = some (.int .i64 rj.rd) ∧ w'.cell? ⟨b, j * 7 + 6, none⟩ = some (.int .i64 rj.top)) ∧ (w'.cell? ⟨b, (N - 1 + (k + 1)) * 7, none⟩ = some (.int .i64 rv.kind) ∧ w'.cell? ⟨b, (N - 1 + (k + 1)) * 7 + 1, none⟩ = some (.int .i64 rv.base) ∧ w'.cell? ⟨b, (N - 1 + (k + 1)) * 7 + 2, none⟩ = some (.int .i64 rv.loc) ∧ w'.cell? ⟨b, (N - 1 + (k + 1)) * 7 + 3, none⟩ = some (.int .i64 rv.n) ∧ w'.cell? ⟨b, (N - 1 + (k + 1)) * 7 + 4, none⟩ = some (.int .i64 rv.wr) ∧ w'.cell? ⟨b, (N - 1 + (k + 1)) * 7 + 5, none⟩ = some (.int .i64 rv.rd) ∧ w'.cell? ⟨b, (N - 1 + (k + 1)) * 7 + 6, none⟩ = some (.int .i64 rv.top)) ∧ (∀ i, w'.cell? ⟨z, i, none⟩ = (#[.int .i64 alg, .int .i64 N, .int .i64 mode, .int .i64 base, .int .i64 loc, .int .i64 room] : Array Value)[i]?)) := fun w' y1 y2 => by
                    obtain ⟨t0, t1, t2, t3, t4, t5, t6⟩ := y1.nth hrjh.out
                    have hcv := y1.nth hrh.out.2.1
                    rw [show (N + k) * 7 = (N - 1 + (k + 1)) * 7 from by omega] at hcv
                    obtain ⟨e0, e1, e2, e3, e4, e5, e6⟩ := hcv
                    exact ⟨⟨t0, t1, t2, t3, t4, t5, t6⟩, ⟨e0, e1, e2, e3, e4, e5, e6⟩, y2.cells⟩
                  clear hcc c_b1
                  replace hO := hOh.out
                  clear hOh
                  replace hP := hP.drew
                  replace hK := hK.drew
                  replace b1 := b1.drew
                  replace hreg := hreg.extL (Ext.refl _).drew hP.lt
                  have hw1 := IntWalk.i64_in ((N : Int) - 1) (by omega)
                  have hw2 := IntWalk.i64_in ((N : Int) - 1 + ((k : Int) + 1)) (by omega)
                  have hi2 : (N : Int) - 1 + ((k : Int) + 1) < (rs.length : Int) := by omega
                  have hi0 : 0 ≤ (N : Int) - 1 + ((k : Int) + 1) := by omega
                  have hi1 : ((N : Int) - 1 + ((k : Int) + 1)).toNat = N - 1 + (k + 1) := by omega
                  refine wp_region_held_drew (S := fun w' => ((w'.cell? ⟨b, j * 7, none⟩ = some (.int .i64 rj.kind) ∧ w'.cell? ⟨b, j * 7 + 1, none⟩ = some (.int .i64 rj.base) ∧ w'.cell? ⟨b, j * 7 + 2, none⟩ = some (.int .i64 rj.loc) ∧ w'.cell? ⟨b, j * 7 + 3, none⟩ = some (.int .i64 rj.n) ∧ w'.cell? ⟨b, j * 7 + 4, none⟩ = some (.int .i64 rj.wr) ∧ w'.cell? ⟨b, j * 7 + 5, none⟩ = some (.int .i64 rj.rd) ∧ w'.cell? ⟨b, j * 7 + 6, none⟩ = some (.int .i64 rj.top)) ∧ (w'.cell? ⟨b, (N - 1 + (k + 1)) * 7, none⟩ = some (.int .i64 rv.kind) ∧ w'.cell? ⟨b, (N - 1 + (k + 1)) * 7 + 1, none⟩ = some (.int .i64 rv.base) ∧ w'.cell? ⟨b, (N - 1 + (k + 1)) * 7 + 2, none⟩ = some (.int .i64 rv.loc) ∧ w'.cell? ⟨b, (N - 1 + (k + 1)) * 7 + 3, none⟩ = some (.int .i64 rv.n) ∧ w'.cell? ⟨b, (N - 1 + (k + 1)) * 7 + 4, none⟩ = some (.int .i64 rv.wr) ∧ w'.cell? ⟨b, (N - 1 + (k + 1)) * 7 + 5, none⟩ = some (.int .i64 rv.rd) ∧ w'.cell? ⟨b, (N - 1 + (k + 1)) * 7 + 6, none⟩ = some (.int .i64 rv.top)) ∧ (∀ i, w'.cell? ⟨z, i, none⟩ = (#[.int .i64 alg, .int .i64 N, .int .i64 mode, .int .i64 base, .int .i64 loc, .int .i64 room] : Array Value)[i]?))) rfl (hS _ hreg b1) (fun hHeld => ?_)
                  refine wpAnyH_take (i := 0) (v := ?_) rfl (by kernel_rfl) (by kernel_rfl) (by kernel_rfl) (fun _ _ _ h => h) (Or.inl ⟨by kernel_rfl, ?_⟩) (by assumption) ?_
                  rotate_left
                  · (intro w hSw; (try dsimp only at hSw); go_simp; try with_reducible rfl)
                  try simp only [put_pack]
                  refine wpAnyH_take (i := 1) (v := ?_) rfl (by kernel_rfl) (by kernel_rfl) (by kernel_rfl) (fun _ _ _ h => h) (Or.inl ⟨by kernel_rfl, ?_⟩) (by assumption) ?_
                  rotate_left
                  · (intro w hSw; (try dsimp only at hSw); go_simp; try with_reducible rfl)
                  try simp only [put_pack]
                  refine wpAnyH_take (i := 2) (v := ?_) rfl (by kernel_rfl) (by kernel_rfl) (by kernel_rfl) (fun _ _ _ h => h) (Or.inl ⟨by kernel_rfl, ?_⟩) (by assumption) ?_
                  rotate_left
                  · (intro w hSw; (try dsimp only at hSw); go_simp; try with_reducible rfl)
                  try simp only [put_pack]
                  refine wpAnyH_take (i := 3) (v := ?_) rfl (by kernel_rfl) (by kernel_rfl) (by kernel_rfl) (fun _ _ _ h => h) (Or.inl ⟨by kernel_rfl, ?_⟩) (by assumption) ?_
                  rotate_left
                  · (intro w hSw; (try dsimp only at hSw); go_simp; try with_reducible rfl)
                  try simp only [put_pack]
                  refine wpAnyH_take (i := 4) (v := ?_) rfl (by kernel_rfl) (by kernel_rfl) (by kernel_rfl) (fun _ _ _ h => h) (Or.inl ⟨by kernel_rfl, ?_⟩) (by assumption) ?_
                  rotate_left
                  · (intro w hSw; (try dsimp only at hSw); go_simp; try with_reducible rfl)
                  try simp only [put_pack]
                  refine wpAnyH_take (i := 5) (v := ?_) rfl (by kernel_rfl) (by kernel_rfl) (by kernel_rfl) (fun _ _ _ h => h) (Or.inl ⟨by kernel_rfl, ?_⟩) (by assumption) ?_
                  rotate_left
                  · (intro w hSw; (try dsimp only at hSw); go_simp; try with_reducible rfl)
                  try simp only [put_pack]
                  refine wpAnyH_take (i := 6) (v := ?_) rfl (by kernel_rfl) (by kernel_rfl) (by kernel_rfl) (fun _ _ _ h => h) (Or.inl ⟨by kernel_rfl, ?_⟩) (by assumption) ?_
                  rotate_left
                  · (intro w hSw; (try dsimp only at hSw); go_simp; try with_reducible rfl)
                  try simp only [put_pack]
                  refine wpAnyH_take (i := 7) (v := ?_) rfl (by kernel_rfl) (by kernel_rfl) (by kernel_rfl) (fun _ _ _ h => h) (Or.inl ⟨by kernel_rfl, ?_⟩) (by assumption) ?_
                  rotate_left
                  · (intro w hSw; (try dsimp only at hSw); go_simp; try with_reducible rfl)
                  try simp only [put_pack]
                  refine wpAnyH_take (i := 8) (v := ?_) rfl (by kernel_rfl) (by kernel_rfl) (by kernel_rfl) (fun _ _ _ h => h) (Or.inl ⟨by kernel_rfl, ?_⟩) (by assumption) ?_
                  rotate_left
                  · (intro w hSw; (try dsimp only at hSw); go_simp; try with_reducible rfl)
                  try simp only [put_pack]
                  refine wpAnyH_take (i := 9) (v := ?_) rfl (by kernel_rfl) (by kernel_rfl) (by kernel_rfl) (fun _ _ _ h => h) (Or.inl ⟨by kernel_rfl, ?_⟩) (by assumption) ?_
                  rotate_left
                  · (intro w hSw; (try dsimp only at hSw); go_simp; try with_reducible rfl)
                  try simp only [put_pack]
                  refine wpAnyH_take (i := 10) (v := ?_) rfl (by kernel_rfl) (by kernel_rfl) (by kernel_rfl) (fun _ _ _ h => h) (Or.inl ⟨by kernel_rfl, ?_⟩) (by assumption) ?_
                  rotate_left
                  · (intro w hSw; (try dsimp only at hSw); go_simp; try with_reducible rfl)
                  try simp only [put_pack]
                  refine wpAnyH_take (i := 11) (v := ?_) rfl (by kernel_rfl) (by kernel_rfl) (by kernel_rfl) (fun _ _ _ h => h) (Or.inl ⟨by kernel_rfl, ?_⟩) (by assumption) ?_
                  rotate_left
                  · (intro w hSw; (try dsimp only at hSw); go_simp; try with_reducible rfl)
                  try simp only [put_pack]
                  refine wpAnyH_take (i := 12) (v := ?_) rfl (by kernel_rfl) (by kernel_rfl) (by kernel_rfl) (fun _ _ _ h => h) (Or.inl ⟨by kernel_rfl, ?_⟩) (by assumption) ?_
                  rotate_left
                  · (intro w hSw; (try dsimp only at hSw); go_simp; try with_reducible rfl)
                  try simp only [put_pack]
                  refine wpAnyH_take (i := 13) (v := ?_) rfl (by kernel_rfl) (by kernel_rfl) (by kernel_rfl) (fun _ _ _ h => h) (Or.inl ⟨by kernel_rfl, ?_⟩) (by assumption) ?_
                  rotate_left
                  · (intro w hSw; (try dsimp only at hSw); go_simp; try with_reducible rfl)
                  try simp only [put_pack]
                  refine wpAnyH_take (i := 14) (v := ?_) rfl (by kernel_rfl) (by kernel_rfl) (by kernel_rfl) (fun _ _ _ h => h) (Or.inl ⟨by kernel_rfl, ?_⟩) (by assumption) ?_
                  rotate_left
                  · (intro w hSw; (try dsimp only at hSw); go_simp; try with_reducible rfl)
                  try simp only [put_pack]
                  refine wpAnyH_ready (rs := [15]) (by kernel_rfl) (by simp) ?_
                  refine AllReadyH.cons rfl (fun K hKK => ?_) AllReadyH.nil
                  go_simp
                  refine rstepN (notes_filWait _ _ _ _ _) hO hK (filwait_r B p D false S5 rj rv m (k + 1) _ hP hokj hokv (by omega) (by omega) hmj hmv htj (fun _ => hD)) ?_
                  clear hO hK hP
                  intro u o6 S6 w6 hlf _ hnn hP hk1 hK hO
                  replace hD := Nat.lt_of_le_of_lt hlf hD
                  replace hn0 := Nat.le_trans hnn hn0
                  replace hreg := hreg.keep hk1
                  replace b1 := b1.keep hk1
                  clear hk1 hlf hnn
                  refine hKK.out _ _ (hS _ hreg b1) (fun hHeld => ?_)
                  clear hKK K
                  try dsimp only
                  refine wpAnyH_done (by kernel_rfl) ?_ _
                  go_simp
                  have hf := Lib.hid hO
                  clear hO hS
                  go_wp2_with fail
                  refine ⟨⟨j + 1, o6, S6, by go_num, by omega, hP, hK, b1, hreg, hD, hn0, hf⟩, ?_⟩
                  simp [intOf]; omega
            · obtain rfl : j = N := by omega
              rw [Nat.sub_self, ranks_zero, forP_nilB, hFh.out] at hO
              have hf := Lib.hid (show ROwes R encI B p w ((forP (fun level _ => filLevel D rs j m level) (ranksFrom (-1) (M - (k + 1)) (((k + 1 : Nat) : Int) + 1)) ()).bind fun _ => (nt 3).bind fun _ => Prog.ret (0 : Int)) o5 S5 from by
                rw [show (((k + 1 : Nat) : Int) + 1) = (k : Int) + 1 + 1 from by omega]
                exact hO)
              clear hO
              go_wp2_with fail
              refine ⟨⟨k + 1, o5, S5, by go_num, by omega, hP, hK, b1, hreg, hD, hn0, hf⟩, ?_⟩
              simp [intOf]; omega
    · obtain rfl : k = M := by omega
      have dlt : decide ((k : Int) + 1 < (N : Int)) = false := by rw [decide_eq_false_iff_not]; have := hNM.out; omega
      rw [Nat.sub_self, ranks_zero, forP_nilB] at hO
      have hOh := Lib.hid hO
      clear hO
      go_wp2_with fail
      replace hO := hOh.out
      clear hcc c_b1
      refine rstepN (notes_nt 3) hO hK (note_r B p o2 S2 3 _ hP (by unfold maxAns; omega)) ?_
      clear hO hK hP
      intro u o3 S3 w3 _ _ _ hP _ hK hO
      have hf : R (.returned (encI 0)) w3 := hO.ret hP hK
      clear hO hP hK hOh
      go_wp2_with fail
      first | exact hf | (go_ret; exact hf)
set_option maxRecDepth 100000 in
theorem filrel_r (B p N : Nat) (o : Bool) (S : TS) (alg mode base loc room : Int) (m : Nat) (rs : List Reg) (w : World) (h : RAt B w p o S) (h1 : 1 ≤ N) (h2 : N ≤ 8) (hm1 : m < N) (hl : layM (filWants N) N mode base loc = some rs)
    (hok : ∀ r ∈ rs, r.ok ∧ r.n = N) (hn0 : S.nts.length = 0) :
    Calls Tryz.prog 43 #[.pointer (some ⟨p, 0, none⟩), .agg #[.int .i64 alg, .int .i64 N, .int .i64 mode, .int .i64 base, .int .i64 loc, .int .i64 room], .int .i64 m] w (RPost encU B p w (filR rs m) o S) := by
  have hlen := layM_len hl
  rw [filWants_len] at hlen
  generalize hR : RPost encU B p w (filR rs m) o S = R
  have hO : ROwes R encU B p w (filR rs m) o S := hR ▸ rowes _ _ _ _ _ _ _
  clear hR
  have hK := Keep.refl [3, 4, 5] B p w
  have hP := h
  have b1 := hP.held (.cells #[.int .i64 alg, .int .i64 N, .int .i64 mode, .int .i64 base, .int .i64 loc, .int .i64 room] 52)
  replace hK := hK.trans (Keep.alloc (.cells #[.int .i64 alg, .int .i64 N, .int .i64 mode, .int .i64 base, .int .i64 loc, .int .i64 room] 52) hP.lt hP.le)
  replace hP := hP.alloc (.cells #[.int .i64 alg, .int .i64 N, .int .i64 mode, .int .i64 base, .int .i64 loc, .int .i64 room] 52)
  have c_b1 := b1.cells
  clear h
  unfold filR at hO
  obtain ⟨r0, hr0⟩ : ∃ r, rs[m]? = some r := ⟨_, List.getElem?_eq_getElem (by omega)⟩
  have hok0 := (hok _ (List.mem_of_getElem? hr0)).1
  have hm0 : (m : Int) < r0.n := by rw [(hok _ (List.mem_of_getElem? hr0)).2]; omega
  have hml : m < rs.length := by omega
  rw [regAt_of rfl hr0] at hO
  have hrh := Lib.hid hr0
  have hlM := Lib.hid hl
  clear hlen hr0 hok hl
  go_enter Tryz.func43, Tryz.ntmps43
  go_wp2_with fail
  refine rstepN (notes_nt 5) hO hK (note_r B p o S 5 _ hP (by unfold maxAns; omega)) ?_
  clear hO hK hP c_b1
  intro u o1 S1 w2 _ _ _ hP hk hK hO
  replace b1 := b1.keep hk
  have c_b1 := b1.cells
  clear hk
  go_wp2_with fail
  refine (filregs_r alg mode base loc room N rs _ h1 h2 hlM.out).mono ?_
  rintro e w1 ⟨b, c, rfl, hge, hb, hcells, q1, q2, hx⟩
  have hreg : RegsAt [3, 4, 5] w1 p b rs := ⟨hb, hP.fresh hx hge, hcells⟩
  replace hK := hK.trans (Keep.of_ext hx hP.lt hP.le)
  replace hP := hP.ext hx
  clear hx hcells hge hb c_b1 b1
  obtain ⟨a0, a1, a2, a3, a4, a5, a6⟩ := hreg.nth hrh.out
  go_wp2_with fail
  clear a0 a1 a2 a3 a4 a5 a6 hrh hreg
  refine rlast hO hK (reg_write_r B p o1 S1 r0 m 0 _ hP hok0 ⟨by omega, hm0⟩) ?_
  clear hO hK hP
  intro u o2 S2 w3 hP hk hK hO
  have hf : R (.returned (encU u)) w3 := hO.ret hP hK
  clear hO hP hK hk
  go_wp2_with fail
  first | exact hf | (refine bodyPost_ret (results_none rfl _ _ _) rfl ?_; exact hf)
end Go.Proofs.YtpcohbpeglledaaGreat
/-
  What the laws of locks share: whether registers can be laid, and a thread by any number.
-/
namespace Go.Proofs.YtpcohbpeglledaaGreat
open Go.RowKit Kv
theorem may_r (va : Value) (l : List Want) (alg n mode base loc room : Int) (w : World) (h : WantsAt w va l) (hlen : l.length ≤ 1000) :
    Calls Tryz.prog 33 #[va, .agg #[.int .i64 alg, .int .i64 n, .int .i64 mode, .int .i64 base, .int .i64 loc, .int .i64 room]] w fun e w' => e = .returned (.bool (layM l n mode base loc).isSome) ∧ Ext w w' := by
  have hX := Ext.refl w
  have b1 := Blk.new w (.cells #[.int .i64 alg, .int .i64 n, .int .i64 mode, .int .i64 base, .int .i64 loc, .int .i64 room] 52)
  replace hX := hX.alloc (.cells #[.int .i64 alg, .int .i64 n, .int .i64 mode, .int .i64 base, .int .i64 loc, .int .i64 room] 52)
  have c_b1 := b1.cells
  have hL := lay_r va l n mode base loc _ (h.ext hX) hlen
  obtain ⟨A, c, rfl, _, _, _⟩ := h
  generalize hr : layM l n mode base loc = r at *
  go_enter Tryz.func33, Tryz.ntmps33
  go_wp2_with fail
  cases r with
  | none =>
    refine hL.mono ?_
    rintro e w1 ⟨hx, x, hx0, rfl⟩
    have dx : (x == 0) = false := by rw [beq_eq_false_iff_ne]; exact hx0
    have hf := Lib.hid (hX.trans hx)
    clear hL hx hr hx0
    go_wp2_with fail
    go_ret
    exact ⟨rfl, hf.out⟩
  | some rs =>
    refine hL.mono ?_
    rintro e w1 ⟨hx, v, rfl, hrow⟩
    obtain ⟨A', c', rfl, -⟩ := Recs.of_row hrow
    have hf := Lib.hid (hX.trans hx)
    clear hL hx hr hrow
    go_wp2_with fail
    go_ret
    exact ⟨rfl, hf.out⟩
theorem me_r (alg mode base loc room me : Int) (N : Nat) (w : World) (h1 : 1 ≤ N) (h2 : N ≤ 8) :
    Calls Tryz.prog 36 #[.agg #[.int .i64 alg, .int .i64 N, .int .i64 mode, .int .i64 base, .int .i64 loc, .int .i64 room], .int .i64 me] w fun e w' => e = .returned (.int .i64 (wrapI me ((N : Int) - 1))) ∧ Ext w w' := by
  have hN : ∀ w, Calls Tryz.prog 106 #[.agg #[.int .i64 alg, .int .i64 N, .int .i64 mode, .int .i64 base, .int .i64 loc, .int .i64 room]] w fun e w' => e = .returned (.int .i64 N) ∧ Ext w w' := by
    intro w
    have hn : nM (N : Int) = N := nM_id (by omega) (by omega)
    have hX := Ext.refl w
    have b1 := Blk.new w (.cells #[.int .i64 alg, .int .i64 N, .int .i64 mode, .int .i64 base, .int .i64 loc, .int .i64 room] 52)
    replace hX := hX.alloc (.cells #[.int .i64 alg, .int .i64 N, .int .i64 mode, .int .i64 base, .int .i64 loc, .int .i64 room] 52)
    have c_b1 := b1.cells
    go_enter Tryz.func106, Tryz.ntmps106
    go_wp2_with fail
    refine (rn_any ⟨0, 0, 0, N, 0, 0, 0⟩ _).mono ?_
    rintro e w1 ⟨rfl, hx⟩
    simp only
    rw [hn]
    have hf := Lib.hid (hX.trans hx)
    clear hx hn
    go_wp2_with fail
    go_ret
    exact ⟨rfl, hf.out⟩
  have hs := IntWalk.i64_in ((N : Int) - 1) (by omega)
  have hX := Ext.refl w
  have b1 := Blk.new w (.cells #[.int .i64 alg, .int .i64 N, .int .i64 mode, .int .i64 base, .int .i64 loc, .int .i64 room] 52)
  replace hX := hX.alloc (.cells #[.int .i64 alg, .int .i64 N, .int .i64 mode, .int .i64 base, .int .i64 loc, .int .i64 room] 52)
  have c_b1 := b1.cells
  go_enter Tryz.func36, Tryz.ntmps36
  go_wp2_with fail
  refine (hN _).mono ?_
  rintro e w1 ⟨rfl, hx⟩
  have hf := Lib.hid (hX.trans hx)
  clear hx hN
  go_wp2_with fail
  refine (wrap_r me ((N : Int) - 1) _).mono ?_
  rintro e w' ⟨rfl, rfl⟩
  go_wp2_with fail
  go_ret
  exact ⟨rfl, hf.out⟩
theorem me_at (me : Int) (N : Nat) (h1 : 1 ≤ N) (h2 : N ≤ 8) : ∃ m : Nat, m < N ∧ wrapI me ((N : Int) - 1) = m := by
  have ht := wrapI_bd me ((N : Int) - 1)
  rw [show clamp ((N : Int) - 1) 1099511627776 = (N : Int) - 1 from by unfold clamp within; omega] at ht
  exact ⟨(wrapI me ((N : Int) - 1)).toNat, by omega, by omega⟩
theorem laid_all {l : List Want} {n mode b c : Int} {rs : List Reg} (h : layM l n mode b c = some rs) : ∀ r ∈ rs, r.ok ∧ r.n = n := by
  intro r hr
  obtain ⟨i, hi⟩ := List.getElem?_of_mem hr
  obtain ⟨⟨_, _, n1, n2, _, _⟩, hw, _⟩ := layM_args h
  have hil := (List.getElem?_eq_some_iff.1 hi).1
  rw [layM_len h] at hil
  obtain ⟨r', hr', hL⟩ := layM_at h (List.getElem?_eq_getElem hil)
  obtain rfl : r = r' := by rw [hi] at hr'; simpa using hr'
  obtain ⟨h1, h2, _⟩ := hL.ok ⟨n1, n2⟩ (hw _ (List.getElem_mem hil))
  exact ⟨h1, h2⟩
theorem laid_want {f : Nat → Want} {k : Nat} {n mode b c : Int} {rs : List Reg} (h : layM ((List.range k).map f) n mode b c = some rs) {i : Nat} {r : Reg} (hi : rs[i]? = some r) : Laid n mode (f i) r := by
  have hil := (List.getElem?_eq_some_iff.1 hi).1
  rw [layM_len h, List.length_map, List.length_range] at hil
  obtain ⟨r', hr', hL⟩ := layM_at h (i := i) (q := f i) (by rw [List.getElem?_map, List.getElem?_range hil]; rfl)
  obtain rfl : r = r' := by rw [hi] at hr'; simpa using hr'
  exact hL
/-- Told by accesses, but for its own writer. -/
theorem laid_told {n mode : Int} {q : Want} {r : Reg} (h : Laid n mode q r) (_hm : 1 ≤ mode ∧ mode ≤ 2) (hn : 2 ≤ n) (_hq : -1 ≤ q.wr) {me : Int} (hme : q.wr ≠ me) : r.told me := by
  obtain ⟨⟨b, c, rfl, _, _⟩, _⟩ := h
  by_cases h2 : mode = 2
  · by_cases h3 : 0 ≤ q.wr
    · refine .inr (.inl ⟨?_, fun h => hme h.symm⟩)
      show kindM mode q.wr = 6
      unfold kindM
      rw [if_pos h2, if_pos h3]
    · refine .inr (.inr ⟨?_, hn⟩)
      show kindM mode q.wr = 7
      unfold kindM
      rw [if_pos h2, if_neg h3]
  · refine .inl ?_
    show kindM mode q.wr = 1
    unfold kindM
    rw [if_neg h2]
theorem fil_told {N : Nat} {mode b c : Int} {rs : List Reg} {m : Nat} (h : layM (filWants N) N mode b c = some rs) : ∀ (i : Nat) r, rs[i]? = some r → i ≠ m → 2 ≤ N → r.told m := by
  intro i r hi hm hN
  obtain ⟨⟨h1, h2, _⟩, _⟩ := layM_args h
  refine laid_told (laid_want h hi) ⟨h1, h2⟩ (by omega) ?_ ?_
  · unfold filWant; split <;> simp <;> omega
  · unfold filWant; split <;> simp <;> omega
end Go.Proofs.YtpcohbpeglledaaGreat
/-
  The filter: the chapter's example.
-/
namespace Kv
def fr0 : Reg := ⟨1, 0, 0, 1, 0, -1, 1⟩
def fs0 : Reg := ⟨1, 0, 0, 2, 0, -1, 2⟩
def fs1 : Reg := ⟨1, 1, 0, 2, 1, -1, 2⟩
def fs2 : Reg := ⟨1, 2, 0, 2, -1, -1, 2⟩
end Kv
namespace Go.Proofs.YtpcohbpeglledaaGreat
open Go.RowKit Kv
theorem fal1 (B p : Nat) (S : TS) (bk : Nat) (w : World) (h : Plays B w p S) (hD : S.left < 1) (hn0 : S.nts.length = 0)
    (c1 : ∀ i, w.cell? ⟨bk, i, none⟩ = (#[.int .i64 4, .int .i64 1, .int .i64 1, .int .i64 0, .int .i64 0, .int .i64 0] : Array Value)[i]?) :
    Calls Tryz.prog 104 #[.pointer (some ⟨p, 0, none⟩), .pointer (some ⟨bk, 0, none⟩)] w (Post encI B p w ((filA 1 [fr0] 1 0).run S)) := by
  have hq : Calls Tryz.prog 39 #[.pointer (some ⟨p, 0, none⟩), .agg #[.int .i64 4, .int .i64 1, .int .i64 1, .int .i64 0, .int .i64 0, .int .i64 0], .int .i64 0] w (Post encI B p w ((filA 1 [fr0] 1 0).run S)) :=
    filacq_p B p 1 1 S 4 1 0 0 0 0 [fr0] w h h.le (by decide) (by decide) (by decide) rfl (fun r hr => by
      simp only [List.mem_cons, List.not_mem_nil, or_false] at hr
      subst hr
      exact ⟨⟨.inl rfl, by decide, by decide, by decide, fun h => by cases h⟩, rfl⟩) (fun _ _ _ _ h => by omega) hD hn0
  generalize hR : Post encI B p w ((filA 1 [fr0] 1 0).run S) = R
  have hO : Owes R encI B p w ((filA 1 [fr0] 1 0).run S) := hR ▸ owes _ _ _ _ _
  clear hR
  have hK := Keep.refl [2, 3, 4] B p w
  go_enter Tryz.func104, Tryz.ntmps104
  go_wp2_with fail
  clear c1
  refine tlast hO hK hq (fun _ h => ⟨rfl, h⟩) ?_
  intro v S1 w1 hr hP1 hk1 hK1 hO1
  have hf := hO1.done hP1 hK1
  clear hO1 hP1 hK1 hr hk1 hO h hK hq
  go_wp2_with fail
  first | exact hf | (go_ret; exact hf)
theorem fal2 (B p : Nat) (S : TS) (bk : Nat) (w : World) (h : Plays B w p S) (hD : S.left < 5) (hn0 : S.nts.length = 0)
    (c1 : ∀ i, w.cell? ⟨bk, i, none⟩ = (#[.int .i64 4, .int .i64 2, .int .i64 1, .int .i64 0, .int .i64 0, .int .i64 0] : Array Value)[i]?) :
    Calls Tryz.prog 105 #[.pointer (some ⟨p, 0, none⟩), .pointer (some ⟨bk, 0, none⟩)] w (Post encI B p w ((filA 5 [fs0, fs1, fs2] 2 1).run S)) := by
  have hq : Calls Tryz.prog 39 #[.pointer (some ⟨p, 0, none⟩), .agg #[.int .i64 4, .int .i64 2, .int .i64 1, .int .i64 0, .int .i64 0, .int .i64 0], .int .i64 1] w (Post encI B p w ((filA 5 [fs0, fs1, fs2] 2 1).run S)) :=
    filacq_p B p 2 5 S 4 1 0 0 0 1 [fs0, fs1, fs2] w h h.le (by decide) (by decide) (by decide) rfl (fun r hr => by
      simp only [List.mem_cons, List.not_mem_nil, or_false] at hr
      rcases hr with rfl | rfl | rfl <;> exact ⟨⟨.inl rfl, by decide, by decide, by decide, fun h => by cases h⟩, rfl⟩) (fun i r hi _ _ => by
      have hr := List.mem_of_getElem? hi
      simp only [List.mem_cons, List.not_mem_nil, or_false] at hr
      rcases hr with rfl | rfl | rfl <;> exact .inl rfl) hD hn0
  generalize hR : Post encI B p w ((filA 5 [fs0, fs1, fs2] 2 1).run S) = R
  have hO : Owes R encI B p w ((filA 5 [fs0, fs1, fs2] 2 1).run S) := hR ▸ owes _ _ _ _ _
  clear hR
  have hK := Keep.refl [2, 3, 4] B p w
  go_enter Tryz.func105, Tryz.ntmps105
  go_wp2_with fail
  clear c1
  refine tlast hO hK hq (fun _ h => ⟨rfl, h⟩) ?_
  intro v S1 w1 hr hP1 hk1 hK1 hO1
  have hf := hO1.done hP1 hK1
  clear hO1 hP1 hK1 hr hk1 hO h hK hq
  go_wp2_with fail
  first | exact hf | (go_ret; exact hf)
@[go_sem] theorem build_lock3 (a b c : Int) (w : World) : (Instr.build 52 #[(0, .int .i64 a), (1, .int .i64 b), (2, .int .i64 c)]).run Tryz.prog w = .ok (.agg #[.int .i64 a, .int .i64 b, .int .i64 c, .int .i64 0, .int .i64 0, .int .i64 0]) w := run_build w 52 _ _ (by kernel_rfl)
@[go_sem] theorem build_acc3 (a b c : Int) (w : World) : (Instr.build 92 #[(0, .int .i64 a), (1, .int .i64 b), (2, .int .i64 c)]).run Tryz.prog w = .ok (.agg #[.int .i64 a, .int .i64 b, .int .i64 c]) w := run_build w 92 _ _ (by kernel_rfl)
set_option maxRecDepth 100000 in
set_option maxHeartbeats 1000000 in
theorem alive26 (w : World) : Calls Tryz.prog 35 #[] w fun e w' => e = .returned (.bool true) ∧ Ext w w' := by
  have hmf : ∀ (fn : Fn) (first cap : Array Value) (w : World), (Instr.makeFunc fn first cap).run Tryz.prog w = .ok (.func fn first cap) w := fun _ _ _ _ => rfl
  go_enter Tryz.func35, Tryz.ntmps35
  go_wp2_with fail
  have b1 := Blk.new w (.cells #[.int .i64 4, .int .i64 1, .int .i64 1, .int .i64 0, .int .i64 0, .int .i64 0] 52)
  have hX := (Ext.refl w).alloc (.cells #[.int .i64 4, .int .i64 1, .int .i64 1, .int .i64 0, .int .i64 0, .int .i64 0] 52)
  generalize w.alloc _ = V1 at *
  refine (play_err 104 #[.pointer (some ⟨w.heap.size, 0, none⟩)] (filA 1 [fr0] 1 0) none 0 [] none 0 [] V1 (Ints.nil _) (by simp) (Ints.nil _) (by decide) (fun k hk => by cases hk) (fun _ _ => rfl) (fun W p hxW hP => fal1 _ p _ w.heap.size W hP (by decide) rfl (b1.ext hxW).cells)).mono ?_
  rintro e y1 ⟨v1, rfl, hO, hx1⟩
  have e1 : ((filA 1 [fr0] 1 0).run (TS0 [] [])).1 = some 0 := by rfl
  have e2 : ((filA 1 [fr0] 1 0).run (TS0 [] [])).2.acc.length = 0 := by rfl
  rw [e1] at hO ⊢
  generalize ((filA 1 [fr0] 1 0).run (TS0 [] [])).2 = S1 at *
  obtain ⟨A1, c1, A1', c1', vs1, L1, rfl, hO⟩ := hO
  obtain ⟨As1, k1, hvs1, _, _⟩ := hO.locs.slice
  subst hvs1
  unfold outV
  rw [e2] at *
  simp only [Option.getD_some, Option.isSome_some]
  replace hX := hX.trans hx1
  clear e1 e2 hO hx1 b1
  go_wp2_with fail
  have n1 := Blk.new y1 (.cells #[.bool true, .slice A1 0 c1, .slice A1' S1.nts.length c1', .slice As1 (shortL L1).length k1] 36)
  replace hX := hX.alloc (.cells #[.bool true, .slice A1 0 c1, .slice A1' S1.nts.length c1', .slice As1 (shortL L1).length k1] 36)
  have b2 := Blk.new (y1.alloc (.cells #[.bool true, .slice A1 0 c1, .slice A1' S1.nts.length c1', .slice As1 (shortL L1).length k1] 36)) (.cells #[.int .i64 4, .int .i64 2, .int .i64 1, .int .i64 0, .int .i64 0, .int .i64 0] 52)
  replace n1 := n1.alloc (.cells #[.int .i64 4, .int .i64 2, .int .i64 1, .int .i64 0, .int .i64 0, .int .i64 0] 52)
  replace hX := hX.alloc (.cells #[.int .i64 4, .int .i64 2, .int .i64 1, .int .i64 0, .int .i64 0, .int .i64 0] 52)
  have hA := ints_new ((y1.alloc (.cells #[.bool true, .slice A1 0 c1, .slice A1' S1.nts.length c1', .slice As1 (shortL L1).length k1] 36)).alloc (.cells #[.int .i64 4, .int .i64 2, .int .i64 1, .int .i64 0, .int .i64 0, .int .i64 0] 52)) [0, 0, 1, 1] (by simp)
  replace n1 := n1.alloc (.cells (([0, 0, 1, 1] : List Int).map (Value.int .i64)).toArray 3)
  replace b2 := b2.alloc (.cells (([0, 0, 1, 1] : List Int).map (Value.int .i64)).toArray 3)
  replace hX := hX.alloc (.cells (([0, 0, 1, 1] : List Int).map (Value.int .i64)).toArray 3)
  simp only [World.size_alloc, List.map_cons, List.map_nil, List.length_cons, List.length_nil] at b2 hA n1 hX
  have hsz : y1.heap.size + 1 + 1 < (World.alloc (World.alloc (World.alloc y1 (.cells #[.bool true, .slice A1 0 c1, .slice A1' S1.nts.length c1', .slice As1 (shortL L1).length k1] 36)) (.cells #[.int .i64 4, .int .i64 2, .int .i64 1, .int .i64 0, .int .i64 0, .int .i64 0] 52)) (.cells #[.int .i64 0, .int .i64 0, .int .i64 1, .int .i64 1] 3)).heap.size := by simp
  generalize World.alloc (World.alloc (World.alloc y1 _) _) _ = V2 at *
  refine (play_err 105 #[.pointer (some ⟨y1.heap.size + 1, 0, none⟩)] (filA 5 [fs0, fs1, fs2] 2 1) none 0 [] (some ⟨y1.heap.size + 1 + 1, 0, none⟩) 4 [0, 0, 1, 1] V2 (Ints.nil _) (by simp) hA (by decide) (fun k hk => by simp only [Value.ownBlock, Option.some.injEq] at hk; omega) (fun _ _ => rfl) (fun W p hxW hP => fal2 _ p _ (y1.heap.size + 1) W hP (by decide) rfl (b2.ext hxW).cells)).mono ?_
  rintro e y2 ⟨v2, rfl, hO, hx2⟩
  have e1 : ((filA 5 [fs0, fs1, fs2] 2 1).run (TS0 [] [0, 0, 1, 1])).1 = some 0 := by rfl
  have e2 : ((filA 5 [fs0, fs1, fs2] 2 1).run (TS0 [] [0, 0, 1, 1])).2.acc.length = 4 := by rfl
  have e3 : ((filA 5 [fs0, fs1, fs2] 2 1).run (TS0 [] [0, 0, 1, 1])).2.acc[1]? = some ⟨2, 2, 2⟩ := by rfl
  rw [e1] at hO ⊢
  generalize ((filA 5 [fs0, fs1, fs2] 2 1).run (TS0 [] [0, 0, 1, 1])).2 = S2 at *
  obtain ⟨A2, c2, A2', c2', vs2, L2, rfl, hO⟩ := hO
  obtain ⟨As2, k2, hvs2, _, _⟩ := hO.locs.slice
  subst hvs2
  obtain ⟨u2, rfl, hu2, z20, z21, z22⟩ := hO.accs.at_ e3
  simp only [Nat.reduceMul, Nat.reduceAdd] at z20 z21 z22
  unfold outV
  rw [e2] at *
  simp only [Option.getD_some, Option.isSome_some]
  replace hX := hX.trans hx2
  replace n1 := n1.ext hx2
  have s2 := (Ext.refl y2).alloc (.cells #[.bool true, .slice (some ⟨u2, 0, none⟩) 4 c2, .slice A2' S2.nts.length c2', .slice As2 (shortL L2).length k2] 36)
  have n2 := Blk.new y2 (.cells #[.bool true, .slice (some ⟨u2, 0, none⟩) 4 c2, .slice A2' S2.nts.length c2', .slice As2 (shortL L2).length k2] 36)
  replace n1 := n1.alloc (.cells #[.bool true, .slice (some ⟨u2, 0, none⟩) 4 c2, .slice A2' S2.nts.length c2', .slice As2 (shortL L2).length k2] 36)
  replace hX := hX.alloc (.cells #[.bool true, .slice (some ⟨u2, 0, none⟩) 4 c2, .slice A2' S2.nts.length c2', .slice As2 (shortL L2).length k2] 36)
  replace z20 := (s2.cell (p := ⟨u2, 3, none⟩) hu2).trans z20
  replace z21 := (s2.cell (p := ⟨u2, 4, none⟩) hu2).trans z21
  replace z22 := (s2.cell (p := ⟨u2, 5, none⟩) hu2).trans z22
  clear e1 e2 e3 hO hx2 hA hsz s2 b2
  have c_n1 := n1.cells
  have hXh := Lib.hid hX
  clear n1 n2 hX
  go_wp2_with fail
  refine (filwants_p 3 _ (by decide) (by decide)).mono ?_
  rintro e w3 ⟨v3, rfl, hw, hx⟩
  have hf := Lib.hid (hXh.out.trans hx)
  obtain ⟨A3, c3, rfl, -, -, -⟩ := hw
  rw [filWants_len]
  clear hx hmf
  go_wp2_with fail
  go_ret
  exact ⟨rfl, hf.out⟩
end Go.Proofs.YtpcohbpeglledaaGreat
