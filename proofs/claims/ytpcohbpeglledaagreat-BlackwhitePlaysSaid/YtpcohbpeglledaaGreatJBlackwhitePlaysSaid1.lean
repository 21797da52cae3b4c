/-
  Locks' registers, laid by the program and by the document.
-/
import Derived.Test.YtpcohbpeglledaaGreatJBlackwhitePlaysSaid0
import Derived.Shelf.Strconv.Itoa0
import Derived.Shelf.Slices.Reverse
import Derived.Ground.Names2Prog
import Derived.Shelf.Slices.Clone
import Derived.Shelf.Slices.Cells
import Derived.Ground.SlgnProg
import Derived.Shelf.SlicesE.Clone
import Derived.Test.YtpcohbpeglledaaGreatProg
import Derived.Lib.LaidTab
/-
  Locks' registers, laid by the program and by the document.
-/
namespace Kv
theorem filWants_len (N : Nat) : (filWants N).length = 2 * N - 1 := by simp [filWants]
theorem fastWants_len (N : Nat) : (fastWants N).length = N + 2 := by simp [fastWants]
theorem bwWants_len (N : Nat) : (bwWants N).length = 2 * N + 1 := by simp [bwWants]
end Kv
namespace Go.Proofs.YtpcohbpeglledaaGreat
open Go.RowKit Kv
theorem layr_some {va : Value} {l : List Want} {n mode base loc : Int} {rs : List Reg} (hl : layM l n mode base loc = some rs) (w : World) (h : WantsAt w va l) (hlen : l.length ≤ 1000) :
    Calls Tryz.prog 82 #[va, .int .i64 n, .int .i64 mode, .int .i64 base, .int .i64 loc] w fun e w' => ∃ v, e = .returned (.tuple #[v, .int .i64 0]) ∧ (RegsV w' v rs ∧ ∀ k, v.ownBlock = some k → w.heap.size ≤ k) ∧ Ext w w' := by
  have := lay_r va l n mode base loc w h hlen
  rw [hl] at this
  exact this.mono fun e w' ⟨hx, v, he, hr⟩ => ⟨v, he, ⟨Recs.of_row hr, fun k hk => (hr.lt k hk).1⟩, hx⟩
theorem layp_some {va : Value} {l : List Want} {n mode base loc : Int} {rs : List Reg} (hl : layM l n mode base loc = some rs) (w : World) (h : WantsAt w va l) (hlen : l.length ≤ 1000) :
    Calls Tryz.prog 174 #[va, .int .i64 n, .int .i64 mode, .int .i64 base, .int .i64 loc] w fun e w' => ∃ v, e = .returned (.tuple #[v, .int .i64 0]) ∧ (RegsV w' v rs ∧ ∀ k, v.ownBlock = some k → w.heap.size ≤ k) ∧ Ext w w' := by
  have := plan_p va l n mode base loc w h hlen
  rw [hl] at this
  exact this.mono fun e w' ⟨hx, v, he, hr⟩ => ⟨v, he, ⟨Recs.of_row hr, fun k hk => (hr.lt k hk).1⟩, hx⟩
set_option maxRecDepth 100000 in
theorem filregs_r (alg mode base loc room : Int) (N : Nat) (rs : List Reg) (w : World) (h1 : 1 ≤ N) (h2 : N ≤ 8) (hl : layM (filWants N) N mode base loc = some rs) :
    Calls Tryz.prog 110 #[.agg #[.int .i64 alg, .int .i64 N, .int .i64 mode, .int .i64 base, .int .i64 loc, .int .i64 room]] w fun e w' => ∃ b c, e = .returned (.slice (some ⟨b, 0, none⟩) rs.length c) ∧ w.heap.size ≤ b ∧ b < w'.heap.size ∧ (∀ (i : Nat) u, (rs.flatMap regVals)[i]? = some u → w'.cell? ⟨b, i, none⟩ = some u) ∧ rs.length ≤ c ∧ c ≤ 9223372036854775807 ∧ Ext w w' := by
  have hlen := layM_len hl
  rw [filWants_len] at hlen
  replace hl := Lib.hid hl
  have hlenh := Lib.hid hlen
  clear hlen
  have hX := Ext.refl w
  have b1 := Blk.new w (.cells #[.int .i64 alg, .int .i64 N, .int .i64 mode, .int .i64 base, .int .i64 loc, .int .i64 room] 52)
  replace hX := hX.alloc (.cells #[.int .i64 alg, .int .i64 N, .int .i64 mode, .int .i64 base, .int .i64 loc, .int .i64 room] 52)
  have c_b1 := b1.cells
  go_enter Tryz.func110, Tryz.ntmps110
  go_wp2_with fail
  generalize w.alloc _ = W at *
  have hXW := hX
  clear hX c_b1
  have hX := (Ext.refl W).drew
  have hS : ∀ w', Ext W w' → (∀ i, w'.cell? ⟨w.heap.size, i, none⟩ = (#[.int .i64 alg, .int .i64 N, .int .i64 mode, .int .i64 base, .int .i64 loc, .int .i64 room] : Array Value)[i]?) := fun w' hx => (b1.ext hx).cells
  go_region_held2 (fun w' => ∀ i, w'.cell? ⟨w.heap.size, i, none⟩ = (#[.int .i64 alg, .int .i64 N, .int .i64 mode, .int .i64 base, .int .i64 loc, .int .i64 room] : Array Value)[i]?) (exact hS _ hX)
    (first
      | (go_at_call 34
         refine (filwants_r N _ h1 h2).mono ?_
         rintro e w2 ⟨v2, rfl, hw2, hx⟩
         replace hX := hX.trans hx
         have hz2 := hX.size
         clear hx)
      | (go_at_call 82
         refine (layr_some hl.out _ (hw2.ext (Ext.refl _)) (by simp [filWants_len]; omega)).mono ?_
         rintro e w3 ⟨v3, rfl, hr3, hx⟩
         replace hX := hX.trans hx
         clear hx))
  rename_i hh
  clear hh
  obtain ⟨⟨A, c, rfl, q1, q2, hV⟩, hown⟩ := hr3
  obtain ⟨b, rfl, hb, hcells⟩ := hV (by cases rs with | nil => have := hlenh.out; simp only [List.length_nil] at this; omega | cons r l => simp [regVals])
  have hge : w.heap.size ≤ b := Nat.le_trans (Nat.le_trans hXW.size hz2) (hown b rfl)
  have hfh := Lib.hid (And.intro hge (And.intro hb (And.intro hcells (hXW.trans hX))))
  clear hcells hV hb hown hge hz2
  go_wp2_with fail
  go_ret
  exact ⟨_, _, rfl, hfh.out.1, hfh.out.2.1, hfh.out.2.2.1, q1, q2, hfh.out.2.2.2⟩
set_option maxRecDepth 100000 in
theorem fastregs_r (alg mode base loc room : Int) (N : Nat) (rs : List Reg) (w : World) (h1 : 1 ≤ N) (h2 : N ≤ 8) (hl : layM (fastWants N) N mode base loc = some rs) :
    Calls Tryz.prog 117 #[.agg #[.int .i64 alg, .int .i64 N, .int .i64 mode, .int .i64 base, .int .i64 loc, .int .i64 room]] w fun e w' => ∃ b c, e = .returned (.slice (some ⟨b, 0, none⟩) rs.length c) ∧ w.heap.size ≤ b ∧ b < w'.heap.size ∧ (∀ (i : Nat) u, (rs.flatMap regVals)[i]? = some u → w'.cell? ⟨b, i, none⟩ = some u) ∧ rs.length ≤ c ∧ c ≤ 9223372036854775807 ∧ Ext w w' := by
  have hlen := layM_len hl
  rw [fastWants_len] at hlen
  replace hl := Lib.hid hl
  have hlenh := Lib.hid hlen
  clear hlen
  have hX := Ext.refl w
  have b1 := Blk.new w (.cells #[.int .i64 alg, .int .i64 N, .int .i64 mode, .int .i64 base, .int .i64 loc, .int .i64 room] 52)
  replace hX := hX.alloc (.cells #[.int .i64 alg, .int .i64 N, .int .i64 mode, .int .i64 base, .int .i64 loc, .int .i64 room] 52)
  have c_b1 := b1.cells
  go_enter Tryz.func117, Tryz.ntmps117
  go_wp2_with fail
  generalize w.alloc _ = W at *
  have hXW := hX
  clear hX c_b1
  have hX := (Ext.refl W).drew
  have hS : ∀ w', Ext W w' → (∀ i, w'.cell? ⟨w.heap.size, i, none⟩ = (#[.int .i64 alg, .int .i64 N, .int .i64 mode, .int .i64 base, .int .i64 loc, .int .i64 room] : Array Value)[i]?) := fun w' hx => (b1.ext hx).cells
  go_region_held2 (fun w' => ∀ i, w'.cell? ⟨w.heap.size, i, none⟩ = (#[.int .i64 alg, .int .i64 N, .int .i64 mode, .int .i64 base, .int .i64 loc, .int .i64 room] : Array Value)[i]?) (exact hS _ hX)
    (first
      | (go_at_call 45
         refine (fastwants_r N _ h1 h2).mono ?_
         rintro e w2 ⟨v2, rfl, hw2, hx⟩
         replace hX := hX.trans hx
         have hz2 := hX.size
         clear hx)
      | (go_at_call 82
         refine (layr_some hl.out _ (hw2.ext (Ext.refl _)) (by simp [fastWants_len]; omega)).mono ?_
         rintro e w3 ⟨v3, rfl, hr3, hx⟩
         replace hX := hX.trans hx
         clear hx))
  rename_i hh
  clear hh
  obtain ⟨⟨A, c, rfl, q1, q2, hV⟩, hown⟩ := hr3
  obtain ⟨b, rfl, hb, hcells⟩ := hV (by cases rs with | nil => have := hlenh.out; simp only [List.length_nil] at this; omega | cons r l => simp [regVals])
  have hge : w.heap.size ≤ b := Nat.le_trans (Nat.le_trans hXW.size hz2) (hown b rfl)
  have hfh := Lib.hid (And.intro hge (And.intro hb (And.intro hcells (hXW.trans hX))))
  clear hcells hV hb hown hge hz2
  go_wp2_with fail
  go_ret
  exact ⟨_, _, rfl, hfh.out.1, hfh.out.2.1, hfh.out.2.2.1, q1, q2, hfh.out.2.2.2⟩
set_option maxRecDepth 100000 in
theorem fillay_p (alg mode base loc room me : Int) (N : Nat) (rs : List Reg) (w : World) (h1 : 1 ≤ N) (h2 : N ≤ 8) (hl : layM (filWants N) N mode base loc = some rs) (hm0 : 0 ≤ me) (hm1 : me < N) :
    Calls Tryz.prog 108 #[.agg #[.int .i64 alg, .int .i64 N, .int .i64 mode, .int .i64 base, .int .i64 loc, .int .i64 room], .int .i64 me] w fun e w' => ∃ b c A2 c2, e = .returned (.tuple #[.slice (some ⟨b, 0, none⟩) N c, .slice A2 (N - 1) c2, .int .i64 0]) ∧ (2 ≤ N → A2 = some ⟨b, N * 7, none⟩) ∧ w.heap.size ≤ b ∧ b < w'.heap.size ∧ (∀ (i : Nat) u, (rs.flatMap regVals)[i]? = some u → w'.cell? ⟨b, i, none⟩ = some u) ∧ N ≤ c ∧ c ≤ 9223372036854775807 ∧ Ext w w' := by
  have hlen := layM_len hl
  rw [filWants_len] at hlen
  replace hl := Lib.hid hl
  have hlenh := Lib.hid hlen
  clear hlen
  have d1 : decide (me < 0) = false := by rw [decide_eq_false_iff_not]; omega
  have d2 : decide ((N : Int) ≤ me) = false := by rw [decide_eq_false_iff_not]; omega
  have hX := Ext.refl w
  have b1 := Blk.new w (.cells #[.int .i64 alg, .int .i64 N, .int .i64 mode, .int .i64 base, .int .i64 loc, .int .i64 room] 52)
  replace hX := hX.alloc (.cells #[.int .i64 alg, .int .i64 N, .int .i64 mode, .int .i64 base, .int .i64 loc, .int .i64 room] 52)
  have c_b1 := b1.cells
  go_enter Tryz.func108, Tryz.ntmps108
  go_wp2_with fail
  generalize w.alloc _ = W at *
  have hXW := hX
  clear hX c_b1
  have hX := (Ext.refl W).drew
  have hS : ∀ w', Ext W w' → (∀ i, w'.cell? ⟨w.heap.size, i, none⟩ = (#[.int .i64 alg, .int .i64 N, .int .i64 mode, .int .i64 base, .int .i64 loc, .int .i64 room] : Array Value)[i]?) := fun w' hx => (b1.ext hx).cells
  go_region_held2 (fun w' => ∀ i, w'.cell? ⟨w.heap.size, i, none⟩ = (#[.int .i64 alg, .int .i64 N, .int .i64 mode, .int .i64 base, .int .i64 loc, .int .i64 room] : Array Value)[i]?) (exact hS _ hX)
    (first
      | (go_at_call 44
         refine (filwants_p N _ h1 h2).mono ?_
         rintro e w2 ⟨v2, rfl, hw2, hx⟩
         replace hX := hX.trans hx
         have hz2 := hX.size
         clear hx)
      | (go_at_call 174
         refine (layp_some hl.out _ (hw2.ext (Ext.refl _)) (by simp [filWants_len]; omega)).mono ?_
         rintro e w3 ⟨v3, rfl, hr3, hx⟩
         replace hX := hX.trans hx
         clear hx))
  rename_i hh
  clear hh
  obtain ⟨⟨A, c, rfl, q1, q2, hV⟩, hown⟩ := hr3
  obtain ⟨b, rfl, hb, hcells⟩ := hV (by cases rs with | nil => have := hlenh.out; simp only [List.length_nil] at this; omega | cons r l => simp [regVals])
  have hge : w.heap.size ≤ b := Nat.le_trans (Nat.le_trans hXW.size hz2) (hown b rfl)
  have hfh := Lib.hid (And.intro hge (And.intro hb (And.intro hcells (hXW.trans hX))))
  clear hcells hV hb hown hge hz2
  have c_b1 := hS _ hX
  clear hS
  have hz3 := hlenh.out
  go_wp2_with fail
  go_quiet (fail)
  have hx9 := (Ext.refl w3).drewN nq
  have hg9 := hfh.out.1
  have hb9 := Nat.lt_of_lt_of_le hfh.out.2.1 hx9.size
  have hc9 : Hid (∀ (i : Nat) u, (rs.flatMap regVals)[i]? = some u → (w3.drewN nq).cell? ⟨b, i, none⟩ = some u) := Lib.hid fun i u hu => (hx9.cell (p := ⟨b, i, none⟩) hfh.out.2.1).trans (hfh.out.2.2.1 i u hu)
  have hX9 := Lib.hid (hfh.out.2.2.2.trans hx9)
  clear hx9 c_b1 hfh
  generalize w3.drewN nq = W9 at *
  generalize hA2 : (if c = N then some (⟨b, 0, none⟩ : Addr) else some ⟨b, N * 7, none⟩) = A2
  have hA3 : Hid (2 ≤ N → A2 = some ⟨b, N * 7, none⟩) := Lib.hid fun h => by rw [← hA2]; exact if_neg (by omega)
  clear hA2
  rw [show 2 * N - 1 - N = N - 1 from by omega]
  go_wp2_with fail
  refine bodyPost_ret (v := .tuple #[.slice (some ⟨b, 0, none⟩) N c, .slice A2 (N - 1) (c - N), .int .i64 0]) (by simp [results, Tryz.results108, go_sem]) rfl ?_
  exact ⟨b, c, _, c - N, rfl, hA3.out, hg9, hb9, hc9.out, by omega, q2, hX9.out⟩
set_option maxRecDepth 100000 in
theorem fastlay_p (alg mode base loc room me : Int) (N : Nat) (rs : List Reg) (w : World) (h1 : 1 ≤ N) (h2 : N ≤ 8) (hl : layM (fastWants N) N mode base loc = some rs) (hm0 : 0 ≤ me) (hm1 : me < N) :
    Calls Tryz.prog 115 #[.agg #[.int .i64 alg, .int .i64 N, .int .i64 mode, .int .i64 base, .int .i64 loc, .int .i64 room], .int .i64 me] w fun e w' => ∃ b c, e = .returned (.tuple #[.slice (some ⟨b, 0, none⟩) rs.length c, .int .i64 0]) ∧ w.heap.size ≤ b ∧ b < w'.heap.size ∧ (∀ (i : Nat) u, (rs.flatMap regVals)[i]? = some u → w'.cell? ⟨b, i, none⟩ = some u) ∧ rs.length ≤ c ∧ c ≤ 9223372036854775807 ∧ Ext w w' := by
  have hlen := layM_len hl
  rw [fastWants_len] at hlen
  replace hl := Lib.hid hl
  have hlenh := Lib.hid hlen
  clear hlen
  have d1 : decide (me < 0) = false := by rw [decide_eq_false_iff_not]; omega
  have d2 : decide ((N : Int) ≤ me) = false := by rw [decide_eq_false_iff_not]; omega
  have hX := Ext.refl w
  have b1 := Blk.new w (.cells #[.int .i64 alg, .int .i64 N, .int .i64 mode, .int .i64 base, .int .i64 loc, .int .i64 room] 52)
  replace hX := hX.alloc (.cells #[.int .i64 alg, .int .i64 N, .int .i64 mode, .int .i64 base, .int .i64 loc, .int .i64 room] 52)
  have c_b1 := b1.cells
  go_enter Tryz.func115, Tryz.ntmps115
  go_wp2_with fail
  generalize w.alloc _ = W at *
  have hXW := hX
  clear hX c_b1
  have hX := (Ext.refl W).drew
  have hS : ∀ w', Ext W w' → (∀ i, w'.cell? ⟨w.heap.size, i, none⟩ = (#[.int .i64 alg, .int .i64 N, .int .i64 mode, .int .i64 base, .int .i64 loc, .int .i64 room] : Array Value)[i]?) := fun w' hx => (b1.ext hx).cells
  go_region_held2 (fun w' => ∀ i, w'.cell? ⟨w.heap.size, i, none⟩ = (#[.int .i64 alg, .int .i64 N, .int .i64 mode, .int .i64 base, .int .i64 loc, .int .i64 room] : Array Value)[i]?) (exact hS _ hX)
    (first
      | (go_at_call 53
         refine (fastwants_p N _ h1 h2).mono ?_
         rintro e w2 ⟨v2, rfl, hw2, hx⟩
         replace hX := hX.trans hx
         have hz2 := hX.size
         clear hx)
      | (go_at_call 174
         refine (layp_some hl.out _ (hw2.ext (Ext.refl _)) (by simp [fastWants_len]; omega)).mono ?_
         rintro e w3 ⟨v3, rfl, hr3, hx⟩
         replace hX := hX.trans hx
         clear hx))
  rename_i hh
  clear hh
  obtain ⟨⟨A, c, rfl, q1, q2, hV⟩, hown⟩ := hr3
  obtain ⟨b, rfl, hb, hcells⟩ := hV (by cases rs with | nil => have := hlenh.out; simp only [List.length_nil] at this; omega | cons r l => simp [regVals])
  have hge : w.heap.size ≤ b := Nat.le_trans (Nat.le_trans hXW.size hz2) (hown b rfl)
  have hfh := Lib.hid (And.intro hge (And.intro hb (And.intro hcells (hXW.trans hX))))
  clear hcells hV hb hown hge hz2
  go_wp2_with fail
  first | go_ret2 | go_ret
  exact ⟨_, _, rfl, hfh.out.1, hfh.out.2.1, hfh.out.2.2.1, q1, q2, hfh.out.2.2.2⟩
end Go.Proofs.YtpcohbpeglledaaGreat
/-
  Plain mathematics: registers leave no notes.
-/
namespace Kv
theorem notes_ret {α : Type} (a : α) (n : Nat) : (Prog.ret a).Notes n := .ret a n
theorem notes_forP {σ : Type} {T : Int → σ → Prog σ} (h : ∀ a x, (T a x).Notes 0) : ∀ (l : List Int) (x : σ), (forP T l x).Notes 0
  | [], x => .ret x 0
  | a :: l, x => (h a x).bind0 fun y => notes_forP h l y
theorem notes_trompW (b l v : Int) : (trompW b l v).Notes 0 := by
  refine (notes_gt _).bind0 fun x => ?_
  split
  · exact .ret _ _
  · refine (notes_wr _ _).bind0 fun _ => (notes_st _ _).bind0 fun _ => (notes_gt _).bind0 fun _ => (notes_rd _).bind0 fun _ => ?_
    split
    · exact (notes_wr _ _).bind0 fun _ => notes_st _ _
    · exact .ret _ _
theorem notes_trompR3 (b l x : Int) : (trompR3 b l x).Notes 0 := by
  refine (notes_rd _).bind0 fun _ => (notes_st _ _).bind0 fun _ => (notes_rd _).bind0 fun _ => (notes_gt _).bind0 fun _ => ?_
  split
  · exact notes_gt _
  · exact (notes_rd _).bind0 fun _ => (notes_st _ _).bind0 fun _ => .ret _ _
theorem notes_trompR2 (b l x : Int) : (trompR2 b l x).Notes 0 := by
  refine (notes_rd _).bind0 fun _ => (notes_gt _).bind0 fun _ => ?_
  split
  · exact notes_trompR3 _ _ _
  · exact (notes_gt _).bind0 fun _ => (notes_wr _ _).bind0 fun _ => (notes_st _ _).bind0 fun _ => notes_trompR3 _ _ _
theorem notes_trompR (b l : Int) : (trompR b l).Notes 0 := by
  refine (notes_rd _).bind0 fun _ => (notes_gt _).bind0 fun _ => ?_
  split
  · exact notes_gt _
  · exact (notes_rd _).bind0 fun _ => notes_trompR2 _ _ _
theorem notes_slotsW (b l v : Int) : (slotsW b l v).Notes 0 :=
  (notes_trompR _ _).bind0 fun _ => (notes_gt _).bind0 fun _ => (notes_wr _ _).bind0 fun _ => (notes_st _ _).bind0 fun _ => (notes_trompW _ _ _).bind0 fun _ => notes_trompW _ _ _
theorem notes_slotsR (b l : Int) : (slotsR b l).Notes 0 :=
  (notes_trompR _ _).bind0 fun _ => (notes_trompW _ _ _).bind0 fun _ => (notes_trompR _ _).bind0 fun _ => notes_rd _
theorem notes_tableW (b l n w top me v : Int) : (tableW b l n w top me v).Notes 0 := by
  unfold tableW
  split
  · exact .ret _ _
  · exact (notes_gt _).bind0 fun _ => (notes_st _ _).bind0 fun _ => (notes_forP (fun _ _ => notes_slotsW _ _ _) _ _).bind0 fun _ => notes_st _ _
theorem notes_tableR (b l n w top me : Int) : (tableR b l n w top me).Notes 0 := by
  unfold tableR
  split
  · exact notes_gt _
  · exact (notes_slotsR _ _).bind0 fun _ => (notes_forP (fun _ _ => (notes_slotsR _ _).bind0 fun _ => .ret _ _) _ _).bind0 fun _ => (notes_forP (fun _ _ => notes_slotsW _ _ _) _ _).bind0 fun _ => .ret _ _
theorem notes_manyRs (b l n top me : Int) : ∀ (k : Nat) (j s v : Int), (manyRs b l n top me k j s v).Notes 0
  | 0, _, _, _ => .ret _ _
  | k + 1, j, s, v => by
    unfold manyRs
    refine (notes_tableR _ _ _ _ _ _).bind0 fun y => ?_
    split
    · exact notes_manyRs b l n top me k _ _ _
    · exact notes_manyRs b l n top me k _ _ _
theorem notes_regR (r : Reg) (me : Int) : (regR r me).Notes 0 := by
  unfold regR
  split
  · exact notes_rd _
  · split
    · exact notes_tableR _ _ _ _ _ _
    · exact (notes_manyRs _ _ _ _ _ _ _ _ _).bind0 fun _ => .ret _ _
theorem notes_regW (r : Reg) (me v : Int) : (regW r me v).Notes 0 := by
  unfold regW
  split
  · exact notes_wr _ _
  · split
    · exact notes_tableW _ _ _ _ _ _ _
    · exact (notes_manyRs _ _ _ _ _ _ _ _ _).bind0 fun _ => notes_tableW _ _ _ _ _ _ _
/-- What leaves no notes keeps their number. -/
theorem Prog.Notes.keep {α : Type} {p : Prog α} {n : Nat} (h : p.Notes 0) {S S1 : TS} {a : Option α} (hr : p.run S = (a, S1)) (hn : S.nts.length ≤ n) : S1.nts.length ≤ n := by
  have := h.run S
  rw [hr] at this
  simp only at this
  omega
end Kv
/-
  The program's Mem: a note left.
-/
namespace Go.Proofs.YtpcohbpeglledaaGreat
open Go.RowKit Kv
set_option maxRecDepth 100000 in
theorem note_p (B p : Nat) (S : TS) (n : Int) (w : World) (h : Plays B w p S) (hl : S.nts.length < maxAns) :
    Calls Tryz.prog 109 #[.pointer (some ⟨p, 0, none⟩), .int .i64 n] w fun e w' => e = .returned (.tuple #[]) ∧ Plays B w' p (S.noted n) ∧ KeepP B p w w' := by
  obtain ⟨h1, vA, vL, vC, vN, L, h⟩ := h
  have hc := cell_of_heap h.heap
  have hbo := h.ansN
  have hbn := h.ntsN
  unfold maxAns at hbo hbn hl
  have hle := h.lt
  have hge := h.ge
  obtain ⟨An, cn, hvN⟩ : ∃ A c, vN = .slice A S.nts.length c := by
    rcases h.rowN.2 with ⟨rfl, h0⟩ | ⟨g, cap, cur, rfl, _⟩
    · exact ⟨none, 0, by rw [h0]⟩
    · exact ⟨_, _, rfl⟩
  subst hvN
  obtain ⟨Ac, cc, hvC⟩ : ∃ A c, vC = .slice A S.acc.length c := by
    rcases h.rowC.2 with ⟨rfl, h0⟩ | ⟨g, cap, cur, rfl, _⟩
    · exact ⟨none, 0, by rw [h0]⟩
    · exact ⟨_, _, rfl⟩
  subst hvC
  have hL := Lib.hid h
  clear h
  obtain ⟨i0, hi, hz0, hz1, hz2⟩ := info_parts info_note
  go_enter Tryz.func109, Tryz.ntmps109
  go_wp2_with fail
  go_region_law ((refine step_append_lies _ (by rfl) _ _ _ (by rfl) B 94 i0 _ 2 16 Tryz.underlying34 hi hz0 hz1 hz2 rfl (by omega) (Value.slice An S.nts.length cn) S.nts.length (ntVals S.nts) (by rfl) ((World.ownsRow.drew hL.out.rowN).alloc _) ⟨w.heap.size, 0, none⟩ 1 1 [.int .i64 n, .int .i64 S.acc.length] (by rfl) (by rfl) (cells_new1 w _ _) (by simp [Value.oneCell']) (by omega) (by unfold maxLen; omega) (by omega) (by simp; omega) (w.heap.size + 1) (by simp) ?_; intro gg cap w1 hown1 hgrow hat hlt; have hp1 := grown_heap hL.out.heap hL.out.cNe.2.2 (grown1 hgrow); have hq1 := cell_of_heap hp1; have hf1 := frozen_of_heap hp1))
  all_goals
    obtain ⟨HM, HK⟩ := hL.out.grewN n (grown1 hgrow) (hat.imp id (by omega)) hown1 hl
    clear hown1 hgrow hat hlt hp1 hq1 hf1 hc
    generalize hv' : (Value.slice (some ⟨gg, 0, none⟩) (S.nts.length + 1) cap) = v' at *
    generalize w1.setCell ⟨p, 4, none⟩ v' = W at *
    clear hv' w1
    have HMh : Plays B W p (S.noted n) := ⟨h1, _, _, _, _, _, HM⟩
    have HKh := Lib.hid HK
    clear HM HK
    go_wp2_with fail
    first | go_end0 | refine bodyPost_ret (results_none rfl _ _ _) rfl ?_
    exact ⟨rfl, HMh, HKh.out⟩
end Go.Proofs.YtpcohbpeglledaaGreat
/-
  The document's Mem: a note left.
-/
namespace Go.Proofs.YtpcohbpeglledaaGreat
open Go.RowKit Kv
set_option maxRecDepth 100000 in
theorem note_rf (B p : Nat) (S : TS) (n : Int) (w : World) (h : RAt B w p false S) (hl : S.nts.length < maxAns) :
    Calls Tryz.prog 111 #[.pointer (some ⟨p, 0, none⟩), .int .i64 n] w fun e w' => e = .returned (.tuple #[]) ∧ RAt B w' p false (S.noted n) ∧ KeepR B p w w' := by
  obtain ⟨m, vA, vC, vN, vL, L, h, hn1, hn2⟩ := h
  have hnh := Lib.hid (And.intro hn1 hn2)
  clear hn1 hn2
  have hc := cell_of_heap h.heap
  have hbo := h.ansN
  have hbn := h.ntsN
  unfold maxAns at hbo hbn hl
  have hle := h.lt
  have hge := h.ge
  obtain ⟨An, cn, hvN⟩ : ∃ A c, vN = .slice A S.nts.length c := by
    rcases h.rowN.2 with ⟨rfl, h0⟩ | ⟨g, cap, cur, rfl, _⟩
    · exact ⟨none, 0, by rw [h0]⟩
    · exact ⟨_, _, rfl⟩
  subst hvN
  obtain ⟨Ac, cc, hvC⟩ : ∃ A c, vC = .slice A S.acc.length c := by
    rcases h.rowC.2 with ⟨rfl, h0⟩ | ⟨g, cap, cur, rfl, _⟩
    · exact ⟨none, 0, by rw [h0]⟩
    · exact ⟨_, _, rfl⟩
  subst hvC
  have hL := Lib.hid h
  clear h
  obtain ⟨i0, hi, hz0, hz1, hz2⟩ := info_parts info_note
  go_enter Tryz.func111, Tryz.ntmps111
  go_wp2_with fail
  go_region_law ((refine step_append_lies _ (by rfl) _ _ _ (by rfl) B 94 i0 _ 2 16 Tryz.underlying34 hi hz0 hz1 hz2 rfl (by omega) (Value.slice An S.nts.length cn) S.nts.length (ntVals S.nts) (by rfl) ((World.ownsRow.drew hL.out.rowN).alloc _) ⟨w.heap.size, 0, none⟩ 1 1 [.int .i64 n, .int .i64 S.acc.length] (by rfl) (by rfl) (cells_new1 w _ _) (by simp [Value.oneCell']) (by omega) (by unfold maxLen; omega) (by omega) (by simp; omega) (w.heap.size + 1) (by simp) ?_; intro gg cap w1 hown1 hgrow hat hlt; have hp1 := grown_heap hL.out.heap hL.out.cNe.2.2 (grown1 hgrow); have hq1 := cell_of_heap hp1; have hf1 := frozen_of_heap hp1))
  all_goals
    obtain ⟨HM, HK⟩ := hL.out.grewN n (grown1 hgrow) (hat.imp id (by omega)) hown1 hl
    clear hown1 hgrow hat hlt hp1 hq1 hf1 hc
    generalize hv' : (Value.slice (some ⟨gg, 0, none⟩) (S.nts.length + 1) cap) = v' at *
    generalize w1.setCell ⟨p, 4, none⟩ v' = W at *
    clear hv' w1
    have HMh : RAt B W p false (S.noted n) := ⟨_, _, _, _, _, _, HM, hnh.out.1, hnh.out.2⟩
    have HKh := Lib.hid HK
    clear HM HK
    go_wp2_with fail
    first | go_end0 | refine bodyPost_ret (results_none rfl _ _ _) rfl ?_
    exact ⟨rfl, HMh, HKh.out⟩
theorem note_r (B p : Nat) (o : Bool) (S : TS) (n : Int) (w : World) (h : RAt B w p o S) (hl : S.nts.length < maxAns) :
    Calls Tryz.prog 111 #[.pointer (some ⟨p, 0, none⟩), .int .i64 n] w (RPost encU B p w (nt n) o S) := by
  cases o with
  | false => exact (note_rf B p S n w h hl).mono fun e w' ⟨h1, h2, h3⟩ => ⟨(), false, _, h1, .done rfl, h2, h3⟩
  | true =>
    have hP := Lib.hid h
    have hK := Lib.hid (Keep.refl [3, 4, 5] B p w)
    obtain ⟨vA, m, vC, vN, vL, hc⟩ := h.cell
    clear h
    go_enter Tryz.func111, Tryz.ntmps111
    go_wp2_with fail
    first | go_end0 | refine bodyPost_ret (results_none rfl _ _ _) rfl ?_
    exact ⟨(), true, S, rfl, .over _ _, hP.out, hK.out⟩
theorem noteO {B p : Nat} {S : TS} {n : Int} {w : World} (h : Plays B w p S) (hl : S.nts.length < maxAns) :
    Calls Tryz.prog 109 #[.pointer (some ⟨p, 0, none⟩), .int .i64 n] w (Post encU B p w ((nt n).run S)) :=
  (note_p B p S n w h hl).mono fun _ _ ⟨h1, h2, h3⟩ => ⟨h1, h2, h3⟩
end Go.Proofs.YtpcohbpeglledaaGreat
/-
  Steps that tell how many notes there are; loops of plays; rows laid meanwhile.
-/
namespace Kv
theorem forP_consB {σ β : Type} (T : Int → σ → Prog σ) (a : Int) (l : List Int) (x : σ) (k : σ → Prog β) : (forP T (a :: l) x).bind k = (T a x).bind fun y => (forP T l y).bind k := Prog.bind_assoc _ _ _
theorem forP_nilB {σ β : Type} (T : Int → σ → Prog σ) (x : σ) (k : σ → Prog β) : (forP T [] x).bind k = k x := rfl
theorem ranks_cons (but : Int) (n : Nat) (i : Int) (h : i ≠ but) : ranksFrom but (n + 1) i = i :: ranksFrom but n (i + 1) := by
  rw [ranksFrom, if_neg h]
theorem ranks_skip (n : Nat) (i : Int) : ranksFrom i (n + 1) i = ranksFrom i n (i + 1) := by
  rw [ranksFrom, if_pos rfl]
theorem ranks_zero (but i : Int) : ranksFrom but 0 i = [] := rfl
end Kv
namespace Go.Proofs.YtpcohbpeglledaaGreat
open Go.RowKit Kv
theorem RegsAt.nth {ix : List Nat} {p b : Nat} {w : World} {l : List Reg} (h : RegsAt ix w p b l) {i : Nat} {r : Reg} (hi : l[i]? = some r) : RegCells w b (i * 7) r := reg_cells h.cells hi
/-- A block laid meanwhile is none of the Mem's. -/
theorem Plays.fresh {B p b : Nat} {w w' : World} {S : TS} (h : Plays B w p S) (hx : Ext w w') (hb : w.heap.size ≤ b) : ¬ ownR [2, 3, 4] w' p b := by
  obtain ⟨_, _, _, _, _, _, h⟩ := h
  intro ho
  have := (h.own ((ownR_same (Below.block hx p h.lt) b).1 ho)).2
  omega
theorem RAt.fresh {B p b : Nat} {w w' : World} {o : Bool} {S : TS} (h : RAt B w p o S) (hx : Ext w w') (hb : w.heap.size ≤ b) : ¬ ownR [3, 4, 5] w' p b := by
  obtain ⟨_, _, _, _, _, _, h, _⟩ := h
  intro ho
  have := (h.own ((ownR_same (Below.block hx p h.lt) b).1 ho)).2
  omega
/-- One call behind what was done: what it takes of the answers, and how many notes it leaves. -/
theorem tstepN {α β : Type} {B p : Nat} {w0 w : World} {S : TS} {R : Ending → World → Prop} {P : Program} {f : FuncId} {args : Array Value} {K : Ending → World → Prop} {enc : α → Value} {enc' : β → Value} {T : Prog α} {g : α → Prog β} {k : Nat} (hN : T.Notes k)
    (hO : Owes R enc' B p w0 ((T.bind g).run S)) (hB : KeepP B p w0 w) (h : Calls P f args w (Post enc B p w (T.run S))) (hp : ∀ w', R (stopE p) w' → K (stopE p) w')
    (hk : ∀ v S1 w1, S1.left ≤ S.left → (T.Asks → S1.left < S.left) → S1.nts.length ≤ S.nts.length + k → Plays B w1 p S1 → KeepP B p w w1 → KeepP B p w0 w1 → Owes R enc' B p w0 ((g v).run S1) → K (.returned (enc v)) w1) : Calls P f args w K := by
  refine tstep hO hB h hp fun v S1 w1 hr hP hk1 hk2 hO1 => hk v S1 w1 ?_ (fun ha => ha.left hr hP.1) ?_ hP hk1 hk2 hO1
  · have := Prog.run_left T S
    rw [hr] at this
    exact this
  · have := hN.run S
    rw [hr] at this
    exact this
theorem ref_notes {α : Type} {T : Prog α} {o o' : Bool} {S S' : TS} {a : α} {k : Nat} (hN : T.Notes k) (h : Ref T o S a o' S') : S'.nts.length ≤ S.nts.length + k := by
  have := hN.run S
  cases h with
  | over => omega
  | done h => rw [h] at this; exact this
  | stop _ h => rw [h] at this; exact this
theorem rstepN {α β : Type} {B p : Nat} {w0 w : World} {o : Bool} {S : TS} {R : Ending → World → Prop} {P : Program} {f : FuncId} {args : Array Value} {K : Ending → World → Prop} {enc : α → Value} {enc' : β → Value} {T : Prog α} {g : α → Prog β} {k : Nat} (hN : T.Notes k)
    (hO : ROwes R enc' B p w0 (T.bind g) o S) (hB : KeepR B p w0 w) (h : Calls P f args w (RPost enc B p w T o S))
    (hk : ∀ v o1 S1 w1, S1.left ≤ S.left → (o1 = false → o = false ∧ (T.Asks → S1.left < S.left)) → S1.nts.length ≤ S.nts.length + k → RAt B w1 p o1 S1 → KeepR B p w w1 → KeepR B p w0 w1 → ROwes R enc' B p w0 (g v) o1 S1 → K (.returned (enc v)) w1) : Calls P f args w K := by
  refine h.mono fun e w1 ⟨v, o1, S1, he, hr, h1, h2⟩ => ?_
  subst he
  refine hk v o1 S1 w1 (ref_lefts hr) (fun ho => ?_) (ref_notes hN hr) h1 h2 (hB.trans h2) (hO.then hr)
  subst ho
  cases hr with
  | done hr => exact ⟨rfl, fun ha => ha.left hr h1.len⟩
end Go.Proofs.YtpcohbpeglledaaGreat
/-
  Plain mathematics: which locals an operation sets.
-/
namespace Kv
/-- An operation that sets locals from lo on, below hi, alone. -/
inductive Prog.Sets {α : Type} (lo hi : Int) : Prog α → Prop
  | ret (a : α) : Sets lo hi (.ret a)
  | read (c : Int) {k : Int → Prog α} : (∀ x, Sets lo hi (k x)) → Sets lo hi (.read c k)
  | write (c v : Int) {k : Unit → Prog α} : Sets lo hi (k ()) → Sets lo hi (.write c v k)
  | get (i : Int) {k : Int → Prog α} : (∀ x, Sets lo hi (k x)) → Sets lo hi (.get i k)
  | set (i v : Int) {k : Unit → Prog α} : lo ≤ i → i < hi → Sets lo hi (k ()) → Sets lo hi (.set i v k)
  | note (m : Int) {k : Unit → Prog α} : Sets lo hi (k ()) → Sets lo hi (.note m k)
theorem Prog.Sets.bind {α β : Type} {lo hi : Int} {p : Prog α} {f : α → Prog β} (h : p.Sets lo hi) (hf : ∀ a, (f a).Sets lo hi) : (p.bind f).Sets lo hi := by
  induction h with
  | ret a => exact hf a
  | read c _ ih => exact .read c fun x => ih x
  | write c v _ ih => exact .write c v ih
  | get c _ ih => exact .get c fun x => ih x
  | set c v h1 h2 _ ih => exact .set c v h1 h2 ih
  | note m _ ih => exact .note m ih
theorem Prog.Sets.mono {α : Type} {lo hi lo' hi' : Int} {p : Prog α} (h : p.Sets lo hi) (h1 : lo' ≤ lo) (h2 : hi ≤ hi') : p.Sets lo' hi' := by
  induction h with
  | ret a => exact .ret a
  | read c _ ih => exact .read c fun x => ih x
  | write c v _ ih => exact .write c v ih
  | get c _ ih => exact .get c fun x => ih x
  | set c v h3 h4 _ ih => exact .set c v (by omega) (by omega) ih
  | note m _ ih => exact .note m ih
/-- All other locals stay. -/
theorem Prog.Sets.got {α : Type} {lo hi i : Int} {p : Prog α} (h : p.Sets lo hi) (hi2 : i < lo ∨ hi ≤ i) : ∀ S : TS, (p.run S).2.got i = S.got i := by
  induction h with
  | ret a => intro S; rfl
  | read c _ ih =>
    intro S
    simp only [Prog.run]
    cases S.next with
    | none => rfl
    | some v => exact (ih v _).trans rfl
  | write c v _ ih =>
    intro S
    simp only [Prog.run]
    cases S.next with
    | none => rfl
    | some _ => exact (ih _).trans rfl
  | get c _ ih => intro S; exact ih _ _
  | set j v h1 h2 _ ih =>
    intro S
    refine (ih (S.upd j v)).trans ?_
    unfold TS.got TS.upd
    split
    · rfl
    · split
      · simp only
        rw [if_neg (by omega)]
      · rfl
  | note m _ ih => intro S; exact (ih _).trans rfl
theorem sets_rd (lo hi c : Int) : (rd c).Sets lo hi := .read c fun x => .ret x
theorem sets_wr (lo hi c v : Int) : (wr c v).Sets lo hi := .write c v (.ret ())
theorem sets_gt (lo hi c : Int) : (gt c).Sets lo hi := .get c fun x => .ret x
theorem sets_st {lo hi c : Int} (v : Int) (h1 : lo ≤ c) (h2 : c < hi) : (st c v).Sets lo hi := .set c v h1 h2 (.ret ())
theorem sets_forP {σ : Type} {lo hi : Int} {T : Int → σ → Prog σ} : ∀ (l : List Int), (∀ a ∈ l, ∀ x, (T a x).Sets lo hi) → ∀ x : σ, (forP T l x).Sets lo hi
  | [], _, x => .ret x
  | a :: l, h, x => (h a (List.mem_cons_self ..) x).bind fun y => sets_forP l (fun b hb => h b (List.mem_cons_of_mem _ hb)) y
theorem ranks_mem {but : Int} : ∀ (n : Nat) (i : Int) {a : Int}, a ∈ ranksFrom but n i → i ≤ a ∧ a < i + n ∧ a ≠ but
  | 0, i, a, h => by cases h
  | n + 1, i, a, h => by
    unfold ranksFrom at h
    split at h
    · have := ranks_mem n (i + 1) h
      omega
    · rcases List.mem_cons.1 h with rfl | h
      · omega
      · have := ranks_mem n (i + 1) h
        omega
theorem otherM_bd (v : Int) : 0 ≤ otherM v ∧ otherM v ≤ 1 := by unfold otherM; split <;> omega
theorem bitM_bd (v : Int) : 0 ≤ bitM v ∧ bitM v ≤ 1 := by unfold bitM; split <;> omega
theorem sets_trompW (b l v : Int) : (trompW b l v).Sets l (l + 4) := by
  refine (sets_gt _ _ _).bind fun x => ?_
  split
  · exact .ret _
  · refine (sets_wr _ _ _ _).bind fun _ => (sets_st _ (by omega) (by omega)).bind fun _ => (sets_gt _ _ _).bind fun _ => (sets_rd _ _ _).bind fun _ => ?_
    split
    · exact (sets_wr _ _ _ _).bind fun _ => sets_st _ (by omega) (by omega)
    · exact .ret _
theorem sets_trompR3 (b l x : Int) : (trompR3 b l x).Sets l (l + 4) := by
  refine (sets_rd _ _ _).bind fun _ => (sets_st _ (by omega) (by omega)).bind fun _ => (sets_rd _ _ _).bind fun _ => (sets_gt _ _ _).bind fun _ => ?_
  split
  · exact sets_gt _ _ _
  · exact (sets_rd _ _ _).bind fun _ => (sets_st _ (by omega) (by omega)).bind fun _ => .ret _
theorem sets_trompR2 (b l x : Int) : (trompR2 b l x).Sets l (l + 4) := by
  refine (sets_rd _ _ _).bind fun _ => (sets_gt _ _ _).bind fun _ => ?_
  split
  · exact sets_trompR3 _ _ _
  · exact (sets_gt _ _ _).bind fun _ => (sets_wr _ _ _ _).bind fun _ => (sets_st _ (by omega) (by omega)).bind fun _ => sets_trompR3 _ _ _
theorem sets_trompR (b l : Int) : (trompR b l).Sets l (l + 4) := by
  refine (sets_rd _ _ _).bind fun _ => (sets_gt _ _ _).bind fun _ => ?_
  split
  · exact sets_gt _ _ _
  · exact (sets_rd _ _ _).bind fun _ => sets_trompR2 _ _ _
theorem sets_slotsW (b l v : Int) : (slotsW b l v).Sets l (l + 18) := by
  refine ((sets_trompR _ _).mono (by omega) (by omega)).bind fun y => (sets_gt _ _ _).bind fun z => (sets_wr _ _ _ _).bind fun _ => ?_
  have := otherM_bd y
  refine (sets_st _ (by omega) (by omega)).bind fun _ => ((sets_trompW _ _ _).mono (by omega) (by omega)).bind fun _ => (sets_trompW _ _ _).mono (by omega) (by omega)
theorem sets_slotsR (b l : Int) : (slotsR b l).Sets l (l + 18) := by
  refine ((sets_trompR _ _).mono (by omega) (by omega)).bind fun y => ((sets_trompW _ _ _).mono (by omega) (by omega)).bind fun _ => ?_
  have := bitM_bd y
  exact ((sets_trompR _ _).mono (by omega) (by omega)).bind fun _ => sets_rd _ _ _
/-- The numbers of a table's slots. -/
theorem tells_bd {k a b : Int} (ha : 0 ≤ a) (ha2 : a < k) (hb : 0 ≤ b) (hb2 : b < k) (hab : a ≠ b) : 0 ≤ tellsM k a b ∧ tellsM k a b < k * k := by
  unfold tellsM
  have h1 : a * (k - 1) ≤ (k - 1) * (k - 1) := Int.mul_le_mul_of_nonneg_right (by omega) (by omega)
  have h0 : 0 ≤ a * (k - 1) := Int.mul_nonneg ha (by omega)
  have h2 : (k - 1) * (k - 1) = k * k - 2 * k + 1 := by
    rw [Int.sub_mul, Int.mul_sub, Int.mul_one, Int.one_mul]; omega
  split
  · omega
  · rename_i h
    by_cases e : a = k - 1
    · omega
    · have h3 : a * (k - 1) ≤ (k - 2) * (k - 1) := Int.mul_le_mul_of_nonneg_right (by omega) (by omega)
      have h4 : (k - 2) * (k - 1) = k * k - 3 * k + 2 := by
        rw [Int.sub_mul, Int.mul_sub, Int.mul_one]; omega
      omega
theorem rankM_bd {n w me : Int} (hw : 0 ≤ w) (hw2 : w < n) (hm : 0 ≤ me) (hm2 : me < n) (h : me ≠ w) : 0 ≤ rankM w me ∧ rankM w me < n - 1 := by
  unfold rankM
  split <;> omega
theorem sets_tableR {b l n w top me : Int} (hw : 0 ≤ w) (hw2 : w < n) (hm : 0 ≤ me) (hm2 : me < n) : (tableR b l n w top me).Sets l (l + (2 + 18 * ((n - 1) * (n - 1)))) := by
  unfold tableR
  split
  · exact sets_gt _ _ _
  · rename_i h
    obtain ⟨r1, r2⟩ := rankM_bd hw hw2 hm hm2 h
    have hk : n - 1 ≤ (n - 1) * (n - 1) := by
      have := Int.mul_le_mul_of_nonneg_right (show 1 ≤ n - 1 by omega) (show 0 ≤ n - 1 by omega)
      omega
    refine ((sets_slotsR _ _).mono (by omega) (by omega)).bind fun x => (sets_forP _ (fun i hi y => ?_) _).bind fun x => (sets_forP _ (fun i hi y => ?_) _).bind fun _ => .ret _
    · obtain ⟨i1, i2, i3⟩ := ranks_mem _ _ hi
      obtain ⟨t1, t2⟩ := tells_bd (k := n - 1) (a := i) (b := rankM w me) i1 (by omega) r1 r2 i3
      exact ((sets_slotsR _ _).mono (by omega) (by omega)).bind fun _ => .ret _
    · obtain ⟨i1, i2, i3⟩ := ranks_mem _ _ hi
      obtain ⟨t1, t2⟩ := tells_bd (k := n - 1) (a := rankM w me) (b := i) r1 r2 i1 (by omega) (fun e => i3 e.symm)
      exact (sets_slotsW _ _ _).mono (by omega) (by omega)
end Kv
/-
  Plain mathematics of three locks (Peterson's filter, Lamport's fast lock, the black-white bakery) as trees.
-/
namespace Kv
/-- The register at a place. -/
def regAt (l : List Reg) (i : Int) : Reg := l.getD i.toNat ⟨1, 0, 0, 1, -1, -1, 1⟩
theorem regAt_of {l : List Reg} {i : Int} {k : Nat} {r : Reg} (hi : i = k) (h : l[k]? = some r) : regAt l i = r := by
  unfold regAt
  rw [hi, Int.toNat_natCast, List.getD_eq_getElem?_getD, h]; rfl
/-- Waiting in the filter: till a thread's level is below one, or another one is the victim. -/
def filWait (r v : Reg) (me level : Int) : Nat → Prog Unit
  | 0 => .ret ()
  | n + 1 => (regR r me).bind fun x => if x < level then .ret () else (regR v me).bind fun y => if y = me + 1 then filWait r v me level n else .ret ()
/-- A level of the filter. -/
def filLevel (N : Nat) (l : List Reg) (n me level : Int) : Prog Unit :=
  (regW (regAt l me) me level).bind fun _ => (regW (regAt l (n - 1 + level)) me (me + 1)).bind fun _ =>
    forP (fun j _ => filWait (regAt l j) (regAt l (n - 1 + level)) me level N) (ranksFrom me n.toNat 0) ()
def filA (N : Nat) (l : List Reg) (n me : Int) : Prog Int :=
  (nt 1).bind fun _ => (forP (fun level _ => filLevel N l n me level) (ranksFrom (-1) (n - 1).toNat 1) ()).bind fun _ => (nt 3).bind fun _ => .ret 0
def filR (l : List Reg) (me : Int) : Prog Unit := (nt 5).bind fun _ => regW (regAt l me) me 0
/-- Reading a register till it tells 0. -/
def zeroP (r : Reg) (me : Int) : Nat → Prog Unit
  | 0 => .ret ()
  | n + 1 => (regR r me).bind fun x => if x = 0 then .ret () else zeroP r me n
/-- The fast lock: so many tries at most. -/
def fastTry (N : Nat) (l : List Reg) (n me : Int) : Nat → Prog Unit
  | 0 => .ret ()
  | k + 1 => (regW (regAt l (2 + me)) me 1).bind fun _ => (regW (regAt l 0) me (me + 1)).bind fun _ => (regR (regAt l 1) me).bind fun y =>
      if y = 0 then
        (regW (regAt l 1) me (me + 1)).bind fun _ => (regR (regAt l 0) me).bind fun x =>
          if x = me + 1 then .ret () else
            (regW (regAt l (2 + me)) me 0).bind fun _ => (forP (fun j _ => zeroP (regAt l (2 + j)) me N) (ranksFrom (-1) n.toNat 0) ()).bind fun _ =>
              (regR (regAt l 1) me).bind fun y => if y = me + 1 then .ret () else (zeroP (regAt l 1) me N).bind fun _ => fastTry N l n me k
      else (regW (regAt l (2 + me)) me 0).bind fun _ => (zeroP (regAt l 1) me N).bind fun _ => fastTry N l n me k
def fastA (N : Nat) (l : List Reg) (n me : Int) : Prog Int := (nt 1).bind fun _ => (fastTry N l n me N).bind fun _ => (nt 3).bind fun _ => .ret 0
def fastR (l : List Reg) (me : Int) : Prog Unit := (nt 5).bind fun _ => (regW (regAt l 1) me 0).bind fun _ => regW (regAt l (2 + me)) me 0
/-- The bakery: the ticket behind all of one's color. -/
def bwMost (l : List Reg) (n me c : Int) (t : Int) : Prog Int :=
  forP (fun j t => (regR (regAt l (1 + n + j)) me).bind fun x => .ret (if x % 2 = c then max t (x / 2) else t)) (ranksFrom me n.toNat 0) t
def bwChoose (r : Reg) (me : Int) : Nat → Prog Unit
  | 0 => .ret ()
  | n + 1 => (regR r me).bind fun x => if x = 0 then .ret () else bwChoose r me n
/-- Waiting till a thread is not ahead any more. -/
def bwWait (l : List Reg) (n me j t c : Int) : Nat → Prog Unit
  | 0 => .ret ()
  | k + 1 => (regR (regAt l (1 + n + j)) me).bind fun x =>
      if x / 2 = 0 then .ret () else if x % 2 = c then (if t < x / 2 ∨ (x / 2 = t ∧ me < j) then .ret () else bwWait l n me j t c k)
      else (regR (regAt l 0) me).bind fun y => if bitM y = c then bwWait l n me j t c k else .ret ()
def bwA (N : Nat) (l : List Reg) (own n me : Int) : Prog Int :=
  (nt 1).bind fun _ => (regW (regAt l (1 + me)) me 1).bind fun _ => (regR (regAt l 0) me).bind fun y => (st own (bitM y)).bind fun _ =>
    (bwMost l n me (bitM y) 0).bind fun t => (regW (regAt l (1 + n + me)) me (2 * (t + 1) + bitM y)).bind fun _ => (regW (regAt l (1 + me)) me 0).bind fun _ => (nt 2).bind fun _ =>
      (forP (fun j _ => (bwChoose (regAt l (1 + j)) me N).bind fun _ => bwWait l n me j (t + 1) (bitM y) N) (ranksFrom me n.toNat 0) ()).bind fun _ => (nt 3).bind fun _ => .ret 0
def bwR (l : List Reg) (own n me : Int) : Prog Unit :=
  (nt 5).bind fun _ => (gt own).bind fun x => (regW (regAt l 0) me (1 - bitM x)).bind fun _ => regW (regAt l (1 + n + me)) me (bitM x)
theorem filLevel_bind {β : Type} (N : Nat) (l : List Reg) (n me level : Int) (f : Unit → Prog β) : (filLevel N l n me level).bind f = (regW (regAt l me) me level).bind fun _ => (regW (regAt l (n - 1 + level)) me (me + 1)).bind fun _ =>
    (forP (fun j _ => filWait (regAt l j) (regAt l (n - 1 + level)) me level N) (ranksFrom me n.toNat 0) ()).bind f := by
  unfold filLevel
  simp only [Prog.bind_assoc]
theorem filWait_bind {β : Type} (r v : Reg) (me level : Int) (n : Nat) (f : Unit → Prog β) : (filWait r v me level (n + 1)).bind f = (regR r me).bind fun x => if x < level then f () else (regR v me).bind fun y => if y = me + 1 then (filWait r v me level n).bind f else f () := by
  rw [show filWait r v me level (n + 1) = (regR r me).bind fun x => if x < level then .ret () else (regR v me).bind fun y => if y = me + 1 then filWait r v me level n else .ret () from rfl, Prog.bind_assoc]
  congr 1
  funext x
  split
  · rfl
  · rw [Prog.bind_assoc]
    congr 1
    funext y
    split <;> rfl
theorem zeroP_bind {β : Type} (r : Reg) (me : Int) (n : Nat) (f : Unit → Prog β) : (zeroP r me (n + 1)).bind f = (regR r me).bind fun x => if x = 0 then f () else (zeroP r me n).bind f := by
  rw [show zeroP r me (n + 1) = (regR r me).bind fun x => if x = 0 then .ret () else zeroP r me n from rfl, Prog.bind_assoc]
  congr 1
  funext x
  split <;> rfl
theorem notes_filWait (r v : Reg) (me level : Int) : ∀ n : Nat, (filWait r v me level n).Notes 0
  | 0 => .ret _ _
  | n + 1 => by
    rw [show filWait r v me level (n + 1) = (regR r me).bind fun x => if x < level then .ret () else (regR v me).bind fun y => if y = me + 1 then filWait r v me level n else .ret () from rfl]
    refine (notes_regR _ _).bind0 fun x => ?_
    split
    · exact .ret _ _
    · refine (notes_regR _ _).bind0 fun y => ?_
      split
      · exact notes_filWait r v me level n
      · exact .ret _ _
theorem notes_zeroP (r : Reg) (me : Int) : ∀ n : Nat, (zeroP r me n).Notes 0
  | 0 => .ret _ _
  | n + 1 => by
    rw [show zeroP r me (n + 1) = (regR r me).bind fun x => if x = 0 then .ret () else zeroP r me n from rfl]
    refine (notes_regR _ _).bind0 fun x => ?_
    split
    · exact .ret _ _
    · exact notes_zeroP r me n
end Kv
/-
  What the laws of locks share: whether registers can be laid, and a thread by any number.
-/
namespace Go.Proofs.YtpcohbpeglledaaGreat
open Go.RowKit Kv
theorem may_r (va : Value) (l : List Want) (alg n mode base loc room : Int) (w : World) (h : WantsAt w va l) (hlen : l.length ≤ 1000) :
    Calls Tryz.prog 33 #[va, .agg #[.int .i64 alg, .int .i64 n, .int .i64 mode, .int .i64 base, .int .i64 loc, .int .i64 room]] w fun e w' => e = .returned (.bool (layM l n mode base loc).isSome) ∧ Ext w w' := by
  have hX := Ext.refl w
  have b1 := Blk.new w (.cells #[.int .i64 alg, .int .i64 n, .int .i64 mode, .int .i64 base, .int .i64 loc, .int .i64 room] 52)
  replace hX := hX.alloc (.cells #[.int .i64 alg, .int .i64 n, .int .i64 mode, .int .i64 base, .int .i64 loc, .int .i64 room] 52)
  have c_b1 := b1.cells
  have hL := lay_r va l n mode base loc _ (h.ext hX) hlen
  obtain ⟨A, c, rfl, _, _, _⟩ := h
  generalize hr : layM l n mode base loc = r at *
  go_enter Tryz.func33, Tryz.ntmps33
  go_wp2_with fail
  cases r with
  | none =>
    refine hL.mono ?_
    rintro e w1 ⟨hx, x, hx0, rfl⟩
    have dx : (x == 0) = false := by rw [beq_eq_false_iff_ne]; exact hx0
    have hf := Lib.hid (hX.trans hx)
    clear hL hx hr hx0
    go_wp2_with fail
    go_ret
    exact ⟨rfl, hf.out⟩
  | some rs =>
    refine hL.mono ?_
    rintro e w1 ⟨hx, v, rfl, hrow⟩
    obtain ⟨A', c', rfl, -⟩ := Recs.of_row hrow
    have hf := Lib.hid (hX.trans hx)
    clear hL hx hr hrow
    go_wp2_with fail
    go_ret
    exact ⟨rfl, hf.out⟩
theorem me_r (alg mode base loc room me : Int) (N : Nat) (w : World) (h1 : 1 ≤ N) (h2 : N ≤ 8) :
    Calls Tryz.prog 36 #[.agg #[.int .i64 alg, .int .i64 N, .int .i64 mode, .int .i64 base, .int .i64 loc, .int .i64 room], .int .i64 me] w fun e w' => e = .returned (.int .i64 (wrapI me ((N : Int) - 1))) ∧ Ext w w' := by
  have hN : ∀ w, Calls Tryz.prog 106 #[.agg #[.int .i64 alg, .int .i64 N, .int .i64 mode, .int .i64 base, .int .i64 loc, .int .i64 room]] w fun e w' => e = .returned (.int .i64 N) ∧ Ext w w' := by
    intro w
    have hn : nM (N : Int) = N := nM_id (by omega) (by omega)
    have hX := Ext.refl w
    have b1 := Blk.new w (.cells #[.int .i64 alg, .int .i64 N, .int .i64 mode, .int .i64 base, .int .i64 loc, .int .i64 room] 52)
    replace hX := hX.alloc (.cells #[.int .i64 alg, .int .i64 N, .int .i64 mode, .int .i64 base, .int .i64 loc, .int .i64 room] 52)
    have c_b1 := b1.cells
    go_enter Tryz.func106, Tryz.ntmps106
    go_wp2_with fail
    refine (rn_any ⟨0, 0, 0, N, 0, 0, 0⟩ _).mono ?_
    rintro e w1 ⟨rfl, hx⟩
    simp only
    rw [hn]
    have hf := Lib.hid (hX.trans hx)
    clear hx hn
    go_wp2_with fail
    go_ret
    exact ⟨rfl, hf.out⟩
  have hs := IntWalk.i64_in ((N : Int) - 1) (by omega)
  have hX := Ext.refl w
  have b1 := Blk.new w (.cells #[.int .i64 alg, .int .i64 N, .int .i64 mode, .int .i64 base, .int .i64 loc, .int .i64 room] 52)
  replace hX := hX.alloc (.cells #[.int .i64 alg, .int .i64 N, .int .i64 mode, .int .i64 base, .int .i64 loc, .int .i64 room] 52)
  have c_b1 := b1.cells
  go_enter Tryz.func36, Tryz.ntmps36
  go_wp2_with fail
  refine (hN _).mono ?_
  rintro e w1 ⟨rfl, hx⟩
  have hf := Lib.hid (hX.trans hx)
  clear hx hN
  go_wp2_with fail
  refine (wrap_r me ((N : Int) - 1) _).mono ?_
  rintro e w' ⟨rfl, rfl⟩
  go_wp2_with fail
  go_ret
  exact ⟨rfl, hf.out⟩
theorem me_at (me : Int) (N : Nat) (h1 : 1 ≤ N) (h2 : N ≤ 8) : ∃ m : Nat, m < N ∧ wrapI me ((N : Int) - 1) = m := by
  have ht := wrapI_bd me ((N : Int) - 1)
  rw [show clamp ((N : Int) - 1) 1099511627776 = (N : Int) - 1 from by unfold clamp within; omega] at ht
  exact ⟨(wrapI me ((N : Int) - 1)).toNat, by omega, by omega⟩
theorem laid_all {l : List Want} {n mode b c : Int} {rs : List Reg} (h : layM l n mode b c = some rs) : ∀ r ∈ rs, r.ok ∧ r.n = n := by
  intro r hr
  obtain ⟨i, hi⟩ := List.getElem?_of_mem hr
  obtain ⟨⟨_, _, n1, n2, _, _⟩, hw, _⟩ := layM_args h
  have hil := (List.getElem?_eq_some_iff.1 hi).1
  rw [layM_len h] at hil
  obtain ⟨r', hr', hL⟩ := layM_at h (List.getElem?_eq_getElem hil)
  obtain rfl : r = r' := by rw [hi] at hr'; simpa using hr'
  obtain ⟨h1, h2, _⟩ := hL.ok ⟨n1, n2⟩ (hw _ (List.getElem_mem hil))
  exact ⟨h1, h2⟩
theorem laid_want {f : Nat → Want} {k : Nat} {n mode b c : Int} {rs : List Reg} (h : layM ((List.range k).map f) n mode b c = some rs) {i : Nat} {r : Reg} (hi : rs[i]? = some r) : Laid n mode (f i) r := by
  have hil := (List.getElem?_eq_some_iff.1 hi).1
  rw [layM_len h, List.length_map, List.length_range] at hil
  obtain ⟨r', hr', hL⟩ := layM_at h (i := i) (q := f i) (by rw [List.getElem?_map, List.getElem?_range hil]; rfl)
  obtain rfl : r = r' := by rw [hi] at hr'; simpa using hr'
  exact hL
/-- Told by accesses, but for its own writer. -/
theorem laid_told {n mode : Int} {q : Want} {r : Reg} (h : Laid n mode q r) (_hm : 1 ≤ mode ∧ mode ≤ 2) (hn : 2 ≤ n) (_hq : -1 ≤ q.wr) {me : Int} (hme : q.wr ≠ me) : r.told me := by
  obtain ⟨⟨b, c, rfl, _, _⟩, _⟩ := h
  by_cases h2 : mode = 2
  · by_cases h3 : 0 ≤ q.wr
    · refine .inr (.inl ⟨?_, fun h => hme h.symm⟩)
      show kindM mode q.wr = 6
      unfold kindM
      rw [if_pos h2, if_pos h3]
    · refine .inr (.inr ⟨?_, hn⟩)
      show kindM mode q.wr = 7
      unfold kindM
      rw [if_pos h2, if_neg h3]
  · refine .inl ?_
    show kindM mode q.wr = 1
    unfold kindM
    rw [if_neg h2]
theorem fil_told {N : Nat} {mode b c : Int} {rs : List Reg} {m : Nat} (h : layM (filWants N) N mode b c = some rs) : ∀ (i : Nat) r, rs[i]? = some r → i ≠ m → 2 ≤ N → r.told m := by
  intro i r hi hm hN
  obtain ⟨⟨h1, h2, _⟩, _⟩ := layM_args h
  refine laid_told (laid_want h hi) ⟨h1, h2⟩ (by omega) ?_ ?_
  · unfold filWant; split <;> simp <;> omega
  · unfold filWant; split <;> simp <;> omega
end Go.Proofs.YtpcohbpeglledaaGreat
/-
  Plain mathematics: which locals reads of registers set; what a thread reads of its own register behind a write of 0.
-/
namespace Kv
theorem sets_manyRs {b l n top me : Int} (hn : 1 ≤ n) (hm : 0 ≤ me) (hm2 : me < n) : ∀ (k : Nat) (j s v : Int), 0 ≤ j → j + k ≤ n → (manyRs b l n top me k j s v).Sets l (l + n * (2 + 18 * ((n - 1) * (n - 1))))
  | 0, j, s, v, _, _ => .ret _
  | k + 1, j, s, v, hj, hk => by
    have hq : 0 ≤ (n - 1) * (n - 1) := Int.mul_nonneg (by omega) (by omega)
    have hX : 0 ≤ 2 + 18 * ((n - 1) * (n - 1)) := by omega
    have e1 : manyL l n j = l + j * (2 + 18 * ((n - 1) * (n - 1))) := by unfold manyL; rw [Int.mul_assoc 18]
    have e2 : 0 ≤ j * (2 + 18 * ((n - 1) * (n - 1))) := Int.mul_nonneg hj hX
    have e3 : (j + 1) * (2 + 18 * ((n - 1) * (n - 1))) ≤ n * (2 + 18 * ((n - 1) * (n - 1))) := Int.mul_le_mul_of_nonneg_right (by omega) hX
    rw [Int.add_mul, Int.one_mul] at e3
    unfold manyRs
    refine ((sets_tableR hj (by omega) hm hm2).mono ?_ ?_).bind fun y => ?_
    · rw [e1]; omega
    · rw [e1]; omega
    · split <;> exact sets_manyRs hn hm hm2 k _ _ _ (by omega) (by omega)
theorem localsM_eq (r : Reg) : localsM r = if r.kind = 1 then 0 else if r.kind = 6 then 2 + 18 * ((r.n - 1) * (r.n - 1)) else r.n * (2 + 18 * ((r.n - 1) * (r.n - 1))) := by
  unfold localsM
  rw [Int.mul_assoc 18]
theorem sets_regR {r : Reg} (h : r.ok) {me : Int} (hm : 0 ≤ me) (hm2 : me < r.n) : (regR r me).Sets r.loc (r.loc + localsM r) := by
  rw [localsM_eq]
  unfold regR
  split
  · exact sets_rd _ _ _
  · split
    · rename_i h6
      exact sets_tableR (h.wr h6).1 (h.wr h6).2 hm hm2
    · unfold manyR
      exact (sets_manyRs h.n.1 hm hm2 _ _ _ _ (by omega) (by have := h.n.1; omega)).bind fun p => .ret _
theorem sets_zeroP {r : Reg} (h : r.ok) {me : Int} (hm : 0 ≤ me) (hm2 : me < r.n) : ∀ n : Nat, (zeroP r me n).Sets r.loc (r.loc + localsM r)
  | 0 => .ret _
  | n + 1 => (sets_regR h hm hm2).bind fun x => by
    split
    · exact .ret _
    · exact sets_zeroP h hm hm2 n
theorem Prog.bind_some {α β : Type} {p : Prog α} {f : α → Prog β} {S S' : TS} {b : β} (h : (p.bind f).run S = (some b, S')) : ∃ a S1, p.run S = (some a, S1) ∧ (f a).run S1 = (some b, S') := by
  rw [Prog.run_bind] at h
  rcases hr : p.run S with ⟨o, S1⟩
  rw [hr] at h
  cases o with
  | none => simp [thenR] at h
  | some a => exact ⟨a, S1, rfl, h⟩
theorem layFrom_from {n mode : Int} (hn : 1 ≤ n ∧ n ≤ 8) : ∀ (l : List Want) (b c : Int) (rs : List Reg), layFrom n mode l b c = some rs → ∀ (i : Nat) r, rs[i]? = some r → c ≤ r.loc
  | [], b, c, rs, h, i, r, hi => by
    obtain rfl : [] = rs := by simpa [layFrom] using h
    simp at hi
  | q :: l, b, c, rs, h, i, r, hi => by
    unfold layFrom at h
    split at h
    · have hz := cells_nat (regOf n mode b c q) hn
      cases hr : layFrom n mode l (b + cellsM (regOf n mode b c q)) (c + localsM (regOf n mode b c q)) with
      | none => rw [hr] at h; cases h
      | some rs' =>
        rw [hr] at h
        obtain rfl : regOf n mode b c q :: rs' = rs := by simpa using h
        cases i with
        | zero =>
          obtain rfl : regOf n mode b c q = r := by simpa using hi
          exact Int.le_refl _
        | succ i =>
          have := layFrom_from hn l _ _ rs' hr i r (by simpa using hi)
          omega
    · cases h
/-- Registers laid in a row have locals of their own. -/
theorem layFrom_apart {n mode : Int} (hn : 1 ≤ n ∧ n ≤ 8) : ∀ (l : List Want) (b c : Int) (rs : List Reg), layFrom n mode l b c = some rs → ∀ (i j : Nat) r s, i < j → rs[i]? = some r → rs[j]? = some s → r.loc + localsM r ≤ s.loc
  | [], b, c, rs, h, i, j, r, s, _, hi, _ => by
    obtain rfl : [] = rs := by simpa [layFrom] using h
    simp at hi
  | q :: l, b, c, rs, h, i, j, r, s, hij, hi, hj => by
    unfold layFrom at h
    split at h
    · cases hr : layFrom n mode l (b + cellsM (regOf n mode b c q)) (c + localsM (regOf n mode b c q)) with
      | none => rw [hr] at h; cases h
      | some rs' =>
        rw [hr] at h
        obtain rfl : regOf n mode b c q :: rs' = rs := by simpa using h
        cases j with
        | zero => omega
        | succ j =>
          have hj' : rs'[j]? = some s := by simpa using hj
          cases i with
          | zero =>
            obtain rfl : regOf n mode b c q = r := by simpa using hi
            exact layFrom_from hn l _ _ rs' hr j s hj'
          | succ i => exact layFrom_apart hn l _ _ rs' hr i j r s (by omega) (by simpa using hi) hj'
    · cases h
theorem layM_apart {l : List Want} {n mode b c : Int} {rs : List Reg} (h : layM l n mode b c = some rs) {i j : Nat} {r s : Reg} (hij : i < j) (hi : rs[i]? = some r) (hj : rs[j]? = some s) : r.loc + localsM r ≤ s.loc := by
  obtain ⟨⟨_, _, n1, n2, _, _⟩, _, hf⟩ := layM_args h
  exact layFrom_apart ⟨n1, n2⟩ l b c rs hf i j r s hij hi hj
theorem TS.got_upd {S : TS} {i v : Int} (h1 : 0 ≤ i) (h2 : i < 32768) : (S.upd i v).got i = v := by
  unfold TS.upd
  rw [if_pos ⟨h1, h2⟩]
  unfold TS.got
  rw [if_neg (by omega)]
  simp
/-- What a thread's own register of a fast lock tells it: 0. -/
def ownZ (r : Reg) (S : TS) : Prop := r.kind = 6 → S.got (r.loc + 1) = 0
theorem ownZ_wrote {r : Reg} {m : Int} (h0 : 0 ≤ r.loc) (hf : r.loc + localsM r ≤ 32768) (hn : 1 ≤ r.n) (hw : r.kind = 6 → r.wr = m) {S S' : TS} (h : (regW r m 0).run S = (some (), S')) : ownZ r S' := by
  intro h6
  rw [localsM_eq, if_neg (by omega), if_pos h6] at hf
  have hq : 0 ≤ (r.n - 1) * (r.n - 1) := Int.mul_nonneg (by omega) (by omega)
  unfold regW at h
  rw [if_neg (by omega), if_pos h6] at h
  unfold tableW at h
  rw [if_neg (by rw [hw h6]; simp)] at h
  obtain ⟨a1, S1, -, h⟩ := Prog.bind_some h
  obtain ⟨a2, S2, -, h⟩ := Prog.bind_some h
  obtain ⟨a3, S3, -, h⟩ := Prog.bind_some h
  have e : S3.upd (r.loc + 1) (clamp 0 (clamp r.top 1048576)) = S' := by
    have := h
    simp only [st, Prog.run, Prod.mk.injEq, true_and] at this
    exact this
  have hc : clamp 0 (clamp r.top 1048576) = 0 := by unfold clamp within; omega
  rw [← e, hc]
  exact TS.got_upd (by omega) (by omega)
theorem ownZ_kept {r s : Reg} {m : Int} (_h0 : 0 ≤ r.loc) (hn : 1 ≤ r.n) (hs : s.ok) (hm : 0 ≤ m) (hm2 : m < s.n) (ha : r.loc + localsM r ≤ s.loc ∨ s.loc + localsM s ≤ r.loc) {D : Nat} {S S' : TS} (h : (zeroP s m D).run S = (some (), S')) (hz : ownZ r S) : ownZ r S' := by
  intro h6
  have hq : 0 ≤ (r.n - 1) * (r.n - 1) := Int.mul_nonneg (by omega) (by omega)
  rw [localsM_eq r, if_neg (by omega), if_pos h6] at ha
  have e := (sets_zeroP hs hm hm2 D).got (i := r.loc + 1) (by omega) S
  rw [h] at e
  rw [← hz h6]
  exact e
theorem zeroP_own {r : Reg} {m : Int} (hk : r.kind = 6) (hw : r.wr = m) : ∀ (D : Nat) (S S' : TS), (zeroP r m D).run S = (some (), S') → S = S'
  | 0, S, S', h => by
    have := h
    simp only [zeroP, Prog.run, Prod.mk.injEq, true_and] at this
    exact this
  | D + 1, S, S', h => by
    rw [show zeroP r m (D + 1) = (regR r m).bind fun x => if x = 0 then .ret () else zeroP r m D from rfl] at h
    have e : regR r m = gt (r.loc + 1) := by
      unfold regR tableR
      rw [if_neg (by omega), if_pos hk, if_pos hw.symm]
    rw [e] at h
    have h : (if S.got (r.loc + 1) = 0 then Prog.ret () else zeroP r m D).run S = (some (), S') := h
    split at h
    · simp only [Prog.run, Prod.mk.injEq, true_and] at h
      exact h
    · exact zeroP_own hk hw D S S' h
theorem ownZ_read {r : Reg} {m : Int} (hk : r.kind = 6) (hw : r.wr = m) {S : TS} (hz : ownZ r S) : (regR r m).run S = (some 0, S) := by
  unfold regR tableR
  rw [if_neg (by omega), if_pos hk, if_pos hw.symm]
  show (some (S.got (r.loc + 1)), S) = _
  rw [hz hk]
end Kv
namespace Go.Proofs.YtpcohbpeglledaaGreat
open Kv
theorem fast_told {N : Nat} {mode b c : Int} {rs : List Reg} {m : Nat} (h : layM (fastWants N) N mode b c = some rs) (hN : ¬(N = 1 ∧ mode = 2)) : ∀ (i : Nat) r, rs[i]? = some r → i ≠ 2 + m → r.told m := by
  intro i r hi hm
  obtain ⟨⟨h1, h2, n1, _⟩, _⟩ := layM_args h
  have hL := laid_want h hi
  by_cases hm2 : mode = 2
  · refine laid_told hL ⟨h1, h2⟩ (by omega) ?_ ?_
    · unfold fastWant; split <;> simp <;> omega
    · unfold fastWant; split <;> simp <;> omega
  · obtain ⟨⟨b, c, rfl, _, _⟩, _⟩ := hL
    refine .inl ?_
    show kindM mode _ = 1
    unfold kindM
    rw [if_neg hm2]
/-- The own register of a fast lock: told by accesses, or by a local. -/
theorem fast_own {N : Nat} {mode b c : Int} {rs : List Reg} {m : Nat} {rm : Reg} (h : layM (fastWants N) N mode b c = some rs) (hr : rs[2 + m]? = some rm) : rm.kind = 1 ∨ rm.kind = 6 ∧ rm.wr = m := by
  obtain ⟨⟨h1, h2, n1, _⟩, _⟩ := layM_args h
  obtain ⟨⟨b, c, rfl, _, _⟩, _⟩ := laid_want h hr
  have e : (fastWant N (2 + m)).wr = m := by unfold fastWant; rw [if_neg (by omega)]; simp; omega
  show kindM mode _ = 1 ∨ kindM mode _ = 6 ∧ _ = _
  unfold kindM
  split
  · rw [e, if_pos (by omega)]
    exact .inr ⟨rfl, e⟩
  · exact .inl rfl
theorem laid_fine {l : List Want} {n mode b c : Int} {rs : List Reg} (h : layM l n mode b c = some rs) : ∀ r ∈ rs, fineM r = true := by
  intro r hr
  obtain ⟨i, hi⟩ := List.getElem?_of_mem hr
  have hil := (List.getElem?_eq_some_iff.1 hi).1
  rw [layM_len h] at hil
  obtain ⟨r', hr', hL⟩ := layM_at h (List.getElem?_eq_getElem hil)
  obtain rfl : r = r' := by rw [hi] at hr'; simpa using hr'
  exact hL.fine
theorem fast_hz {N : Nat} {mode b c : Int} {rs : List Reg} {m D : Nat} (h : layM (fastWants N) N mode b c = some rs) (hm : m < N) :
    ∃ Z : TS → Prop, (∀ rm, rs[2 + m]? = some rm → ∀ S S', (regW rm m 0).run S = (some (), S') → Z S') ∧
      (∀ (j : Nat) r, rs[j]? = some r → ∀ S S', (zeroP r m D).run S = (some (), S') → Z S → Z S') ∧
      (∀ rm, rs[2 + m]? = some rm → ∀ S, Z S → rm.told m ∨ (regR rm m).run S = (some 0, S)) := by
  have hlen := layM_len h
  rw [fastWants_len] at hlen
  obtain ⟨rm, hrm⟩ : ∃ r, rs[2 + m]? = some r := ⟨_, List.getElem?_eq_getElem (by omega)⟩
  obtain ⟨okm, nm⟩ := laid_all h rm (List.mem_of_getElem? hrm)
  have hown := fast_own h hrm
  refine ⟨ownZ rm, ?_, ?_, ?_⟩
  · intro r hr S S' hS
    obtain rfl : rm = r := by rw [hrm] at hr; simpa using hr
    refine ownZ_wrote okm.loc.1 ?_ (by have := okm.n; omega) (fun h6 => ?_) hS
    · have := laid_fine h rm (List.mem_of_getElem? hrm)
      unfold fineM at this
      simp only [Bool.and_eq_true, decide_eq_true_eq] at this
      exact this.2
    · rcases hown with h1 | h1
      · omega
      · exact h1.2
  · intro j r hr S S' hS hz
    obtain ⟨okr, nr⟩ := laid_all h r (List.mem_of_getElem? hr)
    by_cases hj : j = 2 + m
    · subst hj
      obtain rfl : rm = r := by rw [hrm] at hr; simpa using hr
      rcases hown with h1 | h1
      · intro h6; omega
      · rw [← zeroP_own h1.1 h1.2 D S S' hS]; exact hz
    · refine ownZ_kept okm.loc.1 (by have := okm.n; omega) okr (by omega) (by rw [nr]; omega) ?_ hS hz
      by_cases hlt : j < 2 + m
      · exact .inr (layM_apart h hlt hr hrm)
      · exact .inl (layM_apart h (by omega) hrm hr)
  · intro r hr S hz
    obtain rfl : rm = r := by rw [hrm] at hr; simpa using hr
    rcases hown with h1 | h1
    · exact .inl (.inl h1)
    · exact .inr (ownZ_read h1.1 h1.2 hz)
end Go.Proofs.YtpcohbpeglledaaGreat
/-
  The cells and locals of a row of registers added up, both sides.
-/
namespace Kv
def sumC (l : List Reg) : Int := (l.map cellsM).sum
def sumL (l : List Reg) : Int := (l.map localsM).sum
theorem sumC_next {l : List Reg} {j : Nat} {r : Reg} (h : l[j]? = some r) : sumC (l.take (j + 1)) = sumC (l.take j) + cellsM r := by
  unfold sumC
  rw [List.take_add_one, h]
  simp [List.sum_append]
theorem sumL_next {l : List Reg} {j : Nat} {r : Reg} (h : l[j]? = some r) : sumL (l.take (j + 1)) = sumL (l.take j) + localsM r := by
  unfold sumL
  rw [List.take_add_one, h]
  simp [List.sum_append]
theorem sum_bd {l : List Reg} (h : ∀ r ∈ l, r.ok) : ∀ j : Nat, j ≤ l.length → (0 ≤ sumC (l.take j) ∧ sumC (l.take j) ≤ 6272 * j) ∧ (0 ≤ sumL (l.take j) ∧ sumL (l.take j) ≤ 7072 * j)
  | 0, _ => by simp [sumC, sumL]
  | j + 1, hj => by
    obtain ⟨r, hr⟩ : ∃ r, l[j]? = some r := ⟨_, List.getElem?_eq_getElem (by omega)⟩
    have h1 := sum_bd h j (by omega)
    have h2 := cells_nat r (h r (List.mem_of_getElem? hr)).n
    rw [sumC_next hr, sumL_next hr]
    omega
end Kv
namespace Go.Proofs.YtpcohbpeglledaaGreat
open Go.RowKit Kv
set_option maxRecDepth 100000 in
set_option maxHeartbeats 1000000 in
theorem size_p (b c : Nat) (rs : List Reg) (w : World) (hb : b < w.heap.size) (hc : ∀ (i : Nat) u, (rs.flatMap regVals)[i]? = some u → w.cell? ⟨b, i, none⟩ = some u) (hok : ∀ r ∈ rs, r.ok) (hl : rs.length ≤ 100) :
    Calls Tryz.prog 176 #[.slice (some ⟨b, 0, none⟩) rs.length c] w fun e w' => e = .returned (.tuple #[.int .i64 (sumC rs), .int .i64 (sumL rs)]) ∧ Ext w w' := by
  have hokh := Lib.hid hok
  have hbd := Lib.hid (sum_bd hok)
  have hch := Lib.hid hc
  clear hok hc
  go_enter Tryz.func176, Tryz.ntmps176
  go_wp2_with fail
  go_loopw [4, 5, 10] (fun u v i wr => ∃ j : Nat, i = .int .i64 j ∧ j ≤ rs.length ∧ u = .int .i64 (sumC (rs.take j)) ∧ v = .int .i64 (sumL (rs.take j)) ∧ Ext w wr) (fun _ _ i _ => rs.length - (intOf i).toNat)
  case atStart => exact ⟨0, rfl, by omega, rfl, rfl, Ext.refl w⟩
  case round =>
    obtain ⟨j, rfl, hj, rfl, rfl, hX⟩ := hrel
    by_cases hlt : j < rs.length
    · have dl : decide ((j : Int) < (rs.length : Int)) = true := by rw [decide_eq_true_eq]; omega
      obtain ⟨r, hr⟩ : ∃ r, rs[j]? = some r := ⟨_, List.getElem?_eq_getElem hlt⟩
      have hrk := hokh.out r (List.mem_of_getElem? hr)
      have h1 := hbd.out j (by omega)
      have h2 := cells_nat r hrk.n
      have n1 := sumC_next hr
      have n2 := sumL_next hr
      obtain ⟨a0, a1, a2, a3, a4, a5, a6⟩ := reg_cells (w := wr) (b := b) (fun i u hu => (hX.cell (p := ⟨b, i, none⟩) hb).trans (hch.out i u hu)) hr
      have hC := fun w => cells_all r w hrk.kind hrk.n
      have hL := fun w => locals_p r w hrk.kind hrk.n
      unfold encR at hC hL
      have w1 : IntKind.i64.wrap (sumC (rs.take j) + cellsM r) = sumC (rs.take (j + 1)) := by rw [IntWalk.i64_in _ (by omega), n1]
      have w2 : IntKind.i64.wrap (sumL (rs.take j) + localsM r) = sumL (rs.take (j + 1)) := by rw [IntWalk.i64_in _ (by omega), n2]
      have c_n := fun i => cell_of_heap (heap_alloc_new wr (.cells #[.int .i64 r.kind, .int .i64 r.base, .int .i64 r.loc, .int .i64 r.n, .int .i64 r.wr, .int .i64 r.rd, .int .i64 r.top] 77)) i
      have hX1 := hX.alloc (.cells #[.int .i64 r.kind, .int .i64 r.base, .int .i64 r.loc, .int .i64 r.n, .int .i64 r.wr, .int .i64 r.rd, .int .i64 r.top] 77)
      have g1 := Blk.new wr (.cells #[.int .i64 r.kind, .int .i64 r.base, .int .i64 r.loc, .int .i64 r.n, .int .i64 r.wr, .int .i64 r.rd, .int .i64 r.top] 77)
      clear hr h1 h2 n1 n2
      go_wp2_with fail
      refine (hC _).mono ?_
      rintro e w2 ⟨rfl, hx2⟩
      clear c_n
      have g2 := g1.ext hx2
      have c_g := g2.cells
      replace hX1 := hX1.trans hx2
      clear hx2 a0 a1 a2 a3 a4 a5 a6 g1
      go_wp2_with fail
      refine (hL _).mono ?_
      rintro e w3 ⟨rfl, hx3⟩
      replace hX1 := hX1.trans hx3
      clear hx3 c_g g2
      go_wp2_with fail
      refine ⟨⟨j + 1, by go_num, by omega, rfl, rfl, hX1⟩, ?_⟩
      simp [intOf]; omega
    · obtain rfl : j = rs.length := by omega
      have dl : decide ((rs.length : Int) < (rs.length : Int)) = false := by rw [decide_eq_false_iff_not]; omega
      rw [List.take_length]
      go_wp2_with fail
      first | go_ret2 | go_ret
      exact ⟨rfl, hX⟩
set_option maxRecDepth 100000 in
set_option maxHeartbeats 1000000 in
theorem size_r (b c : Nat) (rs : List Reg) (w : World) (hb : b < w.heap.size) (hc : ∀ (i : Nat) u, (rs.flatMap regVals)[i]? = some u → w.cell? ⟨b, i, none⟩ = some u) (hok : ∀ r ∈ rs, r.ok) (hl : rs.length ≤ 100) :
    Calls Tryz.prog 177 #[.slice (some ⟨b, 0, none⟩) rs.length c] w fun e w' => e = .returned (.tuple #[.int .i64 (sumC rs), .int .i64 (sumL rs)]) ∧ Ext w w' := by
  have hokh := Lib.hid hok
  have hbd := Lib.hid (sum_bd hok)
  have hch := Lib.hid hc
  clear hok hc
  go_enter Tryz.func177, Tryz.ntmps177
  go_wp2_with fail
  go_loopw [4, 5, 6] (fun u v i wr => ∃ j : Nat, i = .int .i64 j ∧ j ≤ rs.length ∧ u = .int .i64 (sumC (rs.take j)) ∧ v = .int .i64 (sumL (rs.take j)) ∧ Ext w wr) (fun _ _ i _ => rs.length - (intOf i).toNat)
  case atStart => exact ⟨0, rfl, by omega, rfl, rfl, Ext.refl w⟩
  case round =>
    obtain ⟨j, rfl, hj, rfl, rfl, hX⟩ := hrel
    by_cases hlt : j < rs.length
    · have dl : decide ((j : Int) < (rs.length : Int)) = true := by rw [decide_eq_true_eq]; omega
      obtain ⟨r, hr⟩ : ∃ r, rs[j]? = some r := ⟨_, List.getElem?_eq_getElem hlt⟩
      have hrk := hokh.out r (List.mem_of_getElem? hr)
      have h1 := hbd.out j (by omega)
      have h2 := cells_nat r hrk.n
      have n1 := sumC_next hr
      have n2 := sumL_next hr
      obtain ⟨a0, a1, a2, a3, a4, a5, a6⟩ := reg_cells (w := wr) (b := b) (fun i u hu => (hX.cell (p := ⟨b, i, none⟩) hb).trans (hch.out i u hu)) hr
      have hC := fun w => cells_r r w hrk.kind hrk.n
      have hL := fun w => locals_r r w hrk.kind hrk.n
      unfold encR at hC hL
      have w1 : IntKind.i64.wrap (sumC (rs.take j) + cellsM r) = sumC (rs.take (j + 1)) := by rw [IntWalk.i64_in _ (by omega), n1]
      have w2 : IntKind.i64.wrap (sumL (rs.take j) + localsM r) = sumL (rs.take (j + 1)) := by rw [IntWalk.i64_in _ (by omega), n2]
      have hX1 := hX
      clear h1 h2 n1 n2
      go_wp2_with fail
      refine (hC _).mono ?_
      rintro e w2 ⟨rfl, hx2⟩
      replace hX1 := hX1.trans hx2
      clear hx2 a0 a1 a2 a3 a4 a5 a6
      obtain ⟨a0, a1, a2, a3, a4, a5, a6⟩ := reg_cells (w := w2) (b := b) (fun i u hu => (hX1.cell (p := ⟨b, i, none⟩) hb).trans (hch.out i u hu)) hr
      go_wp2_with fail
      refine (hL _).mono ?_
      rintro e w3 ⟨rfl, hx3⟩
      replace hX1 := hX1.trans hx3
      clear hx3 a0 a1 a2 a3 a4 a5 a6
      go_wp2_with fail
      refine ⟨⟨j + 1, by go_num, by omega, rfl, rfl, hX1⟩, ?_⟩
      simp [intOf]; omega
    · obtain rfl : j = rs.length := by omega
      have dl : decide ((rs.length : Int) < (rs.length : Int)) = false := by rw [decide_eq_false_iff_not]; omega
      rw [List.take_length]
      go_wp2_with fail
      first | go_ret2 | go_ret
      exact ⟨rfl, hX⟩
end Go.Proofs.YtpcohbpeglledaaGreat
/-
  The black-white bakery's registers, by the document.
-/
namespace Go.Proofs.YtpcohbpeglledaaGreat
open Go.RowKit Kv
set_option maxRecDepth 100000 in
theorem bwregs_r (alg mode base loc room : Int) (N : Nat) (rs : List Reg) (w : World) (h1 : 1 ≤ N) (h2 : N ≤ 8) (hl : layM (bwWants N) N mode base loc = some rs) (hlc : 0 ≤ loc ∧ loc ≤ 32768) :
    Calls Tryz.prog 125 #[.agg #[.int .i64 alg, .int .i64 N, .int .i64 mode, .int .i64 base, .int .i64 loc, .int .i64 room]] w fun e w' => ∃ b c, e = .returned (.tuple #[.slice (some ⟨b, 0, none⟩) rs.length c, .int .i64 (loc + sumL rs)]) ∧ w.heap.size ≤ b ∧ b < w'.heap.size ∧ (∀ (i : Nat) u, (rs.flatMap regVals)[i]? = some u → w'.cell? ⟨b, i, none⟩ = some u) ∧ rs.length ≤ c ∧ c ≤ 9223372036854775807 ∧ Ext w w' := by
  have hlen := layM_len hl
  rw [bwWants_len] at hlen
  have hok : ∀ r ∈ rs, r.ok := fun r hr => (laid_all hl r hr).1
  have hbd := sum_bd hok rs.length (Nat.le_refl _)
  rw [List.take_length] at hbd
  have hw := IntWalk.i64_in (loc + sumL rs) (by omega)
  replace hl := Lib.hid hl
  have hlenh := Lib.hid hlen
  have hokh := Lib.hid hok
  clear hlen hok hbd
  have hX := Ext.refl w
  have b1 := Blk.new w (.cells #[.int .i64 alg, .int .i64 N, .int .i64 mode, .int .i64 base, .int .i64 loc, .int .i64 room] 52)
  replace hX := hX.alloc (.cells #[.int .i64 alg, .int .i64 N, .int .i64 mode, .int .i64 base, .int .i64 loc, .int .i64 room] 52)
  have c_b1 := b1.cells
  go_enter Tryz.func125, Tryz.ntmps125
  go_wp2_with fail
  generalize w.alloc _ = W at *
  have hXW := hX
  clear hX c_b1
  have hX := (Ext.refl W).drew
  have hS : ∀ w', Ext W w' → (∀ i, w'.cell? ⟨w.heap.size, i, none⟩ = (#[.int .i64 alg, .int .i64 N, .int .i64 mode, .int .i64 base, .int .i64 loc, .int .i64 room] : Array Value)[i]?) := fun w' hx => (b1.ext hx).cells
  go_region_held2 (fun w' => ∀ i, w'.cell? ⟨w.heap.size, i, none⟩ = (#[.int .i64 alg, .int .i64 N, .int .i64 mode, .int .i64 base, .int .i64 loc, .int .i64 room] : Array Value)[i]?) (exact hS _ hX)
    (first
      | (go_at_call 54
         refine (bwwants_r N _ h1 h2).mono ?_
         rintro e w2 ⟨v2, rfl, hw2, hx⟩
         replace hX := hX.trans hx
         have hz2 := hX.size
         clear hx)
      | (go_at_call 82
         refine (layr_some hl.out _ (hw2.ext (Ext.refl _)) (by rw [bwWants_len]; omega)).mono ?_
         rintro e w3 ⟨v3, rfl, hr3, hx⟩
         replace hX := hX.trans hx
         clear hx))
  rename_i hh
  clear hh
  obtain ⟨⟨A, c, rfl, q1, q2, hV⟩, hown⟩ := hr3
  obtain ⟨b, rfl, hb, hcells⟩ := hV (by cases rs with | nil => have := hlenh.out; simp only [List.length_nil] at this; omega | cons r l => simp [regVals])
  have hge : w.heap.size ≤ b := Nat.le_trans (Nat.le_trans hXW.size hz2) (hown b rfl)
  have hch := Lib.hid hcells
  clear hcells hV hown hz2
  go_wp2_with fail
  refine (size_r b c rs w3 hb hch.out hokh.out (by have := hlenh.out; omega)).mono ?_
  rintro e w4 ⟨rfl, hx4⟩
  have hcells4 : ∀ (i : Nat) u, (rs.flatMap regVals)[i]? = some u → w4.cell? ⟨b, i, none⟩ = some u := fun i u hu => (hx4.cell (p := ⟨b, i, none⟩) hb).trans (hch.out i u hu)
  have hfh := Lib.hid (And.intro (Nat.lt_of_lt_of_le hb hx4.size) (And.intro hcells4 (hXW.trans (hX.trans hx4))))
  have hS4 := fun (w' : World) (hx : Ext w4 w') => ((b1.ext (hX.trans hx4)).ext hx).cells
  clear hcells4 hch hb hx4 hX
  go_wp2_with fail
  have hE := (Ext.refl w4).drew
  go_region_held2 (fun w' => ∀ i, w'.cell? ⟨w.heap.size, i, none⟩ = (#[.int .i64 alg, .int .i64 N, .int .i64 mode, .int .i64 base, .int .i64 loc, .int .i64 room] : Array Value)[i]?) (exact hS4 _ hE) (fail)
  rename_i hh
  clear hh
  have hff := Lib.hid (And.intro (Nat.lt_of_lt_of_le hfh.out.1 hE.size) (And.intro (fun (i : Nat) u hu => (hE.cell (p := ⟨b, i, none⟩) hfh.out.1).trans (hfh.out.2.1 i u hu)) (hfh.out.2.2.trans hE)))
  clear hS4 hE
  go_wp2_with fail
  first | go_ret2 | go_ret
  exact ⟨_, _, rfl, hge, hff.out.1, hff.out.2.1, q1, q2, hff.out.2.2⟩
end Go.Proofs.YtpcohbpeglledaaGreat
/-
  Contracts of the library at this dump, as the shelf lays them.
-/
namespace Go.Proofs
open Go.Shelf
def Tryz.lays129_ren : Go.Shelf.Ren := ⟨fun | 129 => 178 | n => n, fun | 53 => 132 | 3 => 3 | 4 => 4 | 46 => 154 | 5 => 5 | 9 => 9 | n => n, fun | n => n⟩
theorem Tryz.lays129 : Go.Proofs.Lays.n129 Tryz.prog Tryz.lays129_ren := {
  mixed := by kernel_rfl
  f129 := Tryz.func178.trans (congrArg some (by kernel_rfl))
  t3 := Tryz.underlying3
  a3 := Tryz.isAgg3
  z3 := Tryz.sizeOf3
  v3 := Tryz.zeroValue3
  t4 := Tryz.underlying4
  a4 := Tryz.isAgg4
  z4 := Tryz.sizeOf4
  v4 := Tryz.zeroValue4
  t5 := Tryz.underlying5
  a5 := Tryz.isAgg5
  z5 := Tryz.sizeOf5
  v5 := Tryz.zeroValue5
  t9 := Tryz.underlying9
  a9 := Tryz.isAgg9
  z9 := Tryz.sizeOf9
  v9 := Tryz.zeroValue9
  t46 := Tryz.underlying154
  a46 := Tryz.isAgg154
  z46 := Tryz.sizeOf154
  v46 := Tryz.zeroValue154
  t53 := Tryz.underlying132
  a53 := Tryz.isAgg132
  z53 := Tryz.sizeOf132
  v53 := Tryz.zeroValue132 }
theorem Tryz.bits_Len64 (x : Int) (w : World) (h0 : 0 ≤ x) (h1 : x ≤ 18446744073709551615) :
    Calls Tryz.prog 178 #[.int .u64 x] w fun e w' => e = .returned (.int .i64 (Lib.bitLen x.toNat)) ∧ w' = w := Any.bits_Len64 Tryz.lays129 x w h0 h1
def Tryz.lays112_ren : Go.Shelf.Ren := ⟨fun | 112 => 138 | n => n, fun | 28 => 22 | 3 => 3 | 4 => 4 | 0 => 0 | n => n, fun | n => n⟩
theorem Tryz.lays112 : Go.Proofs.Lays.n112 Tryz.prog Tryz.lays112_ren := {
  mixed := by kernel_rfl
  f112 := Tryz.func138.trans (congrArg some (by kernel_rfl))
  t0 := Tryz.underlying0
  a0 := Tryz.isAgg0
  z0 := Tryz.sizeOf0
  v0 := Tryz.zeroValue0
  t3 := Tryz.underlying3
  a3 := Tryz.isAgg3
  z3 := Tryz.sizeOf3
  v3 := Tryz.zeroValue3
  t4 := Tryz.underlying4
  a4 := Tryz.isAgg4
  z4 := Tryz.sizeOf4
  v4 := Tryz.zeroValue4
  t28 := Tryz.underlying22
  a28 := Tryz.isAgg22
  z28 := Tryz.sizeOf22
  v28 := Tryz.zeroValue22 }
open Go.RowKit Go.Lib Go.Sort in
theorem Tryz.slices_Reverse_int_arr (blk off cap : Nat) (d : Array Int) (w : World) (hH : Holds encI w blk off d) (hsz : d.size ≤ 9223372036854775807) :
    Calls Tryz.prog 138 #[.slice (some ⟨blk, off, none⟩) d.size cap] w fun e w' => e = .returned (.tuple #[]) ∧ ∃ n, w' = putRow encI (Sort.ahead w n) blk off d.reverse := Any.slices_Reverse_int_arr Tryz.lays112 blk off cap d w hH hsz
open Go.RowKit Go.Lib Go.Sort in
theorem Tryz.slices_Reverse_int (blk off cap : Nat) (zs : List Int) (w : World) (hH : Holds (Value.int .i64) w blk off zs.toArray) (hsz : zs.length ≤ 9223372036854775807) :
    Calls Tryz.prog 138 #[.slice (some ⟨blk, off, none⟩) zs.length cap] w fun e w' => e = .returned (.tuple #[]) ∧ ∃ n, w' = putRow (Value.int .i64) (Sort.ahead w n) blk off zs.reverse.toArray := Any.slices_Reverse_int Tryz.lays112 blk off cap zs w hH hsz
open Go.RowKit Go.Lib Go.Sort in
theorem Tryz.slices_Reverse_int_empty (a : Option Addr) (cap : Nat) (w : World) :
    Calls Tryz.prog 138 #[.slice a 0 cap] w fun e w' => e = .returned (.tuple #[]) ∧ w' = w := Any.slices_Reverse_int_empty Tryz.lays112 a cap w
def Tryz.laysNm215_ren : Go.Shelf.Ren := ⟨fun | 15 => 86 | n => n, fun | 22 => 22 | 3 => 3 | 4 => 4 | n => n, fun | n => n⟩
theorem Tryz.laysNm215 : Go.Proofs.Lays2.n15 Tryz.prog Tryz.laysNm215_ren := {
  mixed := by kernel_rfl
  f15 := Tryz.func86.trans (congrArg some (by kernel_rfl))
  t3 := Tryz.underlying3
  a3 := Tryz.isAgg3
  z3 := Tryz.sizeOf3
  v3 := Tryz.zeroValue3
  t4 := Tryz.underlying4
  a4 := Tryz.isAgg4
  z4 := Tryz.sizeOf4
  v4 := Tryz.zeroValue4
  t22 := Tryz.underlying22
  a22 := Tryz.isAgg22
  z22 := Tryz.sizeOf22
  v22 := Tryz.zeroValue22
  i3 := by kernel_rfl }
open Go.RowKit Go.Lib in
theorem Tryz.slices_Clone_int (b off n c : Nat) (zs : List Int) (w : World) (hz : n ≤ zs.length) (hbig : n * 8 ≤ 140737488355328) (hc : ∀ j, j < zs.length → w.cell? ⟨b, off + j, none⟩ = some (.int .i64 (zs.getD j 0))) :
    Calls Tryz.prog 86 #[.slice (some ⟨b, off, none⟩) n c] w fun e w' => ∃ v', e = .returned v' ∧ w'.ownsRow w.heap.size 3 1 v' n ((zs.take n).map (Value.int .i64)) ∧ v' ≠ .slice none 0 0 ∧ Below w.heap.size w w' := Any.slices_Clone_int Tryz.laysNm215 b off n c zs w hz hbig hc
open Go.RowKit Go.Lib in
theorem Tryz.slices_Clone_int_nil (n c : Nat) (w : World) :
    Calls Tryz.prog 86 #[.slice none n c] w fun e w' => e = .returned (.slice none 0 0) ∧ w' = w := Any.slices_Clone_int_nil Tryz.laysNm215 n c w
open Go.RowKit Go.Lib in
theorem Tryz.slices_Clone_int_zero (a : Addr) (c : Nat) (w : World) :
    Calls Tryz.prog 86 #[.slice (some a) 0 c] w fun e w' => ∃ v', e = .returned v' ∧ w'.ownsRow w.heap.size 3 1 v' 0 [] ∧ v' ≠ .slice none 0 0 ∧ Below w.heap.size w w' := Any.slices_Clone_int_zero Tryz.laysNm215 a c w
open Go.RowKit Go.Lib Go.Sort in
theorem Tryz.slices_Reverse_int_cells (b off n c : Nat) (zs : List Int) (w : World) (hz : n ≤ zs.length) (hbig : n ≤ 9223372036854775807) (hc : ∀ j, j < zs.length → w.cell? ⟨b, off + j, none⟩ = some (.int .i64 (zs.getD j 0))) (hf : ∀ j, j < n → w.frozen? ⟨b, off + j, none⟩ = false) :
    Calls Tryz.prog 138 #[.slice (some ⟨b, off, none⟩) n c] w fun e w' => e = .returned (.tuple #[]) ∧ ∃ q, w' = (w.drewN q).setCells b off ((zs.take n).reverse.map (Value.int .i64)) := Any.slices_Reverse_int_cells Tryz.lays112 b off n c zs w hz hbig hc hf
def Tryz.laysSlE041_f86_ren : Go.Shelf.Ren := ⟨fun | 41 => 86 | n => n, fun | 22 => 22 | 23 => 3 | 4 => 4 | n => n, fun | n => n⟩
theorem Tryz.laysSlE041_f86 : Go.Proofs.SlLaysE0.n41 Tryz.prog Tryz.laysSlE041_f86_ren := {
  mixed := by kernel_rfl
  f41 := ⟨Tryz.f86.name, by decide, Tryz.func86.trans (congrArg some (by kernel_rfl))⟩
  t4 := Tryz.underlying4
  a4 := Tryz.isAgg4
  z4 := Tryz.sizeOf4
  v4 := Tryz.zeroValue4
  t22 := Tryz.underlying22
  a22 := Tryz.isAgg22
  z22 := Tryz.sizeOf22
  v22 := Tryz.zeroValue22 }
open Go.RowKit Go.Lib in
theorem Tryz.slices_Clone (i0 : TypeInfo) (z : Value) (size bytes : Nat) (hi : Tryz.prog.info? 3 = some i0) (hz0 : i0.zero = some z) (hz1 : i0.size = size) (hz2 : i0.bytes = bytes) (hzs : z.cells.size = size) (hsz : 0 < size) (z23 : ∀ w, (Go.sizeOf 3).run Tryz.prog w = .ok size w) (b off n c : Nat) (news : List Value) (w : World) (hl : news.length = n * size) (hn : n ≤ maxLen) (hbig : n * bytes ≤ 140737488355328) (hc : ∀ j u, news[j]? = some u → w.cell? ⟨b, off + j, none⟩ = some u) (h1 : ∀ u ∈ news, u.oneCell' = true) :
    Calls Tryz.prog 86 #[.slice (some ⟨b, off, none⟩) n c] w fun e w' => ∃ v', e = .returned v' ∧ w'.ownsRow w.heap.size 3 size v' n news ∧ v' ≠ .slice none 0 0 ∧ Below w.heap.size w w' := AnyE.slices_Clone Tryz.laysSlE041_f86 i0 z size bytes hi hz0 hz1 hz2 hzs hsz z23 b off n c news w hl hn hbig hc h1
open Go.RowKit Go.Lib in
theorem Tryz.slices_Clone_nil (n c : Nat) (w : World) :
    Calls Tryz.prog 86 #[.slice none n c] w fun e w' => e = .returned (.slice none 0 0) ∧ w' = w := AnyE.slices_Clone_nil Tryz.laysSlE041_f86 n c w
end Go.Proofs
/-
  The library's tables that stay through whatever only makes memory of its own.
-/
namespace Go.Proofs.YtpcohbpeglledaaGreat
open Go.RowKit Kv
def deBruijn64 : List Int := [0, 1, 56, 2, 57, 49, 28, 3, 61, 58, 42, 50, 38, 29, 17, 4, 62, 47, 59, 36, 45, 43, 51, 22, 53, 39, 33, 30, 24, 18, 12, 5, 63, 55, 48, 27, 60, 41, 37, 16, 46, 35, 44, 21, 52, 32, 23, 11, 54, 26, 40, 15, 34, 20, 31, 10, 25, 14, 19, 9, 13, 8, 7, 6]
/-- The tables that the library reads. -/
structure Tabs (w : World) : Prop where
  pow10 : Lib.TabIs Tryz.prog w "internal/strconv.uint64pow10" .u64 Lib.pow10Tab
  bruijn : Lib.TabIs Tryz.prog w "math/bits.deBruijn64tab" .u8 deBruijn64
theorem Tabs.ext {w w' : World} (h : Tabs w) (hx : Ext w w') : Tabs w' :=
  ⟨Lib.tabBelow_of_tabIs h.pow10 _ hx, Lib.tabBelow_of_tabIs h.bruijn _ hx⟩
end Go.Proofs.YtpcohbpeglledaaGreat
/-
  Layer 1: the two functions that call the library (levels, digits), and the chapter's examples.
-/
namespace Go.Proofs.YtpcohbpeglledaaGreat
open Go.RowKit Kv
theorem levels_p (n : Int) (hn : n ≤ 9223372036854775807) (w : World) :
    Calls Tryz.prog 130 #[.int .i64 n] w fun e w' => e = .returned (.int .i64 (levels n)) ∧ w = w' := by
  by_cases h1 : n ≤ 1
  · have H := Lib.hid (levels_small n h1)
    go_enter Tryz.func130, Tryz.ntmps130
    go_wp2
    go_ret
    exact ⟨ret_int (by rw [H.out]; rfl), rfl⟩
  · have H := Lib.hid (levels_bitLen n (by omega))
    rw [show (n - 1).toNat = n.toNat - 1 from by omega] at H
    go_enter Tryz.func130, Tryz.ntmps130
    go_wp2_with (go_at_call 178; refine (Tryz.bits_Len64 _ _ (by omega) (by omega)).mono ?_; rintro e w' ⟨rfl, rfl⟩)
    go_ret
    exact ⟨ret_int (by rw [H.out]), rfl⟩
theorem lev5 : levels 5 = 3 := by decide
theorem dig40 : digits (-40) = [45, 52, 48] := by
  unfold digits Go.Lib.itoa
  rw [if_pos (by omega), show (-40 : Int).natAbs = 40 from rfl, decDigits_step 40 (by omega), decDigits_one (40 / 10) (by omega)]
  decide
end Go.Proofs.YtpcohbpeglledaaGreat
/-
  Plain mathematics of Kessels' lock: entering and leaving as trees.
-/
namespace Kv
def kesFree (s t y : Int) : Bool := if s = 1 then decide (bitM y = t) else decide (bitM y ≠ t)
def kesT (s x : Int) : Int := if s = 1 then 1 - bitM x else bitM x
/-- Spinning, so many rounds at most. -/
def kesSpin (qo ro : Reg) (s t me : Int) : Nat → Prog Unit
  | 0 => .ret ()
  | n + 1 => (regR qo me).bind fun x => if x = 0 then .ret () else (regR ro me).bind fun y => if kesFree s t y then .ret () else kesSpin qo ro s t me n
def kesEnter (n : Nat) (qs qo rs ro : Reg) (s me : Int) : Prog Unit :=
  (regW qs me 1).bind fun _ => (regR ro me).bind fun x => (regW rs me (kesT s x)).bind fun _ => kesSpin qo ro s (kesT s x) me n
end Kv
/-
  Kessels: entering, by the program.
-/
namespace Go.Proofs.YtpcohbpeglledaaGreat
open Go.RowKit Kv
theorem kbit_p (x : Int) (w : World) : Calls Tryz.prog 97 #[.int .i64 x] w fun e w' => e = .returned (.int .i64 (bitM x)) ∧ w = w' := by
  unfold bitM
  by_cases h : x = 0
  · rw [if_pos h]
    go_enter Tryz.func97, Tryz.ntmps97
    go_wp2_with fail
    go_ret
    exact ⟨rfl, rfl⟩
  · rw [if_neg h]
    have hb : (x != 0) = true := by rw [bne_iff_ne]; exact h
    go_enter Tryz.func97, Tryz.ntmps97
    go_wp2_with fail
    go_ret
    exact ⟨rfl, rfl⟩
theorem kfree0_p (x t : Int) (b : Nat) (w : World) (h : w.cell? ⟨b, 0, none⟩ = some (.int .i64 t)) : Calls Tryz.prog 98 #[.int .i64 x, .pointer (some ⟨b, 0, none⟩)] w fun e w' => e = .returned (.bool (x != t)) ∧ w = w' := by
  go_enter Tryz.func98, Tryz.ntmps98
  go_wp2_with fail
  go_ret
  exact ⟨rfl, rfl⟩
theorem kfree1_p (x t : Int) (b : Nat) (w : World) (h : w.cell? ⟨b, 0, none⟩ = some (.int .i64 t)) : Calls Tryz.prog 99 #[.int .i64 x, .pointer (some ⟨b, 0, none⟩)] w fun e w' => e = .returned (.bool (x == t)) ∧ w = w' := by
  go_enter Tryz.func99, Tryz.ntmps99
  go_wp2_with fail
  go_ret
  exact ⟨rfl, rfl⟩
theorem cells_pm (r : Reg) (me : Int) (w : World) (ho : r.ok) (ht : r.told me) (hm : 0 ≤ me ∧ me < r.n) : Calls Tryz.prog 100 #[encR r] w fun e w' => ∃ c : Int, e = .returned (.int .i64 c) ∧ (c == 0) = false ∧ Ext w w' := by
  refine (cells_p r w (by rcases ht with h | ⟨h, _⟩ | ⟨h, h2⟩; exact .inl h; exact .inr (.inl h); exact .inr (.inr ⟨h, h2⟩)) ho.n (fun w => mthreads_p r.n w ho.n.1 ho.n.2)).mono fun e w' h => ⟨_, h.1, ?_, h.2⟩
  rw [beq_eq_false_iff_ne]
  have hn := ho.n
  have h2 : r.kind ≠ 1 → 2 ≤ r.n := fun h1 => by
    rcases ht with h | ⟨h, h3⟩ | ⟨h, h3⟩
    · exact absurd h h1
    · have := ho.wr h; omega
    · exact h3
  unfold cellsM
  split
  · decide
  · rename_i h1
    have h3 := h2 h1
    have p1 : 0 < 16 * (r.n - 1) * (r.n - 1) := Int.mul_pos (by omega) (by omega)
    split
    · omega
    · have p2 : 0 < 16 * (r.n - 1) * (r.n - 1) * r.n := Int.mul_pos p1 (by omega)
      omega
set_option maxRecDepth 100000 in
set_option maxHeartbeats 1000000 in
theorem kes_enter_p0 (B p N : Nat) (S : TS) (q0 q1 r0 r1 : Reg) (side me : Int) (b c : Nat) (w : World) (h : Plays B w p S) (hl : RegsAt [2, 3, 4] w p b [q0, q1, r0, r1]) (hq0 : q0.ok) (hq1 : q1.ok) (hr0 : r0.ok) (hr1 : r1.ok)
    (hm0 : 0 ≤ me) (hm1 : me < q0.n) (hm2 : me < q1.n) (hm3 : me < r0.n) (hm4 : me < r1.n) (ht1 : q1.told me) (_ht2 : r1.told me) (hN : S.left < N) (hs : bitM side = 0) (hc4 : 4 ≤ c) (hc5 : c ≤ 9223372036854775807) :
    Calls Tryz.prog 28 #[.pointer (some ⟨p, 0, none⟩), .slice (some ⟨b, 0, none⟩) 4 c, .int .i64 side, .int .i64 me] w (Post encU B p w ((kesEnter N q0 q1 r0 r1 0 me).run S)) := by
  generalize hR : Post encU B p w ((kesEnter N q0 q1 r0 r1 0 me).run S) = R
  have hO : Owes R encU B p w ((kesEnter N q0 q1 r0 r1 0 me).run S) := hR ▸ owes _ _ _ _ _
  clear hR
  have hmf : ∀ (fn : Fn) (first cap : Array Value) (w : World), (Instr.makeFunc fn first cap).run Tryz.prog w = .ok (.func fn first cap) w := fun _ _ _ _ => rfl
  have hK := Keep.refl [2, 3, 4] B p w
  have hP := h
  clear h
  unfold kesEnter at hO
  obtain ⟨⟨a0, a1, a2, a3, a4, a5, a6⟩, ⟨e0, e1, e2, e3, e4, e5, e6⟩, ⟨f0, f1, f2, f3, f4, f5, f6⟩, ⟨g0, g1, g2, g3, g4, g5, g6⟩⟩ := hl.four
  have hc6 : (2 : Int) ≤ (c : Int) := by omega
  have hc7 : (4 : Int) ≤ (c : Int) := by omega
  have hb := kbit_p side w
  rw [hs] at hb
  clear hs
  go_enter Tryz.func28, Tryz.ntmps28
  go_wp2_with fail
  refine hb.mono ?_
  rintro e w' ⟨rfl, rfl⟩
  clear hb
  go_wp2_with fail
  go_quiet (fail)
  have hx := (Ext.refl w).drewN nq
  replace hl := hl.extL hx hP.lt
  replace hK := hK.trans (Keep.of_ext hx hP.lt hP.le)
  replace hP := hP.ext hx
  clear a0 a1 a2 a3 a4 a5 a6 e0 e1 e2 e3 e4 e5 e6 f0 f1 f2 f3 f4 f5 f6 g0 g1 g2 g3 g4 g5 g6 hx
  generalize w.drewN nq = wz at *
  obtain ⟨⟨a0, a1, a2, a3, a4, a5, a6⟩, ⟨e0, e1, e2, e3, e4, e5, e6⟩, ⟨f0, f1, f2, f3, f4, f5, f6⟩, ⟨g0, g1, g2, g3, g4, g5, g6⟩⟩ := hl.four
  go_wp2_with fail
  refine tstepL hO hK (reg_write_p B p S q0 me 1 _ hP hq0 ⟨hm0, by omega⟩) (fun _ h => ⟨rfl, h⟩) ?_
  clear hO hK hP
  intro u S w1 hlf _ hP hk hK hO
  replace hN := Nat.lt_of_le_of_lt hlf hN
  replace hl := hl.keep hk
  clear a0 a1 a2 a3 a4 a5 a6 e0 e1 e2 e3 e4 e5 e6 f0 f1 f2 f3 f4 f5 f6 g0 g1 g2 g3 g4 g5 g6 hk hlf
  obtain ⟨⟨a0, a1, a2, a3, a4, a5, a6⟩, ⟨e0, e1, e2, e3, e4, e5, e6⟩, ⟨f0, f1, f2, f3, f4, f5, f6⟩, ⟨g0, g1, g2, g3, g4, g5, g6⟩⟩ := hl.four
  go_wp2_with fail
  refine tstepL hO hK (reg_read_p B p S r1 me _ hP hr1 ⟨hm0, by omega⟩) (fun _ h => ⟨rfl, h⟩) ?_
  clear hO hK hP
  intro x S w2 hlf _ hP hk hK hO
  replace hN := Nat.lt_of_le_of_lt hlf hN
  replace hl := hl.keep hk
  clear a0 a1 a2 a3 a4 a5 a6 e0 e1 e2 e3 e4 e5 e6 f0 f1 f2 f3 f4 f5 f6 g0 g1 g2 g3 g4 g5 g6 hk hlf
  obtain ⟨⟨a0, a1, a2, a3, a4, a5, a6⟩, ⟨e0, e1, e2, e3, e4, e5, e6⟩, ⟨f0, f1, f2, f3, f4, f5, f6⟩, ⟨g0, g1, g2, g3, g4, g5, g6⟩⟩ := hl.four
  go_wp2_with fail
  have hbx : 0 ≤ bitM x ∧ bitM x ≤ 1 := by unfold bitM; split <;> omega
  have hwx := w64 (1 - bitM x) (by omega) (by omega)
  refine (kbit_p x _).mono ?_
  rintro e w' ⟨rfl, rfl⟩
  go_wp2_with fail
  have hPo := hP
  have bT := hP.held (.cells #[.int .i64 (bitM x)] 3)
  replace hK := hK.trans (Keep.alloc (.cells #[.int .i64 (bitM x)] 3) hP.lt hP.le)
  replace hP := hP.alloc (.cells #[.int .i64 (bitM x)] 3)
  have c_bT := bT.cells
  replace hl := hl.extL ((Ext.refl _).alloc (.cells #[.int .i64 (bitM x)] 3)) hPo.lt
  clear hPo
  clear a0 a1 a2 a3 a4 a5 a6 e0 e1 e2 e3 e4 e5 e6 f0 f1 f2 f3 f4 f5 f6 g0 g1 g2 g3 g4 g5 g6
  rw [show kesT 0 x = (bitM x) from rfl] at hO
  replace hP := hP.drew
  replace hK := hK.drew
  replace bT := bT.drew
  replace hl := hl.extL (Ext.refl _).drew hP.lt
  have hS : ∀ w', RegsAt [2, 3, 4] w' p b [q0, q1, r0, r1] → HeldP w' p w2.heap.size (.cells #[.int .i64 (bitM x)] 3) → (w'.cell? ⟨b, 14, none⟩ = some (.int .i64 r0.kind) ∧ w'.cell? ⟨b, 15, none⟩ = some (.int .i64 r0.base) ∧ w'.cell? ⟨b, 16, none⟩ = some (.int .i64 r0.loc) ∧ w'.cell? ⟨b, 17, none⟩ = some (.int .i64 r0.n) ∧ w'.cell? ⟨b, 18, none⟩ = some (.int .i64 r0.wr) ∧ w'.cell? ⟨b, 19, none⟩ = some (.int .i64 r0.rd) ∧ w'.cell? ⟨b, 20, none⟩ = some (.int .i64 r0.top)) ∧ (∀ i, w'.cell? ⟨w2.heap.size, i, none⟩ = (#[.int .i64 (bitM x)] : Array Value)[i]?) := fun w' h1 h2 => by
    obtain ⟨y0, y1, y2, y3, y4, y5, y6⟩ := h1.four.2.2.1
    exact ⟨⟨y0, y1, y2, y3, y4, y5, y6⟩, h2.cells⟩
  go_region_held2 (fun w' => (w'.cell? ⟨b, 14, none⟩ = some (.int .i64 r0.kind) ∧ w'.cell? ⟨b, 15, none⟩ = some (.int .i64 r0.base) ∧ w'.cell? ⟨b, 16, none⟩ = some (.int .i64 r0.loc) ∧ w'.cell? ⟨b, 17, none⟩ = some (.int .i64 r0.n) ∧ w'.cell? ⟨b, 18, none⟩ = some (.int .i64 r0.wr) ∧ w'.cell? ⟨b, 19, none⟩ = some (.int .i64 r0.rd) ∧ w'.cell? ⟨b, 20, none⟩ = some (.int .i64 r0.top)) ∧ (∀ i, w'.cell? ⟨w2.heap.size, i, none⟩ = (#[.int .i64 (bitM x)] : Array Value)[i]?)) (exact hS _ hl bT)
    (first
      | (go_at_call 89
         refine tstepL hO hK (reg_write_p B p S r0 me (bitM x) _ hP hr0 ⟨hm0, by omega⟩) (fun _ h => ⟨rfl, h⟩) ?_
         clear hO hK hP
         intro u S w3 hlf _ hP hk hK hO
         replace hN := Nat.lt_of_le_of_lt hlf hN
         replace hl := hl.keep hk
         replace bT := bT.keep hk
         clear hk hlf))
  rename_i hh
  clear hh c_bT
  generalize htx : (bitM x) = t at *
  go_wp2_with fail
  go_loopw [] (fun wr => ∃ (n : Nat) (S1 : TS), Plays B wr p S1 ∧ KeepP B p w wr ∧ HeldP wr p w2.heap.size (.cells #[.int .i64 t] 3) ∧ RegsAt [2, 3, 4] wr p b [q0, q1, r0, r1] ∧ Hid (Owes R encU B p w ((kesSpin q1 r1 0 t me n).run S1)) ∧ S1.left < n) (fun wr => leftW 1 3 wr p)
  case atStart => exact ⟨N, S, hP, hK, bT, hl, hO, hN⟩
  case round =>
    clear hS hP hK bT hl hO hN
    obtain ⟨n, S1, hP, hK, bT, hl, hO, hN⟩ := hrel
    have hO := hO.out
    have hlw := Lib.hid hP.left
    cases n with
    | zero => omega
    | succ n =>
      unfold kesSpin at hO
      obtain ⟨⟨a0, a1, a2, a3, a4, a5, a6⟩, ⟨e0, e1, e2, e3, e4, e5, e6⟩, ⟨f0, f1, f2, f3, f4, f5, f6⟩, ⟨g0, g1, g2, g3, g4, g5, g6⟩⟩ := hl.four
      go_wp2_with fail
      refine tstepL hO hK (reg_read_p B p S1 q1 me _ hP hq1 ⟨hm0, by omega⟩) (fun _ h => ⟨rfl, h⟩) ?_
      clear hO hK hP
      intro v S2 w4 _ hlf hP hk hK hO
      replace hlf := hlf (asks_regR _ _ ht1)
      replace hl := hl.keep hk
      replace bT := bT.keep hk
      clear a0 a1 a2 a3 a4 a5 a6 e0 e1 e2 e3 e4 e5 e6 f0 f1 f2 f3 f4 f5 f6 g0 g1 g2 g3 g4 g5 g6 hk
      by_cases hv : v = 0
      · rw [if_pos hv] at hO
        subst hv
        have hf : R (.returned (encU ())) w4 := hO.done hP hK
        clear hO hP hK hl bT
        go_wp2_with fail
        first | exact hf | (refine bodyPost_ret (results_none rfl _ _ _) rfl ?_; exact hf)
      · rw [if_neg hv] at hO
        have hv2 : (v == 0) = false := by rw [beq_eq_false_iff_ne]; exact hv
        obtain ⟨⟨a0, a1, a2, a3, a4, a5, a6⟩, ⟨e0, e1, e2, e3, e4, e5, e6⟩, ⟨f0, f1, f2, f3, f4, f5, f6⟩, ⟨g0, g1, g2, g3, g4, g5, g6⟩⟩ := hl.four
        clear hv
        go_wp2_with fail
        refine tstepL hO hK (reg_read_p B p S2 r1 me _ hP hr1 ⟨hm0, by omega⟩) (fun _ h => ⟨rfl, h⟩) ?_
        clear hO hK hP
        intro y S3 w5 hlf2 _ hP hk hK hO
        replace hl := hl.keep hk
        replace bT := bT.keep hk
        clear a0 a1 a2 a3 a4 a5 a6 e0 e1 e2 e3 e4 e5 e6 f0 f1 f2 f3 f4 f5 f6 g0 g1 g2 g3 g4 g5 g6 hk
        have c_bT := bT.cells
        go_wp2_with fail
        refine (kbit_p y _).mono ?_
        rintro e w' ⟨rfl, rfl⟩
        go_wp2_with fail
        refine (kfree0_p (bitM y) t _ _ (c_bT 0)).mono ?_
        rintro e w' ⟨rfl, rfl⟩
        by_cases hy : kesFree 0 t y = true
        · rw [if_pos hy] at hO
          have hy2 : (bitM y != t) = true := by unfold kesFree at hy; simpa using hy
          have hf : R (.returned (encU ())) w5 := hO.done hP hK
          clear hO hP hK hl bT hy
          go_wp2_with fail
          first | exact hf | (refine bodyPost_ret (results_none rfl _ _ _) rfl ?_; exact hf)
        · rw [if_neg hy] at hO
          have hy2 : (bitM y != t) = false := by unfold kesFree at hy; simpa using hy
          obtain ⟨⟨a0, a1, a2, a3, a4, a5, a6⟩, ⟨e0, e1, e2, e3, e4, e5, e6⟩, ⟨f0, f1, f2, f3, f4, f5, f6⟩, ⟨g0, g1, g2, g3, g4, g5, g6⟩⟩ := hl.four
          clear hy c_bT
          go_wp2_with fail
          refine (cells_pm q1 me _ hq1 ht1 ⟨hm0, by omega⟩).mono ?_
          rintro e w6 ⟨cc, rfl, hcc, hx⟩
          replace hl := hl.extL hx hP.lt
          replace bT := bT.ext hx hP.lt
          replace hK := hK.trans (Keep.of_ext hx hP.lt hP.le)
          replace hP := hP.ext hx
          clear a0 a1 a2 a3 a4 a5 a6 e0 e1 e2 e3 e4 e5 e6 f0 f1 f2 f3 f4 f5 f6 g0 g1 g2 g3 g4 g5 g6 hx
          have hlw2 := Lib.hid hP.left
          have hOh := Lib.hid hO
          clear hO
          go_wp2_with fail
          refine ⟨⟨n, S3, hP, hK, bT, hl, hOh, by omega⟩, ?_⟩
          rw [hlw.out, hlw2.out]
          omega
set_option maxRecDepth 100000 in
set_option maxHeartbeats 1000000 in
theorem kes_enter_p1 (B p N : Nat) (S : TS) (q0 q1 r0 r1 : Reg) (side me : Int) (b c : Nat) (w : World) (h : Plays B w p S) (hl : RegsAt [2, 3, 4] w p b [q0, q1, r0, r1]) (hq0 : q0.ok) (hq1 : q1.ok) (hr0 : r0.ok) (hr1 : r1.ok)
    (hm0 : 0 ≤ me) (hm1 : me < q0.n) (hm2 : me < q1.n) (hm3 : me < r0.n) (hm4 : me < r1.n) (ht1 : q0.told me) (_ht2 : r0.told me) (hN : S.left < N) (hs : bitM side = 1) (hc4 : 4 ≤ c) (hc5 : c ≤ 9223372036854775807) :
    Calls Tryz.prog 28 #[.pointer (some ⟨p, 0, none⟩), .slice (some ⟨b, 0, none⟩) 4 c, .int .i64 side, .int .i64 me] w (Post encU B p w ((kesEnter N q1 q0 r1 r0 1 me).run S)) := by
  generalize hR : Post encU B p w ((kesEnter N q1 q0 r1 r0 1 me).run S) = R
  have hO : Owes R encU B p w ((kesEnter N q1 q0 r1 r0 1 me).run S) := hR ▸ owes _ _ _ _ _
  clear hR
  have hmf : ∀ (fn : Fn) (first cap : Array Value) (w : World), (Instr.makeFunc fn first cap).run Tryz.prog w = .ok (.func fn first cap) w := fun _ _ _ _ => rfl
  have hK := Keep.refl [2, 3, 4] B p w
  have hP := h
  clear h
  unfold kesEnter at hO
  obtain ⟨⟨a0, a1, a2, a3, a4, a5, a6⟩, ⟨e0, e1, e2, e3, e4, e5, e6⟩, ⟨f0, f1, f2, f3, f4, f5, f6⟩, ⟨g0, g1, g2, g3, g4, g5, g6⟩⟩ := hl.four
  have hc6 : (2 : Int) ≤ (c : Int) := by omega
  have hc7 : (4 : Int) ≤ (c : Int) := by omega
  have hb := kbit_p side w
  rw [hs] at hb
  clear hs
  go_enter Tryz.func28, Tryz.ntmps28
  go_wp2_with fail
  refine hb.mono ?_
  rintro e w' ⟨rfl, rfl⟩
  clear hb
  go_wp2_with fail
  go_quiet (fail)
  have hx := (Ext.refl w).drewN nq
  replace hl := hl.extL hx hP.lt
  replace hK := hK.trans (Keep.of_ext hx hP.lt hP.le)
  replace hP := hP.ext hx
  clear a0 a1 a2 a3 a4 a5 a6 e0 e1 e2 e3 e4 e5 e6 f0 f1 f2 f3 f4 f5 f6 g0 g1 g2 g3 g4 g5 g6 hx
  generalize w.drewN nq = wz at *
  obtain ⟨⟨a0, a1, a2, a3, a4, a5, a6⟩, ⟨e0, e1, e2, e3, e4, e5, e6⟩, ⟨f0, f1, f2, f3, f4, f5, f6⟩, ⟨g0, g1, g2, g3, g4, g5, g6⟩⟩ := hl.four
  go_wp2_with fail
  refine tstepL hO hK (reg_write_p B p S q1 me 1 _ hP hq1 ⟨hm0, by omega⟩) (fun _ h => ⟨rfl, h⟩) ?_
  clear hO hK hP
  intro u S w1 hlf _ hP hk hK hO
  replace hN := Nat.lt_of_le_of_lt hlf hN
  replace hl := hl.keep hk
  clear a0 a1 a2 a3 a4 a5 a6 e0 e1 e2 e3 e4 e5 e6 f0 f1 f2 f3 f4 f5 f6 g0 g1 g2 g3 g4 g5 g6 hk hlf
  obtain ⟨⟨a0, a1, a2, a3, a4, a5, a6⟩, ⟨e0, e1, e2, e3, e4, e5, e6⟩, ⟨f0, f1, f2, f3, f4, f5, f6⟩, ⟨g0, g1, g2, g3, g4, g5, g6⟩⟩ := hl.four
  go_wp2_with fail
  refine tstepL hO hK (reg_read_p B p S r0 me _ hP hr0 ⟨hm0, by omega⟩) (fun _ h => ⟨rfl, h⟩) ?_
  clear hO hK hP
  intro x S w2 hlf _ hP hk hK hO
  replace hN := Nat.lt_of_le_of_lt hlf hN
  replace hl := hl.keep hk
  clear a0 a1 a2 a3 a4 a5 a6 e0 e1 e2 e3 e4 e5 e6 f0 f1 f2 f3 f4 f5 f6 g0 g1 g2 g3 g4 g5 g6 hk hlf
  obtain ⟨⟨a0, a1, a2, a3, a4, a5, a6⟩, ⟨e0, e1, e2, e3, e4, e5, e6⟩, ⟨f0, f1, f2, f3, f4, f5, f6⟩, ⟨g0, g1, g2, g3, g4, g5, g6⟩⟩ := hl.four
  go_wp2_with fail
  have hbx : 0 ≤ bitM x ∧ bitM x ≤ 1 := by unfold bitM; split <;> omega
  have hwx := w64 (1 - bitM x) (by omega) (by omega)
  refine (kbit_p x _).mono ?_
  rintro e w' ⟨rfl, rfl⟩
  go_wp2_with fail
  have hPo := hP
  have bT := hP.held (.cells #[.int .i64 (1 - bitM x)] 3)
  replace hK := hK.trans (Keep.alloc (.cells #[.int .i64 (1 - bitM x)] 3) hP.lt hP.le)
  replace hP := hP.alloc (.cells #[.int .i64 (1 - bitM x)] 3)
  have c_bT := bT.cells
  replace hl := hl.extL ((Ext.refl _).alloc (.cells #[.int .i64 (1 - bitM x)] 3)) hPo.lt
  clear hPo
  clear a0 a1 a2 a3 a4 a5 a6 e0 e1 e2 e3 e4 e5 e6 f0 f1 f2 f3 f4 f5 f6 g0 g1 g2 g3 g4 g5 g6
  rw [show kesT 1 x = (1 - bitM x) from rfl] at hO
  replace hP := hP.drew
  replace hK := hK.drew
  replace bT := bT.drew
  replace hl := hl.extL (Ext.refl _).drew hP.lt
  have hS : ∀ w', RegsAt [2, 3, 4] w' p b [q0, q1, r0, r1] → HeldP w' p w2.heap.size (.cells #[.int .i64 (1 - bitM x)] 3) → (w'.cell? ⟨b, 21, none⟩ = some (.int .i64 r1.kind) ∧ w'.cell? ⟨b, 22, none⟩ = some (.int .i64 r1.base) ∧ w'.cell? ⟨b, 23, none⟩ = some (.int .i64 r1.loc) ∧ w'.cell? ⟨b, 24, none⟩ = some (.int .i64 r1.n) ∧ w'.cell? ⟨b, 25, none⟩ = some (.int .i64 r1.wr) ∧ w'.cell? ⟨b, 26, none⟩ = some (.int .i64 r1.rd) ∧ w'.cell? ⟨b, 27, none⟩ = some (.int .i64 r1.top)) ∧ (∀ i, w'.cell? ⟨w2.heap.size, i, none⟩ = (#[.int .i64 (1 - bitM x)] : Array Value)[i]?) := fun w' h1 h2 => by
    obtain ⟨y0, y1, y2, y3, y4, y5, y6⟩ := h1.four.2.2.2
    exact ⟨⟨y0, y1, y2, y3, y4, y5, y6⟩, h2.cells⟩
  go_region_held2 (fun w' => (w'.cell? ⟨b, 21, none⟩ = some (.int .i64 r1.kind) ∧ w'.cell? ⟨b, 22, none⟩ = some (.int .i64 r1.base) ∧ w'.cell? ⟨b, 23, none⟩ = some (.int .i64 r1.loc) ∧ w'.cell? ⟨b, 24, none⟩ = some (.int .i64 r1.n) ∧ w'.cell? ⟨b, 25, none⟩ = some (.int .i64 r1.wr) ∧ w'.cell? ⟨b, 26, none⟩ = some (.int .i64 r1.rd) ∧ w'.cell? ⟨b, 27, none⟩ = some (.int .i64 r1.top)) ∧ (∀ i, w'.cell? ⟨w2.heap.size, i, none⟩ = (#[.int .i64 (1 - bitM x)] : Array Value)[i]?)) (exact hS _ hl bT)
    (first
      | (go_at_call 89
         refine tstepL hO hK (reg_write_p B p S r1 me (1 - bitM x) _ hP hr1 ⟨hm0, by omega⟩) (fun _ h => ⟨rfl, h⟩) ?_
         clear hO hK hP
         intro u S w3 hlf _ hP hk hK hO
         replace hN := Nat.lt_of_le_of_lt hlf hN
         replace hl := hl.keep hk
         replace bT := bT.keep hk
         clear hk hlf))
  rename_i hh
  clear hh c_bT
  generalize htx : (1 - bitM x) = t at *
  go_wp2_with fail
  go_loopw [] (fun wr => ∃ (n : Nat) (S1 : TS), Plays B wr p S1 ∧ KeepP B p w wr ∧ HeldP wr p w2.heap.size (.cells #[.int .i64 t] 3) ∧ RegsAt [2, 3, 4] wr p b [q0, q1, r0, r1] ∧ Hid (Owes R encU B p w ((kesSpin q0 r0 1 t me n).run S1)) ∧ S1.left < n) (fun wr => leftW 1 3 wr p)
  case atStart => exact ⟨N, S, hP, hK, bT, hl, hO, hN⟩
  case round =>
    clear hS hP hK bT hl hO hN
    obtain ⟨n, S1, hP, hK, bT, hl, hO, hN⟩ := hrel
    have hO := hO.out
    have hlw := Lib.hid hP.left
    cases n with
    | zero => omega
    | succ n =>
      unfold kesSpin at hO
      obtain ⟨⟨a0, a1, a2, a3, a4, a5, a6⟩, ⟨e0, e1, e2, e3, e4, e5, e6⟩, ⟨f0, f1, f2, f3, f4, f5, f6⟩, ⟨g0, g1, g2, g3, g4, g5, g6⟩⟩ := hl.four
      go_wp2_with fail
      refine tstepL hO hK (reg_read_p B p S1 q0 me _ hP hq0 ⟨hm0, by omega⟩) (fun _ h => ⟨rfl, h⟩) ?_
      clear hO hK hP
      intro v S2 w4 _ hlf hP hk hK hO
      replace hlf := hlf (asks_regR _ _ ht1)
      replace hl := hl.keep hk
      replace bT := bT.keep hk
      clear a0 a1 a2 a3 a4 a5 a6 e0 e1 e2 e3 e4 e5 e6 f0 f1 f2 f3 f4 f5 f6 g0 g1 g2 g3 g4 g5 g6 hk
      by_cases hv : v = 0
      · rw [if_pos hv] at hO
        subst hv
        have hf : R (.returned (encU ())) w4 := hO.done hP hK
        clear hO hP hK hl bT
        go_wp2_with fail
        first | exact hf | (refine bodyPost_ret (results_none rfl _ _ _) rfl ?_; exact hf)
      · rw [if_neg hv] at hO
        have hv2 : (v == 0) = false := by rw [beq_eq_false_iff_ne]; exact hv
        obtain ⟨⟨a0, a1, a2, a3, a4, a5, a6⟩, ⟨e0, e1, e2, e3, e4, e5, e6⟩, ⟨f0, f1, f2, f3, f4, f5, f6⟩, ⟨g0, g1, g2, g3, g4, g5, g6⟩⟩ := hl.four
        clear hv
        go_wp2_with fail
        refine tstepL hO hK (reg_read_p B p S2 r0 me _ hP hr0 ⟨hm0, by omega⟩) (fun _ h => ⟨rfl, h⟩) ?_
        clear hO hK hP
        intro y S3 w5 hlf2 _ hP hk hK hO
        replace hl := hl.keep hk
        replace bT := bT.keep hk
        clear a0 a1 a2 a3 a4 a5 a6 e0 e1 e2 e3 e4 e5 e6 f0 f1 f2 f3 f4 f5 f6 g0 g1 g2 g3 g4 g5 g6 hk
        have c_bT := bT.cells
        go_wp2_with fail
        refine (kbit_p y _).mono ?_
        rintro e w' ⟨rfl, rfl⟩
        go_wp2_with fail
        refine (kfree1_p (bitM y) t _ _ (c_bT 0)).mono ?_
        rintro e w' ⟨rfl, rfl⟩
        by_cases hy : kesFree 1 t y = true
        · rw [if_pos hy] at hO
          have hy2 : (bitM y == t) = true := by unfold kesFree at hy; simpa using hy
          have hf : R (.returned (encU ())) w5 := hO.done hP hK
          clear hO hP hK hl bT hy
          go_wp2_with fail
          first | exact hf | (refine bodyPost_ret (results_none rfl _ _ _) rfl ?_; exact hf)
        · rw [if_neg hy] at hO
          have hy2 : (bitM y == t) = false := by unfold kesFree at hy; simpa using hy
          obtain ⟨⟨a0, a1, a2, a3, a4, a5, a6⟩, ⟨e0, e1, e2, e3, e4, e5, e6⟩, ⟨f0, f1, f2, f3, f4, f5, f6⟩, ⟨g0, g1, g2, g3, g4, g5, g6⟩⟩ := hl.four
          clear hy c_bT
          go_wp2_with fail
          refine (cells_pm q0 me _ hq0 ht1 ⟨hm0, by omega⟩).mono ?_
          rintro e w6 ⟨cc, rfl, hcc, hx⟩
          replace hl := hl.extL hx hP.lt
          replace bT := bT.ext hx hP.lt
          replace hK := hK.trans (Keep.of_ext hx hP.lt hP.le)
          replace hP := hP.ext hx
          clear a0 a1 a2 a3 a4 a5 a6 e0 e1 e2 e3 e4 e5 e6 f0 f1 f2 f3 f4 f5 f6 g0 g1 g2 g3 g4 g5 g6 hx
          have hlw2 := Lib.hid hP.left
          have hOh := Lib.hid hO
          clear hO
          go_wp2_with fail
          refine ⟨⟨n, S3, hP, hK, bT, hl, hOh, by omega⟩, ?_⟩
          rw [hlw.out, hlw2.out]
          omega
end Go.Proofs.YtpcohbpeglledaaGreat
/-
  Kessels: leaving, by the program.
-/
namespace Go.Proofs.YtpcohbpeglledaaGreat
open Go.RowKit Kv
theorem kbit_p' (x : Int) (w : World) : Calls Tryz.prog 97 #[.int .i64 x] w fun e w' => e = .returned (.int .i64 (bitM x)) ∧ w = w' := by
  unfold bitM
  by_cases h : x = 0
  · rw [if_pos h]
    go_enter Tryz.func97, Tryz.ntmps97
    go_wp2_with fail
    go_ret
    exact ⟨rfl, rfl⟩
  · rw [if_neg h]
    have hb : (x != 0) = true := by rw [bne_iff_ne]; exact h
    go_enter Tryz.func97, Tryz.ntmps97
    go_wp2_with fail
    go_ret
    exact ⟨rfl, rfl⟩
theorem kes_leave_p (B p : Nat) (S : TS) (q0 q1 r0 r1 : Reg) (side me : Int) (b c : Nat) (w : World) (h : Plays B w p S) (hl : RegsAt [2, 3, 4] w p b [q0, q1, r0, r1]) (hq0 : q0.ok) (hq1 : q1.ok)
    (hm0 : 0 ≤ me) (hm1 : me < q0.n) (hm2 : me < q1.n) :
    Calls Tryz.prog 31 #[.pointer (some ⟨p, 0, none⟩), .slice (some ⟨b, 0, none⟩) 4 c, .int .i64 side, .int .i64 me] w (Post encU B p w ((regW (if bitM side = 1 then q1 else q0) me 0).run S)) := by
  have hb := kbit_p' side w
  obtain ⟨⟨a0, a1, a2, a3, a4, a5, a6⟩, ⟨e0, e1, e2, e3, e4, e5, e6⟩, -, -⟩ := hl.four
  have hs : bitM side = 0 ∨ bitM side = 1 := by unfold bitM; split <;> simp
  rcases hs with hs | hs
  · rw [hs] at hb ⊢
    rw [if_neg (by omega)]
    generalize hR : Post encU B p w ((regW q0 me 0).run S) = R
    have hO : Owes R encU B p w ((regW q0 me 0).run S) := hR ▸ owes _ _ _ _ _
    clear hR
    go_enter Tryz.func31, Tryz.ntmps31
    go_wp2_with fail
    refine hb.mono ?_
    rintro e w' ⟨rfl, rfl⟩
    go_wp2_with fail
    clear a0 a1 a2 a3 a4 a5 a6 e0 e1 e2 e3 e4 e5 e6 hl hb
    refine tlast hO (Keep.refl _ _ _ _) (reg_write_p B p S q0 me 0 _ h hq0 ⟨hm0, hm1⟩) (fun _ h => ⟨rfl, h⟩) ?_
    intro v S1 w1 hr hP1 hk1 hK1 hO1
    have hf := hO1.done hP1 hK1
    clear hO1 hP1 hK1 hr hk1 hO h
    go_wp2_with fail
    first | exact hf | (refine bodyPost_ret (results_none rfl _ _ _) rfl ?_; exact hf)
  · rw [hs] at hb ⊢
    rw [if_pos rfl]
    generalize hR : Post encU B p w ((regW q1 me 0).run S) = R
    have hO : Owes R encU B p w ((regW q1 me 0).run S) := hR ▸ owes _ _ _ _ _
    clear hR
    go_enter Tryz.func31, Tryz.ntmps31
    go_wp2_with fail
    refine hb.mono ?_
    rintro e w' ⟨rfl, rfl⟩
    go_wp2_with fail
    clear a0 a1 a2 a3 a4 a5 a6 e0 e1 e2 e3 e4 e5 e6 hl hb
    refine tlast hO (Keep.refl _ _ _ _) (reg_write_p B p S q1 me 0 _ h hq1 ⟨hm0, hm2⟩) (fun _ h => ⟨rfl, h⟩) ?_
    intro v S1 w1 hr hP1 hk1 hK1 hO1
    have hf := hO1.done hP1 hK1
    clear hO1 hP1 hK1 hr hk1 hO h
    go_wp2_with fail
    first | exact hf | (refine bodyPost_ret (results_none rfl _ _ _) rfl ?_; exact hf)
end Go.Proofs.YtpcohbpeglledaaGreat
