/-
  Layer 2: the chapter's examples.
-/
import Derived.Test.YtbmbgbmgldjmoaaDoorMaskLoops
namespace Go.Proofs.YtbmbgbmgldjmoaaDoor
open Go.RowKit Kv
/-- A list that was just laid. -/
theorem Ints.new (w : World) (l : List Int) (h : l.length ≤ 9223372036854775807) : Ints (w.alloc (.cells (l.map (Value.int .i64)).toArray 3)) (.slice (some ⟨w.heap.size, 0, none⟩) l.length l.length) l := by
  refine ⟨_, _, rfl, Nat.le_refl _, h, fun _ => ⟨w.heap.size, 0, rfl, by simp, fun i x hi => ?_⟩⟩
  have hh := World.alloc_heap_new w (.cells (l.map (Value.int .i64)).toArray 3)
  simp only [World.cell?, hh, Nat.zero_add]
  simp [hi]
theorem t03 : ofM [3, 0, 64] = 9 := by decide
theorem txt9 : textM 9 = [48, 43, 51] := by
  unfold textM
  rw [if_neg (by omega), show intsM 9 = [0, 3] from by decide, txt_eq]
  simp only [txtR]
  rw [show ((0 : Int)) = ((0 : Nat) : Int) from rfl, show ((3 : Int)) = ((3 : Nat) : Int) from rfl, digits_form 0 (by omega), digits_form 3 (by omega)]
  decide
theorem alive02 (w : World) (T : Tabs w) :
    Calls Tryd.prog 33 #[] w fun e w' => e = .returned (.bool true) ∧ Ext w w' := by
  go_enter Tryd.func33, Tryd.ntmps33
  go_wp2_with fail
  have hI := Ints.new w [3, 0, 64] (by simp)
  refine (of_p _ [3, 0, 64] _ hI).mono ?_
  rintro e w' ⟨rfl, rfl⟩
  rw [t03]
  have hE : Ext w (w.alloc (.cells ([3, 0, 64].map (Value.int .i64)).toArray 3)) := (Ext.refl w).alloc _
  clear hI
  go_wp2_with fail
  refine (text_any 9 (by omega) _ (T.ext hE)).mono ?_
  rintro e w2 ⟨rfl, hw2⟩
  rw [txt9]
  have T2 := (T.ext hE).ext hw2
  have hE2 := hE.trans hw2
  go_wp2_with fail
  refine (has_p 8 (by omega) _ _).mono ?_
  rintro e w' ⟨rfl, rfl⟩
  rw [show hasM 8 3 = true from by decide]
  go_wp2_with fail
  refine (has_p 8 (by omega) _ _).mono ?_
  rintro e w' ⟨rfl, rfl⟩
  rw [show hasM 8 64 = false from by decide]
  go_wp2_with fail
  refine (count_p 9 (by omega) _).mono ?_
  rintro e w' ⟨rfl, rfl⟩
  rw [show (listM 9).length = 2 from by decide]
  go_wp2_with fail
  refine (first_p _ _).mono ?_
  rintro e w' ⟨rfl, rfl⟩
  rw [show firstM 3 = 7 from by decide]
  go_wp2_with fail
  refine (text_any 0 (by omega) _ T2).mono ?_
  rintro e w3 ⟨rfl, hw3⟩
  rw [show textM 0 = [45] from rfl]
  go_wp2_with fail
  go_ret
  exact ⟨rfl, hE2.trans hw3⟩
end Go.Proofs.YtbmbgbmgldjmoaaDoor
