/-
  Plain mathematics: a set is what it is gone through, and unlike sets have unlike texts.
-/
import Derived.Test.YtbmbgbmgldjmoaaDoorMaskLoops
namespace Kv
open Go.Proofs.YtbmbgbmgldjmoaaDoor
theorem ofM_ints (s : Nat) (hs : s < 18446744073709551616) : ofM (intsM s) = s := by
  refine eq_of_bits fun i => ?_
  unfold ofM
  rw [ofM_testBit, Nat.zero_testBit, Bool.false_or, Bool.eq_iff_iff, List.any_eq_true]
  constructor
  · rintro ⟨t, ht, h⟩
    unfold intsM at ht
    obtain ⟨k, hk, rfl⟩ := List.mem_map.1 ht
    simp only [Bool.and_eq_true, decide_eq_true_eq, Int.toNat_natCast] at h
    rw [h.2]
    exact (mem_listM.1 hk).2
  · intro h
    have hi : i < 64 := by
      refine Decidable.byContradiction fun hn => ?_
      rw [testBit_hi hs i (by omega)] at h
      cases h
    refine ⟨(i : Int), ?_, ?_⟩
    · unfold intsM
      exact List.mem_map.2 ⟨i, mem_listM.2 ⟨hi, h⟩, rfl⟩
    · simp [inSet]
      omega
theorem ints_smallI (s : Nat) : smallI (intsM s) := by
  intro x hx
  unfold intsM at hx
  obtain ⟨k, hk, rfl⟩ := List.mem_map.1 hx
  exact ⟨k, rfl, listM_lt hk⟩
theorem ints_inj {a b : Nat} (ha : a < 18446744073709551616) (hb : b < 18446744073709551616) (h : intsM a = intsM b) : a = b := by
  rw [← ofM_ints a ha, ← ofM_ints b hb, h]
theorem txt_not_minus (l : List Int) (h : smallI l) : txt l ≠ [45] := by
  rw [txt_eq]
  cases l with
  | nil => simp [txtR]
  | cons x l =>
    obtain ⟨k, rfl, hk⟩ := h x (by simp)
    rw [txtR_cons, digits_form k hk]
    have key : ∀ d : Fin 10, UInt8.ofNat (48 + d.val) ≠ 45 := by decide
    intro e
    split at e
    · rename_i h1
      simp only [List.cons_append, List.nil_append, List.cons.injEq] at e
      exact key ⟨k, h1⟩ e.1
    · simp at e
theorem textM_inj {a b : Nat} (ha : a < 18446744073709551616) (hb : b < 18446744073709551616) (h : textM a = textM b) : a = b := by
  unfold textM at h
  split at h <;> split at h
  · omega
  · exact absurd h.symm (txt_not_minus _ (ints_smallI _))
  · exact absurd h (txt_not_minus _ (ints_smallI _))
  · rw [txt_eq, txt_eq] at h
    exact ints_inj ha hb (txtR_inj (ints_smallI _) (ints_smallI _) h)
end Kv
