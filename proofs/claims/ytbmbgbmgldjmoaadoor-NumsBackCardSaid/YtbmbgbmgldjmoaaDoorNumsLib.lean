/-
  Layer 1: the two functions that call the library (levels, digits), and the chapter's examples.
-/
import Derived.Test.YtbmbgbmgldjmoaaDoorNums
import Derived.Test.YtbmbgbmgldjmoaaDoorExt
namespace Go.Proofs.YtbmbgbmgldjmoaaDoor
open Go.RowKit Kv
theorem levels_p (n : Int) (hn : n ≤ 9223372036854775807) (w : World) :
    Calls Tryd.prog 28 #[.int .i64 n] w fun e w' => e = .returned (.int .i64 (levels n)) ∧ w = w' := by
  by_cases h1 : n ≤ 1
  · have H := Lib.hid (levels_small n h1)
    go_enter Tryd.func28, Tryd.ntmps28
    go_wp2
    go_ret
    exact ⟨ret_int (by rw [H.out]; rfl), rfl⟩
  · have H := Lib.hid (levels_bitLen n (by omega))
    rw [show (n - 1).toNat = n.toNat - 1 from by omega] at H
    go_enter Tryd.func28, Tryd.ntmps28
    go_wp2_with (go_at_call 80; refine (Tryd.bits_Len64 _ _ (by omega) (by omega)).mono ?_; rintro e w' ⟨rfl, rfl⟩)
    go_ret
    exact ⟨ret_int (by rw [H.out]), rfl⟩
theorem digits_p (n : Int) (hn : -9223372036854775808 ≤ n) (hn' : n ≤ 9223372036854775807) (w : World) (T : Tabs w) :
    Calls Tryd.prog 30 #[.int .i64 n] w fun e w' => e = .returned (.string ⟨(digits n).toArray⟩) ∧ Ext w w' := by
  have ht := Lib.hid T.pow10
  clear T
  go_enter Tryd.func30, Tryd.ntmps30
  go_wp2_with (go_at_call 81; refine (Tryd.strconv_Itoa _ hn hn' _ ht.out).mono ?_; rintro e w' ⟨rfl, k, os, rfl⟩)
  go_ret
  exact ⟨rfl, (Ext.refl _).grow _ _⟩
theorem lev5 : levels 5 = 3 := by decide
theorem dig40 : digits (-40) = [45, 52, 48] := by
  unfold digits Go.Lib.itoa
  rw [if_pos (by omega), show (-40 : Int).natAbs = 40 from rfl, decDigits_step 40 (by omega), decDigits_one (40 / 10) (by omega)]
  decide
theorem alive01 (w : World) (T : Tabs w) :
    Calls Tryd.prog 32 #[] w fun e w' => e = .returned (.bool true) ∧ Ext w w' := by
  go_enter Tryd.func32, Tryd.ntmps32
  go_wp2_with fail
  refine (unpack_p _ _ _).mono ?_
  rintro e w1 ⟨rfl, hw1⟩
  rw [show unHi 9 3 = 2 from by decide, show unLo 9 3 = 1 from by decide]
  have T1 := T.ext hw1.ext
  go_wp2_with fail
  refine (wrap_p _ _ _).mono ?_
  rintro e w' ⟨rfl, rfl⟩
  rw [show wrapI (-1) 3 = 3 from by decide]
  go_wp2_with fail
  refine (pack_p _ _ _ _).mono ?_
  rintro e w' ⟨rfl, rfl⟩
  rw [show packI 2 1 3 = 9 from by decide]
  go_wp2_with fail
  refine (levels_p _ (by omega) _).mono ?_
  rintro e w' ⟨rfl, rfl⟩
  rw [lev5]
  go_wp2_with fail
  refine (digits_p _ (by omega) (by omega) _ T1).mono ?_
  rintro e w2 ⟨rfl, hw2⟩
  rw [dig40]
  go_wp2_with fail
  refine (clamp_p _ _ _).mono ?_
  rintro e w' ⟨rfl, rfl⟩
  rw [show clamp 9 4 = 4 from by decide]
  go_wp2_with fail
  go_ret
  exact ⟨rfl, hw1.ext.trans hw2⟩
end Go.Proofs.YtbmbgbmgldjmoaaDoor
