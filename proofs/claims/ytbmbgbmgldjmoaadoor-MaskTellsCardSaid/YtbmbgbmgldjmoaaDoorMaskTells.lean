/-
  MaskTells holds: for every set and every thread, what the set has, with and without the thread, how many, and its text, is the document's.
-/
import Derived.Test.YtbmbgbmgldjmoaaDoorMaskAlive
import Derived.Test.YtbmbgbmgldjmoaaDoorTabs
import Derived.Test.YtbmbgbmgldjmoaaDoorArgs
namespace Go.Proofs.YtbmbgbmgldjmoaaDoor.maskTells
open Go.ChangeShapes Go.WideShapes Go.ChangeAt Go.RowKit Kv
theorem walk (s : Nat) (t : Int) (hs : s < 18446744073709551616) (w : World) (T : Tabs w) :
    Calls Tryd.prog 9 #[.int .u64 s, .int .i64 t] w fun e w' => e = .returned (.bool true) ∧ Ext w w' := by
  have hlen : (intsM s).length = (listM s).length := by unfold intsM; rw [List.length_map]
  go_enter Tryd.func9, Tryd.ntmps9
  go_wp2_with fail
  refine (alive02 w T).mono ?_
  rintro e w0 ⟨rfl, hx0⟩
  have T0 := T.ext hx0
  have HL := Lib.hid hlen
  clear hlen
  go_wp2_with (first | (go_at_call 39; refine (has_p _ hs _ _).mono ?_; rintro e w' ⟨rfl, rfl⟩) | (go_at_call 40; refine (has_r _ hs _ _).mono ?_; rintro e w' ⟨rfl, rfl⟩) | (go_at_call 41; refine (with_p _ hs _ _).mono ?_; rintro e w' ⟨rfl, rfl⟩) | (go_at_call 42; refine (with_r _ hs _ _).mono ?_; rintro e w' ⟨rfl, rfl⟩) | (go_at_call 43; refine (without_p _ hs _ _).mono ?_; rintro e w' ⟨rfl, rfl⟩) | (go_at_call 44; refine (without_r _ hs _ _).mono ?_; rintro e w' ⟨rfl, rfl⟩) | (go_at_call 35; refine (count_p _ hs _).mono ?_; rintro e w' ⟨rfl, rfl⟩))
  refine (list_r s hs _).mono ?_
  rintro e w1 ⟨v1, rfl, hr1, hx1⟩
  have hI1 := hr1.ints
  obtain ⟨A1, c1, rfl, q1, q2⟩ := hI1.slice
  clear hr1 hI1
  rw [HL.out]
  have hX1 := hx0.trans hx1
  go_wp2_with (first | (go_at_call 46; refine (first_p _ _).mono ?_; rintro e w' ⟨rfl, rfl⟩) | (go_at_call 47; refine (first_r _ _).mono ?_; rintro e w' ⟨rfl, rfl⟩))
  refine (each_l s hs _ (T.ext hX1)).mono ?_
  rintro e w2 ⟨v2, rfl, hr2, hx2⟩
  have hX2 := hX1.trans hx2
  go_wp2_with fail
  refine (list_r s hs _).mono ?_
  rintro e w3 ⟨v3, rfl, hr3, hx3⟩
  have hX3 := hX2.trans hx3
  have hI2 := Lib.hid (hr2.ints.ext hx3)
  have hI3 := Lib.hid hr3.ints
  clear hr2 hr3
  go_wp2_with fail
  refine (ints_r _ _ _ _ _ hI2.out hI3.out).mono ?_
  rintro e w4 ⟨rfl, hD4⟩
  have hX4 := hX3.trans hD4.ext
  rw [show decide (intsM s = intsM s) = true from by simp]
  go_wp2_with fail
  refine (text_any s hs _ (T.ext hX4)).mono ?_
  rintro e w5 ⟨rfl, hx5⟩
  go_wp2_with fail
  refine (text_r s hs _).mono ?_
  rintro e w6 ⟨rfl, hx6⟩
  go_wp2_with fail
  go_ret
  exact ⟨rfl, hX4.trans (hx5.trans hx6)⟩
set_option maxRecDepth 100000 in
theorem main (H : Type) (enc : TypeId × Value → H) (W : World) (base : Nat) (args : Array Value) (ds : List (DataW H)) (p : List MemPlace)
    (hval : ∀ (j : Nat) t v, Tryd.f9.params[j]? = some t → args[j]? = some v → Value.okWide Tryd.prog W .any base t v)
    (hA : DataW.TrodAll enc Tryd.prog W 0 (fun _ => true) true Tryd.f9.params.toList args.toList ds p) (hL : laidMetH Tryd.prog Rows.maskTellsRow.laid W) :
    Calls Tryd.prog 9 args W fun e w' => e = .returned (.bool true) ∧ Ext W w' := by
  rw [Tryd.params9] at hA hval
  obtain ⟨v0, vs0, d0, ds0, p0, q0, hargs, rfl, rfl, h0, r0⟩ := trodAll_cons hA
  obtain ⟨v1, vs1, d1, ds1, p1, q1, rfl, rfl, rfl, h1, r1⟩ := trodAll_cons r0
  obtain ⟨rfl, rfl, rfl⟩ := trodAll_nil r1
  obtain rfl : args = #[v0, v1] := by cases args; simp_all
  obtain ⟨s, rfl, rfl, rfl, ws⟩ := open_int Tryd.underlying51 (hval 0 51 v0 rfl rfl) h0
  obtain ⟨t, rfl, rfl, rfl, wt⟩ := open_int Tryd.underlying3 (hval 1 3 v1 rfl rfl) h1
  have hb := bounds_u64 ws
  obtain ⟨n, rfl⟩ : ∃ n : Nat, s = (n : Int) := ⟨s.toNat, by omega⟩
  exact walk n t (by omega) W (tabs_of hL)
end Go.Proofs.YtbmbgbmgldjmoaaDoor.maskTells
