/-
  NumsRound holds: for every int32 and uint16, wrapped numbers go round and clamped ones stay where they are within.
-/
import Derived.Test.YtbmbgbmgldjmoaaDoorNumsLib
import Derived.Test.YtbmbgbmgldjmoaaDoorTabs
namespace Go.Proofs.YtbmbgbmgldjmoaaDoor.numsRound
open Go.ChangeShapes Go.WideShapes Go.ChangeAt Go.RowKit Kv

theorem wrap_small (n t : Int) (ht : 0 ≤ t) (ht' : t ≤ 65535) : wrapI n t = n % (t + 1) := by
  unfold wrapI
  rw [clamp_word, within_id _ _ _ ht (by omega)]
theorem walk (n t : Int) (hn : -2147483648 ≤ n) (hn' : n ≤ 2147483647) (ht : 0 ≤ t) (ht' : t ≤ 65535) (w : World) (T : Tabs w) :
    Calls Tryd.prog 6 #[.int .i32 n, .int .u16 t] w fun e w' => e = .returned (.bool true) ∧ Ext w w' := by
  have e1 := wrap_small n t ht ht'
  have e2 : wrapI (n + 1) t = (wrapI n t + 1) % (t + 1) := by rw [wrap_small _ _ ht ht', e1, Int.emod_add_emod]
  have e3 : wrapI (n + t + 1) t = wrapI n t := by rw [wrap_small _ _ ht ht', e1, Int.add_assoc, Int.add_emod_right]
  have b1 := Int.emod_nonneg n (b := t + 1) (by omega)
  have b2 := Int.emod_lt_of_pos n (b := t + 1) (by omega)
  rw [← e1] at b1 b2
  have E2 := Lib.hid e2
  have E3 := Lib.hid e3
  have E4 := Lib.hid (clamp_eq n t ht (by omega))
  clear e1 e2 e3
  have c1 : (t + 1 == 0) = false := by rw [beq_eq_false_iff_ne]; omega
  have c2 : decide (wrapI n t < 0) = false := by simp; omega
  have c3 : decide (t < wrapI n t) = false := by simp; omega
  go_enter Tryd.func6, Tryd.ntmps6
  go_wp2_with fail
  refine (wrap_p _ _ _).mono ?_
  rintro e w' ⟨rfl, rfl⟩
  go_wp2_with fail
  refine (wrap_p _ _ _).mono ?_
  rintro e w' ⟨rfl, rfl⟩
  rw [E2.out]
  go_wp2_with fail
  refine (wrap_p _ _ _).mono ?_
  rintro e w' ⟨rfl, rfl⟩
  rw [E3.out]
  go_wp2_with fail
  refine (clamp_p _ _ _).mono ?_
  rintro e w' ⟨rfl, rfl⟩
  rw [E4.out]
  by_cases h0 : n < 0
  · rw [show within n 0 t = 0 from by unfold within; omega]
    have d1 : (0 == n) = false := by rw [beq_eq_false_iff_ne]; omega
    have d2 : decide (0 ≤ n) = false := by simp; omega
    go_wp2_with fail
    refine (alive01 _ T).mono ?_
    rintro e w' ⟨rfl, hx⟩
    go_wp2_with fail
    go_ret
    exact ⟨rfl, hx⟩
  · by_cases h1 : t < n
    · rw [show within n 0 t = t from by unfold within; omega]
      have d1 : (t == n) = false := by rw [beq_eq_false_iff_ne]; omega
      have d2 : decide (0 ≤ n) = true := by simp; omega
      have d3 : decide (n ≤ t) = false := by simp; omega
      go_wp2_with fail
      refine (alive01 _ T).mono ?_
      rintro e w' ⟨rfl, hx⟩
      go_wp2_with fail
      go_ret
      exact ⟨rfl, hx⟩
    · rw [show within n 0 t = n from by unfold within; omega]
      have d2 : decide (0 ≤ n) = true := by simp; omega
      have d3 : decide (n ≤ t) = true := by simp; omega
      go_wp2_with fail
      refine (alive01 _ T).mono ?_
      rintro e w' ⟨rfl, hx⟩
      go_wp2_with fail
      go_ret
      exact ⟨rfl, hx⟩
set_option maxRecDepth 100000 in
theorem main (H : Type) (enc : TypeId × Value → H) (W : World) (base : Nat) (args : Array Value) (ds : List (DataW H)) (p : List MemPlace)
    (hval : ∀ (j : Nat) t v, Tryd.f6.params[j]? = some t → args[j]? = some v → Value.okWide Tryd.prog W .any base t v)
    (hA : DataW.TrodAll enc Tryd.prog W 0 (fun _ => true) true Tryd.f6.params.toList args.toList ds p) (hL : laidMetH Tryd.prog Rows.numsRoundRow.laid W) :
    Calls Tryd.prog 6 args W fun e w' => e = .returned (.bool true) ∧ Ext W w' := by
  rw [Tryd.params6] at hA hval
  obtain ⟨v0, vs0, d0, ds0, p0, q0, hargs, rfl, rfl, h0, r0⟩ := trodAll_cons hA
  obtain ⟨v1, vs1, d1, ds1, p1, q1, rfl, rfl, rfl, h1, r1⟩ := trodAll_cons r0
  obtain ⟨rfl, rfl, rfl⟩ := trodAll_nil r1
  obtain rfl : args = #[v0, v1] := by cases args; simp_all
  obtain ⟨n, rfl, rfl, rfl, wn⟩ := open_int Tryd.underlying21 (hval 0 21 v0 rfl rfl) h0
  obtain ⟨t, rfl, rfl, rfl, wt⟩ := open_int Tryd.underlying46 (hval 1 46 v1 rfl rfl) h1
  exact walk n t (bounds_i32 wn).1 (bounds_i32 wn).2 (bounds_u16 wt).1 (bounds_u16 wt).2 W (tabs_of hL)
end Go.Proofs.YtbmbgbmgldjmoaaDoor.numsRound
