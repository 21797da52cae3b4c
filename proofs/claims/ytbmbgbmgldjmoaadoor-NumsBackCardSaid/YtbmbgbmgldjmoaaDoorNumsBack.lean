/-
  NumsBack holds: for every five numbers of its struct, what was packed is unpacked, and the greater first part makes the greater whole.
-/
import Derived.Test.YtbmbgbmgldjmoaaDoorNumsLib
import Derived.Test.YtbmbgbmgldjmoaaDoorStructs
import Derived.Test.YtbmbgbmgldjmoaaDoorTabs
namespace Go.Proofs.YtbmbgbmgldjmoaaDoor.numsBack
open Go.ChangeShapes Go.WideShapes Go.ChangeAt Go.RowKit Kv

theorem room_small (t : Int) (ht : 0 ≤ t) (ht' : t ≤ 1048576) : room t = t := by unfold room within; omega
theorem pack_small (a b t : Int) (ha : 0 ≤ a) (ha' : a < 1000000) (hb : 0 ≤ b) (hb' : b ≤ t) (ht' : t ≤ 65535) : packI a b t = a * (t + 1) + b := by
  unfold packI
  rw [room_small a ha (by omega), room_small t (by omega) (by omega), within_id _ _ _ hb hb']
theorem pack_le (a b t : Int) (ha : 0 ≤ a) (ha' : a < 1000000) (hb : 0 ≤ b) (hb' : b ≤ t) (ht' : t ≤ 65535) : 0 ≤ a * (t + 1) + b ∧ a * (t + 1) + b ≤ 65536000000 := by
  have h1 : 0 ≤ a * (t + 1) := Int.mul_nonneg ha (by omega)
  have h2 : a * (t + 1) ≤ 999999 * 65536 := Int.mul_le_mul (by omega) (by omega) (by omega) (by omega)
  omega
theorem unhi_small (a b t : Int) (ha : 0 ≤ a) (ha' : a < 1000000) (hb : 0 ≤ b) (hb' : b ≤ t) (ht' : t ≤ 65535) : unHi (a * (t + 1) + b) t = a := by
  have h := pack_le a b t ha ha' hb hb' ht'
  unfold unHi unX
  rw [within_id _ _ _ h.1 (by omega), room_small t (by omega) (by omega), Int.add_comm, Int.add_mul_ediv_right _ _ (by omega), Int.ediv_eq_zero_of_lt hb (by omega)]
  omega
theorem unlo_small (a b t : Int) (ha : 0 ≤ a) (ha' : a < 1000000) (hb : 0 ≤ b) (hb' : b ≤ t) (ht' : t ≤ 65535) : unLo (a * (t + 1) + b) t = b := by
  have h := pack_le a b t ha ha' hb hb' ht'
  unfold unLo unX
  rw [within_id _ _ _ h.1 (by omega), room_small t (by omega) (by omega), Int.add_comm, Int.add_mul_emod_self_right, Int.emod_eq_of_lt hb (by omega)]
theorem pack_lt (a b c d t : Int) (hb : 0 ≤ b) (hb' : b ≤ t) (hd : 0 ≤ d) (h : a < c) : a * (t + 1) + b < c * (t + 1) + d := by
  have : (a + 1) * (t + 1) ≤ c * (t + 1) := Int.mul_le_mul_of_nonneg_right (by omega) (by omega)
  rw [Int.add_mul] at this
  omega
/-- Behind the calls: two packed numbers, told apart as their parts are. -/
inductive Way (a b c d : Int) : Prop
  | lt (h : a < c)
  | gt (h : c < a)
  | low (h : a = c) (h' : b < d)
  | high (h : a = c) (h' : d < b)
  | same (h : a = c) (h' : b = d)
theorem way (a b c d : Int) : Way a b c d := by
  rcases Int.lt_trichotomy a c with h | h | h
  · exact .lt h
  · rcases Int.lt_trichotomy b d with h' | h' | h'
    · exact .low h h'
    · exact .same h h'
    · exact .high h h'
  · exact .gt h
theorem walk (hi lo hj lp t : Int) (b1 : 0 ≤ hi) (b2 : hi ≤ 4294967295) (b3 : 0 ≤ lo) (b4 : lo ≤ 4294967295) (b5 : 0 ≤ hj) (b6 : hj ≤ 4294967295) (b7 : 0 ≤ lp) (b8 : lp ≤ 4294967295) (ht : 0 ≤ t) (ht' : t ≤ 65535) (w : World) (T : Tabs w) :
    Calls Tryd.prog 5 #[.agg #[.int .u32 hi, .int .u32 lo, .int .u32 hj, .int .u32 lp, .int .u16 t]] w fun e w' => e = .returned (.bool true) ∧ Ext w w' := by
  have c1 : (t + 1 == 0) = false := by rw [beq_eq_false_iff_ne]; omega
  have s1 : IntKind.i64.wrap (t + 1) = t + 1 := IntWalk.i64_in _ (by omega)
  go_enter Tryd.func5, Tryd.ntmps5
  go_wp2_with fail
  go_quiet (fail)
  go_wp2_with fail
  go_quiet (fail)
  go_wp2_with fail
  go_quiet (fail)
  have a1 := Int.emod_nonneg hi (b := 1000000) (by omega)
  have a2 := Int.emod_lt_of_pos hi (b := 1000000) (by omega)
  have a3 := Int.emod_nonneg lo (b := t + 1) (by omega)
  have a4 := Int.emod_lt_of_pos lo (b := t + 1) (by omega)
  have a5 := Int.emod_nonneg hj (b := 1000000) (by omega)
  have a6 := Int.emod_lt_of_pos hj (b := 1000000) (by omega)
  have a7 := Int.emod_nonneg lp (b := t + 1) (by omega)
  have a8 := Int.emod_lt_of_pos lp (b := t + 1) (by omega)
  generalize hi % 1000000 = a at *
  generalize lo % (t + 1) = b at *
  generalize hj % 1000000 = c at *
  generalize lp % (t + 1) = d at *
  clear b1 b2 b3 b4 b5 b6 b7 b8 c1 s1
  have P1 := Lib.hid (pack_small a b t a1 a2 a3 (by omega) ht')
  have P2 := Lib.hid (pack_small c d t a5 a6 a7 (by omega) ht')
  have U1 := Lib.hid (unhi_small a b t a1 a2 a3 (by omega) ht')
  have U2 := Lib.hid (unlo_small a b t a1 a2 a3 (by omega) ht')
  have Y1 := pack_lt a b c d t a3 (by omega) a7
  have Y2 := pack_lt c d a b t a7 (by omega) a3
  have X := way a b c d
  generalize hx : a * (t + 1) + b = x at *
  generalize hy : c * (t + 1) + d = y at *
  have Z1 : a = c → b < d → x < y := by rintro rfl h; omega
  have Z2 : a = c → d < b → y < x := by rintro rfl h; omega
  have Z3 : a = c → b = d → x = y := by rintro rfl rfl; omega
  clear hx hy
  go_wp2_with fail
  refine (pack_p _ _ _ _).mono ?_
  rintro e w' ⟨rfl, rfl⟩
  rw [P1.out]
  go_wp2_with fail
  refine (pack_p _ _ _ _).mono ?_
  rintro e w' ⟨rfl, rfl⟩
  rw [P2.out]
  go_wp2_with fail
  refine (unpack_p _ _ _).mono ?_
  rintro e w1 ⟨rfl, hw1⟩
  rw [U1.out, U2.out]
  have hE : Ext w w1 := Ext.trans (by repeat (first | exact Ext.refl _ | apply Ext.drewN | apply Ext.alloc)) hw1.ext
  have T1 := T.ext hE
  clear hw1
  have fin : Calls Tryd.prog 32 #[] w1 fun e w' => e = .returned (.bool true) ∧ Ext w w' := (alive01 w1 T1).mono fun e w' ⟨h1, h2⟩ => ⟨h1, hE.trans h2⟩
  have F := Lib.hid fin
  clear fin P1 P2 U1 U2 T1
  cases X with
  | lt h =>
    have k1 : (a == c) = false := by rw [beq_eq_false_iff_ne]; omega
    have k2 : (x == y) = false := by rw [beq_eq_false_iff_ne]; have := Y1 h; omega
    have k3 : decide (x < y) = true := by have := Y1 h; simp; omega
    have k4 : decide (a < c) = true := by simp; omega
    clear Y1 Y2 Z1 Z2 Z3
    go_wp2_with fail
    refine F.out.mono ?_
    rintro e w' ⟨rfl, hx⟩
    go_wp2_with fail
    go_ret
    exact ⟨rfl, hx⟩
  | gt h =>
    have k1 : (a == c) = false := by rw [beq_eq_false_iff_ne]; omega
    have k2 : (x == y) = false := by rw [beq_eq_false_iff_ne]; have := Y2 h; omega
    have k3 : decide (x < y) = false := by have := Y2 h; simp; omega
    have k4 : decide (a < c) = false := by simp; omega
    clear Y1 Y2 Z1 Z2 Z3
    go_wp2_with fail
    refine F.out.mono ?_
    rintro e w' ⟨rfl, hx⟩
    go_wp2_with fail
    go_ret
    exact ⟨rfl, hx⟩
  | low h h' =>
    have z := Z1 h h'
    have k1 : (a == c) = true := by rw [beq_iff_eq]; omega
    have k2 : (x == y) = false := by rw [beq_eq_false_iff_ne]; omega
    have k3 : decide (x < y) = true := by simp; omega
    have k4 : decide (a < c) = false := by simp; omega
    have k5 : (b == d) = false := by rw [beq_eq_false_iff_ne]; omega
    have k6 : decide (b < d) = true := by simp; omega
    clear h
    clear Y1 Y2 Z1 Z2 Z3
    go_wp2_with fail
    refine F.out.mono ?_
    rintro e w' ⟨rfl, hx⟩
    go_wp2_with fail
    go_ret
    exact ⟨rfl, hx⟩
  | high h h' =>
    have z := Z2 h h'
    have k1 : (a == c) = true := by rw [beq_iff_eq]; omega
    have k2 : (x == y) = false := by rw [beq_eq_false_iff_ne]; omega
    have k3 : decide (x < y) = false := by simp; omega
    have k4 : decide (a < c) = false := by simp; omega
    have k5 : (b == d) = false := by rw [beq_eq_false_iff_ne]; omega
    have k6 : decide (b < d) = false := by simp; omega
    clear h
    clear Y1 Y2 Z1 Z2 Z3
    go_wp2_with fail
    refine F.out.mono ?_
    rintro e w' ⟨rfl, hx⟩
    go_wp2_with fail
    go_ret
    exact ⟨rfl, hx⟩
  | same h h' =>
    have z := Z3 h h'
    have k1 : (a == c) = true := by rw [beq_iff_eq]; omega
    have k2 : (x == y) = true := by rw [beq_iff_eq]; omega
    have k3 : decide (x < y) = false := by simp; omega
    have k4 : decide (a < c) = false := by simp; omega
    have k5 : (b == d) = true := by rw [beq_iff_eq]; omega
    have k6 : decide (b < d) = false := by simp; omega
    clear h h' z
    clear Y1 Y2 Z1 Z2 Z3
    go_wp2_with fail
    refine F.out.mono ?_
    rintro e w' ⟨rfl, hx⟩
    go_wp2_with fail
    go_ret
    exact ⟨rfl, hx⟩
set_option maxRecDepth 100000 in
theorem main (H : Type) (enc : TypeId × Value → H) (W : World) (base : Nat) (args : Array Value) (ds : List (DataW H)) (p : List MemPlace)
    (hval : ∀ (j : Nat) t v, Tryd.f5.params[j]? = some t → args[j]? = some v → Value.okWide Tryd.prog W .any base t v)
    (hA : DataW.TrodAll enc Tryd.prog W 0 (fun _ => true) true Tryd.f5.params.toList args.toList ds p) (hL : laidMetH Tryd.prog Rows.numsBackRow.laid W) :
    Calls Tryd.prog 5 args W fun e w' => e = .returned (.bool true) ∧ Ext W w' := by
  rw [Tryd.params5] at hA hval
  obtain ⟨v0, vs0, d0, ds0, p0, q0, hargs, rfl, rfl, h0, r0⟩ := trodAll_cons hA
  obtain ⟨rfl, rfl, rfl⟩ := trodAll_nil r0
  obtain rfl : args = #[v0] := by cases args; simp_all
  obtain ⟨c0, c1, c2, c3, c4, y0, y1, y2, y3, y4, m, rfl, rfl, rfl, g0, g1, g2, g3, g4⟩ := open_agg5 Tryd.underlying48 (by kernel_rfl) (by kernel_rfl) (hval 0 48 v0 rfl rfl) h0
  obtain ⟨x0, e0, rfl, w0⟩ := DataW.trod_int Tryd.underlying45 g0
  obtain ⟨x1, e1, rfl, w1⟩ := DataW.trod_int Tryd.underlying45 g1
  obtain ⟨x2, e2, rfl, w2⟩ := DataW.trod_int Tryd.underlying45 g2
  obtain ⟨x3, e3, rfl, w3⟩ := DataW.trod_int Tryd.underlying45 g3
  obtain ⟨x4, e4, rfl, w4⟩ := DataW.trod_int Tryd.underlying46 g4
  simp at e0 e1 e2 e3 e4
  subst e0 e1 e2 e3 e4
  have f0 := bounds_u32 w0
  have f1 := bounds_u32 w1
  have f2 := bounds_u32 w2
  have f3 := bounds_u32 w3
  have f4 := bounds_u16 w4
  exact walk x0 x1 x2 x3 x4 f0.1 f0.2 f1.1 f1.2 f2.1 f2.2 f3.1 f3.2 f4.1 f4.2 W (tabs_of hL)
end Go.Proofs.YtbmbgbmgldjmoaaDoor.numsBack
