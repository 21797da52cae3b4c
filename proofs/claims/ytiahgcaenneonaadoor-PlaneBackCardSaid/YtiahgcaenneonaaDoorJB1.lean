/-
  Layer 4 (plane): points, tidied, compared, multiplied; their norms.
-/
import Derived.Test.YtiahgcaenneonaaDoorJB0
import Derived.Maps.AppendAt
import Derived.Lib.TrailingZeros
import Derived.Deep.QuietTactic
import Derived.BigQuiet
import Derived.RangeFuncNested
import Derived.RangeFuncBound
import Derived.RangeFuncCalls
import Derived.RangeFuncLeaves
import Derived.Shelf.Abstract
import Derived.OwnWalkIn
import Derived.TacticsInMore
import Derived.LoopNIn
import Derived.LoopIn
import Derived.RangeFuncBox
import Derived.RangeFuncFrom
import Derived.RangeFuncWrites
import Derived.Lib.ItoaLen
import Derived.Deep.DeepCutAuto
/-
  Layer 4 (plane): points, tidied, compared, multiplied; their norms.
-/
namespace Go.Proofs.YtiahgcaenneonaaDoor
open Go.RowKit Kv
theorem pt_bd (a b : Nat) : -1048576 ≤ ptX (ptOf a b) ∧ ptX (ptOf a b) ≤ 1048576 ∧ -1048576 ≤ ptY (ptOf a b) ∧ ptY (ptOf a b) ≤ 1048576 := by
  unfold ptOf
  cases ha : partOf a with
  | none => simp [ptX, ptY]
  | some x =>
    cases hb : partOf b with
    | none => simp [ptX, ptY]
    | some y =>
      have h1 := partOf_some ha
      have h2 := partOf_some hb
      exact ⟨h1.2.1, h1.2.2, h2.2.1, h2.2.2⟩
theorem clampR_id {x : Int} (h1 : -1048576 ≤ x) (h2 : x ≤ 1048576) : clampR x = x := by unfold clampR; omega
theorem clampR_bd (x : Int) : -1048576 ≤ clampR x ∧ clampR x ≤ 1048576 := by unfold clampR; omega
theorem tidy_p (a b : Nat) (w : World) :
    Calls Tryd.prog 54 #[.complex .f64 a b] w fun e w' => e = .returned (.tuple #[.complex .f64 (floatOfInt .f64 (ptX (ptOf a b))) (floatOfInt .f64 (ptY (ptOf a b))), .bool (ptOf a b).isSome]) ∧ w = w' := by
  obtain ⟨h1, h2, h3, h4⟩ := pt_bd a b
  go_enter Tryd.func54, Tryd.ntmps54
  go_wp2_with fail
  refine (parts_p a b _).mono ?_
  rintro e w' ⟨rfl, rfl⟩
  go_wp2_with fail
  refine (at_p _ _ _).mono ?_
  rintro e w' ⟨rfl, rfl⟩
  rw [clampR_id h1 h2, clampR_id h3 h4]
  go_wp2_with fail
  go_ret2
  exact ⟨rfl, rfl⟩
theorem within4_r (n : Int) (w : World) :
    Calls Tryd.prog 58 #[.int .i64 n] w fun e w' => e = .returned (.int .i64 (clampR n)) ∧ w = w' := by
  unfold clampR
  go_enter Tryd.func58, Tryd.ntmps58
  go_wp2
  all_goals go_ret
  all_goals exact ⟨ret_int (by omega), rfl⟩
theorem at_r (x y : Int) (w : World) :
    Calls Tryd.prog 31 #[.int .i64 x, .int .i64 y] w fun e w' => e = .returned (.agg #[.int .i64 (clampR x), .int .i64 (clampR y), .bool true]) ∧ Ext w w' := by
  go_enter Tryd.func31, Tryd.ntmps31
  go_wp2_with (go_at_call 58; refine (within4_r _ _).mono ?_; rintro e w' ⟨rfl, rfl⟩)
  refine bodyPost_ret (v := .agg #[.int .i64 (clampR x), .int .i64 (clampR y), .bool true]) (by simp [results, Tryd.results31, go_sem]) rfl ?_
  exact ⟨rfl, (Ext.refl _).alloc _⟩
def inR (x : Int) : Bool := decide (clampR x = x)
def inR2 (x y : Int) : Bool := inR x && inR y
theorem right_r (x y : Int) (w : World) :
    Calls Tryd.prog 57 #[.int .i64 x, .int .i64 y] w fun e w' => e = .returned (.bool (inR2 x y)) ∧ w = w' := by
  unfold inR2 inR
  by_cases hx : clampR x = x
  · have e1 : (clampR x == x) = true := by rw [beq_iff_eq]; exact hx
    have e2 : decide (clampR y = y) = (clampR y == y) := by rw [Bool.eq_iff_iff]; simp
    rw [decide_eq_true hx, e2, Bool.true_and]
    clear hx
    go_enter Tryd.func57, Tryd.ntmps57
    go_wp2_with (go_at_call 58; refine (within4_r _ _).mono ?_; rintro e w' ⟨rfl, rfl⟩)
    go_ret
    exact ⟨rfl, rfl⟩
  · have e1 : (clampR x == x) = false := by rw [beq_eq_false_iff_ne]; exact hx
    rw [decide_eq_false hx, Bool.false_and]
    clear hx
    go_enter Tryd.func57, Tryd.ntmps57
    go_wp2_with (go_at_call 58; refine (within4_r _ _).mono ?_; rintro e w' ⟨rfl, rfl⟩)
    go_ret
    exact ⟨rfl, rfl⟩
theorem w0 : floatOfInt .f64 0 = 0 := by decide +kernel
theorem isx_r (x y : Int) (ok : Bool) (h1 : -1048576 ≤ x) (h2 : x ≤ 1048576) (h3 : -1048576 ≤ y) (h4 : y ≤ 1048576) (w : World) :
    Calls Tryd.prog 53 #[.float .f64 (floatOfInt .f64 x), .float .f64 (floatOfInt .f64 y), .agg #[.int .i64 x, .int .i64 y, .bool ok]] w fun e w' => e = .returned (.bool true) ∧ Ext w w' := by
  have n0 : Num 0 (0 * U) := by rw [← w0]; exact num_F 0 (by omega) (by omega)
  have nx := num_F x (by omega) (by omega)
  have ny := num_F y (by omega) (by omega)
  have c1 := neB nx nx
  have c2 := neB ny ny
  rw [decide_eq_false (by simp)] at c1 c2
  have hdiv : ∀ W, (binOp .quo 51 (.float .f64 4607182418800017408) (.float .f64 0)).run Tryd.prog W = .ok (.float .f64 9218868437227405312) W := fun W => run_float_arith W .quo _ _ _ _ _ (by decide +kernel)
  have hinf : (FloatKind.f64.format.order 9218868437227405312 0 == some Ordering.gt) = true := by decide +kernel
  have hw0 := w0
  by_cases hx : x = 0
  · subst hx
    have z1 := neB n0 n0
    rw [decide_eq_false (by simp)] at z1
    rw [w0]
    by_cases hy : y = 0
    · subst hy
      rw [w0]
      clear nx ny n0 c1 c2
      go_enter Tryd.func53, Tryd.ntmps53
      go_wp2_with fail
      go_ret
      exact ⟨rfl, (Ext.refl _).alloc _⟩
    · have z2 := neB ny n0
      rw [decide_eq_true (show y * (U : Int) ≠ 0 * (U : Int) from fun h => hy (mulU_inj h))] at z2
      clear nx ny n0 c1
      go_enter Tryd.func53, Tryd.ntmps53
      go_wp2_with fail
      go_ret
      exact ⟨rfl, (Ext.refl _).alloc _⟩
  · have z1 := neB nx n0
    rw [decide_eq_true (show x * (U : Int) ≠ 0 * (U : Int) from fun h => hx (mulU_inj h))] at z1
    by_cases hy : y = 0
    · subst hy
      have z2 := neB n0 n0
      rw [decide_eq_false (by simp)] at z2
      rw [w0]
      clear nx ny n0 c2
      go_enter Tryd.func53, Tryd.ntmps53
      go_wp2_with fail
      go_ret
      exact ⟨rfl, (Ext.refl _).alloc _⟩
    · have z2 := neB ny n0
      rw [decide_eq_true (show y * (U : Int) ≠ 0 * (U : Int) from fun h => hy (mulU_inj h))] at z2
      clear nx ny n0
      go_enter Tryd.func53, Tryd.ntmps53
      go_wp2_with fail
      go_ret
      exact ⟨rfl, (Ext.refl _).alloc _⟩
theorem is_l (x y : Int) (ok : Bool) (h1 : -1048576 ≤ x) (h2 : x ≤ 1048576) (h3 : -1048576 ≤ y) (h4 : y ≤ 1048576) (w : World) :
    Calls Tryd.prog 20 #[.complex .f64 (floatOfInt .f64 x) (floatOfInt .f64 y), .agg #[.int .i64 x, .int .i64 y, .bool ok]] w fun e w' => e = .returned (.bool true) ∧ Ext w w' := by
  go_enter Tryd.func20, Tryd.ntmps20
  go_wp2_with fail
  refine (isx_r x y ok h1 h2 h3 h4 _).mono ?_
  rintro e w' ⟨rfl, hx⟩
  go_wp2_with fail
  go_ret
  exact ⟨rfl, ((Ext.refl _).alloc _).trans hx⟩
def normM (p : Option (Int × Int)) : Int := match p with | some (x, y) => x * x + y * y | none => -1
theorem sq_bd {x : Int} (h1 : -1048576 ≤ x) (h2 : x ≤ 1048576) : 0 ≤ x * x ∧ x * x ≤ 1099511627776 := by
  constructor
  · have := Int.natAbs_mul_self (a := x)
    omega
  · have := Int.mul_le_mul (a := (x.natAbs : Int)) (b := x.natAbs) (c := 1048576) (d := 1048576) (by omega) (by omega) (by omega) (by omega)
    rw [← Int.natCast_mul, Int.natAbs_mul_self] at this
    omega
theorem norm_p (a b : Nat) (w : World) :
    Calls Tryd.prog 23 #[.complex .f64 a b] w fun e w' => e = .returned (.int .i64 (normM (ptOf a b))) ∧ w = w' := by
  have hP := parts_p a b
  obtain ⟨h1, h2, h3, h4⟩ := pt_bd a b
  generalize ptOf a b = p at *
  cases p with
  | none =>
    go_enter Tryd.func23, Tryd.ntmps23
    go_wp2_with fail
    refine (hP _).mono ?_
    rintro e w' ⟨rfl, rfl⟩
    go_wp2_with fail
    go_ret
    exact ⟨rfl, rfl⟩
  | some q =>
    obtain ⟨x, y⟩ := q
    have q1 := sq_bd h1 h2
    have q2 := sq_bd h3 h4
    simp only [ptX, ptY] at *
    go_enter Tryd.func23, Tryd.ntmps23
    go_wp2_with fail
    refine (hP _).mono ?_
    rintro e w' ⟨rfl, rfl⟩
    go_wp2_with fail
    go_ret
    exact ⟨rfl, rfl⟩
theorem norm_r (p : Option (Int × Int)) (h1 : -1048576 ≤ ptX p) (h2 : ptX p ≤ 1048576) (h3 : -1048576 ≤ ptY p) (h4 : ptY p ≤ 1048576) (w : World) :
    Calls Tryd.prog 24 #[.agg #[.int .i64 (ptX p), .int .i64 (ptY p), .bool p.isSome]] w fun e w' => e = .returned (.int .i64 (normM p)) ∧ Ext w w' := by
  cases p with
  | none =>
    go_enter Tryd.func24, Tryd.ntmps24
    go_wp2_with fail
    go_ret
    exact ⟨rfl, (Ext.refl _).alloc _⟩
  | some q =>
    obtain ⟨x, y⟩ := q
    have q1 := sq_bd h1 h2
    have q2 := sq_bd h3 h4
    simp only [ptX, ptY] at *
    go_enter Tryd.func24, Tryd.ntmps24
    go_wp2_with fail
    go_ret
    exact ⟨rfl, (Ext.refl _).alloc _⟩
end Go.Proofs.YtiahgcaenneonaaDoor
/-
  Layer 4 (plane): points multiplied and turned.
-/
namespace Go.Proofs.YtiahgcaenneonaaDoor
open Go.RowKit Kv
/-- Products of points. -/
def timesM (p q : Option (Int × Int)) : Option (Int × Int) :=
  match p, q with
  | some (x, y), some (v, w) => if inR2 (x * v - y * w) (x * w + y * v) then some (x * v - y * w, x * w + y * v) else none
  | _, _ => none
theorem mul_bd {x y : Int} (h1 : -1048576 ≤ x) (h2 : x ≤ 1048576) (h3 : -1048576 ≤ y) (h4 : y ≤ 1048576) : -1099511627776 ≤ x * y ∧ x * y ≤ 1099511627776 := by
  have h := Int.mul_le_mul (a := (x.natAbs : Int)) (b := y.natAbs) (c := 1048576) (d := 1048576) (by omega) (by omega) (by omega) (by omega)
  rw [← Int.natCast_mul, ← Int.natAbs_mul] at h
  omega
theorem inR_iff (x : Int) : inR x = true ↔ -1048576 ≤ x ∧ x ≤ 1048576 := by
  unfold inR clampR
  rw [decide_eq_true_iff]
  omega
theorem partOf_wide {x : Nat} {n : Int} (h : Num x (n * U)) : partOf x = if inR n then some n else none := by
  by_cases hn : inR n = true
  · rw [if_pos hn]
    exact partOf_whole h ((inR_iff n).1 hn).1 ((inR_iff n).1 hn).2
  · rw [if_neg hn, partOf_num h, if_neg]
    rintro ⟨_, a, b⟩
    exact hn ((inR_iff n).2 ⟨le_of_mulU a, le_of_mulU b⟩)
theorem cmul {a b c d : Nat} {x y v w : Int} (ha : Num a (x * U)) (hb : Num b (y * U)) (hc : Num c (v * U)) (hd : Num d (w * U))
    (h1 : -1048576 ≤ x) (h2 : x ≤ 1048576) (h3 : -1048576 ≤ y) (h4 : y ≤ 1048576) (h5 : -1048576 ≤ v) (h6 : v ≤ 1048576) (h7 : -1048576 ≤ w) (h8 : w ≤ 1048576) :
    ∃ re im, cMulBits a b c d = some (re, im) ∧ Num re ((x * v - y * w) * U) ∧ Num im ((x * w + y * v) * U) := by
  have e1 := mul_bd h1 h2 h5 h6
  have e2 := mul_bd h3 h4 h7 h8
  have e3 := mul_bd h1 h2 h7 h8
  have e4 := mul_bd h3 h4 h5 h6
  obtain ⟨r1, f1, n1⟩ := mul_num ha hc (by omega) (by omega)
  obtain ⟨r2, f2, n2⟩ := mul_num hb hd (by omega) (by omega)
  obtain ⟨r3, f3, n3⟩ := sub_num n1 n2 (by omega) (by omega)
  obtain ⟨r4, f4, n4⟩ := mul_num ha hd (by omega) (by omega)
  obtain ⟨r5, f5, n5⟩ := mul_num hb hc (by omega) (by omega)
  obtain ⟨r6, f6, n6⟩ := add_num n4 n5 (by omega) (by omega)
  refine ⟨r3, r6, ?_, n3, n6⟩
  have g1 : floatBits .mul .f64 a c = some r1 := f1
  have g2 : floatBits .mul .f64 b d = some r2 := f2
  have g3 : floatBits .sub .f64 r1 r2 = some r3 := f3
  have g4 : floatBits .mul .f64 a d = some r4 := f4
  have g5 : floatBits .mul .f64 b c = some r5 := f5
  have g6 : floatBits .add .f64 r4 r5 = some r6 := f6
  unfold cMulBits
  rw [g1, Option.bind_some, g2, Option.bind_some, g3, Option.bind_some, g4, Option.bind_some, g5, Option.bind_some, g6]
  rfl
theorem ptOf_some {a b : Nat} {x y : Int} (h : ptOf a b = some (x, y)) : Num a (x * U) ∧ Num b (y * U) := by
  unfold ptOf at h
  cases ha : partOf a with
  | none => rw [ha] at h; cases h
  | some x' =>
    cases hb : partOf b with
    | none => rw [ha, hb] at h; cases h
    | some y' =>
      rw [ha, hb] at h
      cases h
      exact ⟨(partOf_some ha).1, (partOf_some hb).1⟩
theorem times_p (a b c d : Nat) (w : World) :
    Calls Tryd.prog 27 #[.complex .f64 a b, .complex .f64 c d] w fun e w' => e = .returned (.tuple #[.complex .f64 (floatOfInt .f64 (ptX (timesM (ptOf a b) (ptOf c d)))) (floatOfInt .f64 (ptY (timesM (ptOf a b) (ptOf c d)))), .bool (timesM (ptOf a b) (ptOf c d)).isSome]) ∧ w = w' := by
  have hA := tidy_p a b
  have hB := tidy_p c d
  obtain ⟨h1, h2, h3, h4⟩ := pt_bd a b
  obtain ⟨h5, h6, h7, h8⟩ := pt_bd c d
  cases hp : ptOf a b with
  | none =>
    rw [hp] at hA
    have hw0 := w0
    clear h1 h2 h3 h4 h5 h6 h7 h8
    generalize ptOf c d = q at *
    simp only [timesM]
    go_enter Tryd.func27, Tryd.ntmps27
    go_wp2_with fail
    refine (hA _).mono ?_
    rintro e w' ⟨rfl, rfl⟩
    go_wp2_with fail
    refine (hB _).mono ?_
    rintro e w' ⟨rfl, rfl⟩
    go_wp2_with fail
    go_ret2
    exact ⟨by simp [ptX, ptY, w0], rfl⟩
  | some p =>
    obtain ⟨x, y⟩ := p
    cases hq : ptOf c d with
    | none =>
      rw [hp] at hA
      rw [hq] at hB
      clear h1 h2 h3 h4 h5 h6 h7 h8
      simp only [timesM]
      go_enter Tryd.func27, Tryd.ntmps27
      go_wp2_with fail
      refine (hA _).mono ?_
      rintro e w' ⟨rfl, rfl⟩
      go_wp2_with fail
      refine (hB _).mono ?_
      rintro e w' ⟨rfl, rfl⟩
      go_wp2_with fail
      go_ret2
      exact ⟨by simp [ptX, ptY, w0], rfl⟩
    | some q =>
      obtain ⟨v, u⟩ := q
      rw [hp] at hA h1 h2 h3 h4
      rw [hq] at hB h5 h6 h7 h8
      obtain ⟨na, nb⟩ := ptOf_some hp
      obtain ⟨nc, nd⟩ := ptOf_some hq
      obtain ⟨re, im, hm, nr, ni⟩ := cmul na nb nc nd h1 h2 h3 h4 h5 h6 h7 h8
      have hT := tidy_p re im
      have he : ptOf re im = timesM (some (x, y)) (some (v, u)) := by
        unfold ptOf timesM
        rw [partOf_wide nr, partOf_wide ni]
        cases g1 : inR (x * v - y * u) <;> cases g2 : inR (x * u + y * v) <;> simp [inR2, g1, g2]
      rw [he] at hT
      have hmul := fun W => run_complex_mul (P := Tryd.prog) W 54 a b c d re im hm
      clear h1 h2 h3 h4 h5 h6 h7 h8 na nb nc nd nr ni hm he
      go_enter Tryd.func27, Tryd.ntmps27
      go_wp2_with fail
      refine (hA _).mono ?_
      rintro e w' ⟨rfl, rfl⟩
      go_wp2_with fail
      refine (hB _).mono ?_
      rintro e w' ⟨rfl, rfl⟩
      go_wp2_with fail
      refine (hT _).mono ?_
      rintro e w' ⟨rfl, rfl⟩
      go_wp2_with fail
      go_ret2
      exact ⟨rfl, rfl⟩
theorem times_r (p q : Option (Int × Int)) (h1 : -1048576 ≤ ptX p) (h2 : ptX p ≤ 1048576) (h3 : -1048576 ≤ ptY p) (h4 : ptY p ≤ 1048576)
    (h5 : -1048576 ≤ ptX q) (h6 : ptX q ≤ 1048576) (h7 : -1048576 ≤ ptY q) (h8 : ptY q ≤ 1048576) (w : World) :
    Calls Tryd.prog 28 #[.agg #[.int .i64 (ptX p), .int .i64 (ptY p), .bool p.isSome], .agg #[.int .i64 (ptX q), .int .i64 (ptY q), .bool q.isSome]] w fun e w' =>
      e = .returned (.agg #[.int .i64 (ptX (timesM p q)), .int .i64 (ptY (timesM p q)), .bool (timesM p q).isSome]) ∧ Ext w w' := by
  have e1 := mul_bd h1 h2 h5 h6
  have e2 := mul_bd h3 h4 h7 h8
  have e3 := mul_bd h1 h2 h7 h8
  have e4 := mul_bd h3 h4 h5 h6
  cases p with
  | none =>
    simp only [timesM]
    generalize ptX q = v at *
    generalize ptY q = u at *
    generalize q.isSome = ok at *
    clear h1 h2 h3 h4 h5 h6 h7 h8
    simp only [ptX, ptY] at *
    go_enter Tryd.func28, Tryd.ntmps28
    go_wp2_with fail
    refine bodyPost_ret (v := .agg #[.int .i64 0, .int .i64 0, .bool false]) (by simp [results, Tryd.results28, go_sem]) rfl ?_
    exact ⟨rfl, (((Ext.refl _).alloc _).alloc _).alloc _⟩
  | some p =>
    obtain ⟨x, y⟩ := p
    cases q with
    | none =>
      simp only [timesM]
      clear h1 h2 h3 h4 h5 h6 h7 h8
      simp only [ptX, ptY] at *
      go_enter Tryd.func28, Tryd.ntmps28
      go_wp2_with fail
      refine bodyPost_ret (v := .agg #[.int .i64 0, .int .i64 0, .bool false]) (by simp [results, Tryd.results28, go_sem]) rfl ?_
      exact ⟨rfl, (((Ext.refl _).alloc _).alloc _).alloc _⟩
    | some q =>
      obtain ⟨v, u⟩ := q
      cases hr : inR2 (x * v - y * u) (x * u + y * v) with
      | false =>
        rw [show timesM (some (x, y)) (some (v, u)) = none from by simp [timesM, hr]]
        clear h1 h2 h3 h4 h5 h6 h7 h8
        simp only [ptX, ptY] at *
        go_enter Tryd.func28, Tryd.ntmps28
        go_wp2_with fail
        refine (right_r _ _ _).mono ?_
        rintro e w' ⟨rfl, rfl⟩
        rw [hr]
        go_wp2_with fail
        refine bodyPost_ret (v := .agg #[.int .i64 0, .int .i64 0, .bool false]) (by simp [results, Tryd.results28, go_sem]) rfl ?_
        exact ⟨rfl, (((Ext.refl _).alloc _).alloc _).alloc _⟩
      | true =>
        rw [show timesM (some (x, y)) (some (v, u)) = some (x * v - y * u, x * u + y * v) from by simp [timesM, hr]]
        clear h1 h2 h3 h4 h5 h6 h7 h8
        simp only [ptX, ptY] at *
        go_enter Tryd.func28, Tryd.ntmps28
        go_wp2_with fail
        refine (right_r _ _ _).mono ?_
        rintro e w' ⟨rfl, rfl⟩
        rw [hr]
        go_wp2_with fail
        refine bodyPost_ret (v := .agg #[.int .i64 (x * v - y * u), .int .i64 (x * u + y * v), .bool true]) (by simp [results, Tryd.results28, go_sem]) rfl ?_
        exact ⟨rfl, (((Ext.refl _).alloc _).alloc _).alloc _⟩
end Go.Proofs.YtiahgcaenneonaaDoor
/-
  Layer 4 (plane): points turned.
-/
namespace Go.Proofs.YtiahgcaenneonaaDoor
open Go.RowKit Kv
def rot (p : Int × Int) : Int × Int := (-p.2, p.1)
def rotN : Nat → Int × Int → Int × Int
  | 0, p => p
  | n + 1, p => rot (rotN n p)
def bdP (p : Int × Int) : Prop := -1048576 ≤ p.1 ∧ p.1 ≤ 1048576 ∧ -1048576 ≤ p.2 ∧ p.2 ≤ 1048576
theorem rotN_bd (n : Nat) {p : Int × Int} (h : bdP p) : bdP (rotN n p) := by
  induction n with
  | zero => exact h
  | succ n ih =>
    obtain ⟨a, b, c, d⟩ := ih
    show bdP (rot (rotN n p))
    unfold rot bdP
    refine ⟨?_, ?_, a, b⟩
    · show _ ≤ -(rotN n p).2; omega
    · show -(rotN n p).2 ≤ _; omega
def turnM (p : Option (Int × Int)) (k : Int) : Int × Int := match p with | some p => rotN (k % 4).toNat p | none => (0, 0)
theorem turnM_bd {a b : Nat} (k : Int) : bdP (turnM (ptOf a b) k) := by
  have h := pt_bd a b
  cases hp : ptOf a b with
  | none => simp [turnM, bdP]
  | some p => rw [hp] at h; exact rotN_bd _ h
theorem k4 (k : Int) : (k.tmod 4 + 4).tmod 4 = (((k % 4).toNat : Nat) : Int) ∧ -4 < k.tmod 4 ∧ k.tmod 4 < 4 := by
  have h1 := Int.tmod_lt_of_pos k (show (0 : Int) < 4 from by omega)
  have h2 := Int.lt_tmod_of_pos k (show (0 : Int) < 4 from by omega)
  have h3 := Int.tmod_eq_emod_of_nonneg (a := k.tmod 4 + 4) (b := 4) (by omega)
  have h4 := Int.mul_tdiv_add_tmod k 4
  refine ⟨?_, h2, h1⟩
  rw [h3]
  omega
theorem num_one : Num 4607182418800017408 (1 * U) := by
  rw [← show floatOfInt .f64 1 = 4607182418800017408 from by decide +kernel]
  exact num_F 1 (by omega) (by omega)
theorem num_nil : Num 0 (0 * U) := by rw [← w0]; exact num_F 0 (by omega) (by omega)
theorem turn_mul {a b : Nat} {p : Int × Int} (ha : Num a (p.1 * U)) (hb : Num b (p.2 * U)) (h : bdP p) :
    ∃ re im, cMulBits a b 0 4607182418800017408 = some (re, im) ∧ Num re ((rot p).1 * U) ∧ Num im ((rot p).2 * U) := by
  obtain ⟨h1, h2, h3, h4⟩ := h
  obtain ⟨re, im, e, n1, n2⟩ := cmul ha hb num_nil num_one h1 h2 h3 h4 (by omega) (by omega) (by omega) (by omega)
  refine ⟨re, im, e, ?_, ?_⟩
  · rw [show p.1 * 0 - p.2 * 1 = (rot p).1 from by show _ = -p.2; omega] at n1; exact n1
  · rw [show p.1 * 1 + p.2 * 0 = (rot p).2 from by show _ = p.1; omega] at n2; exact n2
theorem ptOf_of {a b : Nat} {p : Int × Int} (ha : Num a (p.1 * U)) (hb : Num b (p.2 * U)) (h : bdP p) : ptOf a b = some p := by
  unfold ptOf
  rw [partOf_whole ha h.1 h.2.1, partOf_whole hb h.2.2.1 h.2.2.2]
theorem turn_p (a b : Nat) (k : Int) (w : World) :
    Calls Tryd.prog 21 #[.complex .f64 a b, .int .i64 k] w fun e w' => e = .returned (.complex .f64 (floatOfInt .f64 (turnM (ptOf a b) k).1) (floatOfInt .f64 (turnM (ptOf a b) k).2)) ∧ w = w' := by
  have hA := tidy_p a b
  have hbd := pt_bd a b
  cases hp : ptOf a b with
  | none =>
    rw [hp] at hA
    go_enter Tryd.func21, Tryd.ntmps21
    go_wp2_with fail
    refine (hA _).mono ?_
    rintro e w' ⟨rfl, rfl⟩
    go_wp2_with fail
    go_ret
    exact ⟨by simp [turnM, w0], rfl⟩
  | some p =>
    obtain ⟨hk, hk1, hk2⟩ := k4 k
    rw [hp] at hA hbd
    have hb2 : bdP p := hbd
    obtain ⟨na, nb⟩ := ptOf_some (x := p.1) (y := p.2) hp
    show Calls Tryd.prog 21 _ _ fun e w' => e = .returned (.complex .f64 (floatOfInt .f64 (rotN (k % 4).toNat p).1) (floatOfInt .f64 (rotN (k % 4).toNat p).2)) ∧ w = w'
    have hm4 : (k % 4).toNat < 4 := by omega
    generalize (k % 4).toNat = m at *
    clear hbd
    go_enter Tryd.func21, Tryd.ntmps21
    go_wp2_with fail
    refine (hA _).mono ?_
    rintro e w' ⟨rfl, rfl⟩
    go_wp2_with fail
    go_loopw [0, 18] (fun z i wr => ∃ (j re im : Nat), z = .complex .f64 re im ∧ i = .int .i64 j ∧ j ≤ m ∧ Num re ((rotN j p).1 * U) ∧ Num im ((rotN j p).2 * U) ∧ w = wr) (fun _ i _ => m - (intOf i).toNat)
    case atStart => exact ⟨0, a, b, rfl, rfl, by omega, na, nb, rfl⟩
    case round =>
      obtain ⟨j, re, im, rfl, rfl, hj, nr, ni, rfl⟩ := hrel
      by_cases hlt : j < m
      · obtain ⟨re2, im2, hmu, nr2, ni2⟩ := turn_mul nr ni (rotN_bd j hb2)
        have hmul := fun W => run_complex_mul (P := Tryd.prog) W 54 re im 0 4607182418800017408 re2 im2 hmu
        go_wp2_with fail
        exact ⟨⟨j + 1, re2, im2, rfl, by go_num, by omega, nr2, ni2, trivial⟩, by simp [intOf]; omega⟩
      · obtain rfl : j = m := by omega
        have hT := tidy_p re im
        rw [ptOf_of nr ni (rotN_bd j hb2)] at hT
        go_wp2_with fail
        refine (hT _).mono ?_
        rintro e w' ⟨rfl, rfl⟩
        go_wp2_with fail
        go_ret
        exact ⟨rfl, rfl⟩
theorem wrap3 (k : Int) : wrapI k 3 = (((k % 4).toNat : Nat) : Int) := by
  unfold wrapI clamp within
  simp
  omega
theorem turn_r (p : Option (Int × Int)) (k : Int) (h : ∀ q, p = some q → bdP q) (w : World) :
    Calls Tryd.prog 22 #[.agg #[.int .i64 (ptX p), .int .i64 (ptY p), .bool p.isSome], .int .i64 k] w fun e w' =>
      e = .returned (.agg #[.int .i64 (turnM p k).1, .int .i64 (turnM p k).2, .bool true]) ∧ Ext w w' := by
  cases p with
  | none =>
    simp only [ptX, ptY, turnM]
    go_enter Tryd.func22, Tryd.ntmps22
    go_wp2_with fail
    refine bodyPost_ret (v := .agg #[.int .i64 0, .int .i64 0, .bool true]) (by simp [results, Tryd.results22, go_sem]) rfl ?_
    exact ⟨rfl, ((Ext.refl _).alloc _).alloc _⟩
  | some p =>
    have hb2 := h p rfl
    have hw := wrap3 k
    show Calls Tryd.prog 22 #[.agg #[.int .i64 p.1, .int .i64 p.2, .bool true], .int .i64 k] _ fun e w' => e = .returned (.agg #[.int .i64 (rotN (k % 4).toNat p).1, .int .i64 (rotN (k % 4).toNat p).2, .bool true]) ∧ Ext w w'
    have hm4 : (k % 4).toNat < 4 := by omega
    generalize (k % 4).toNat = m at *
    clear h
    go_enter Tryd.func22, Tryd.ntmps22
    go_wp2_with fail
    go_loopw [5] (fun i wr => ∃ (j : Nat), i = .int .i64 j ∧ j ≤ m ∧ wr = (w.alloc (.cells #[.int .i64 (rotN j p).1, .int .i64 (rotN j p).2, .bool true] 56)).alloc (.cells #[.int .i64 0, .int .i64 0, .bool false] 56)) (fun i _ => m - (intOf i).toNat)
    case atStart => exact ⟨0, rfl, by omega, rfl⟩
    case round =>
      obtain ⟨j, rfl, hj, rfl⟩ := hrel
      have hbj := rotN_bd j hb2
      obtain ⟨g1, g2, g3, g4⟩ := hbj
      by_cases hlt : j < m
      · go_wp2_with fail
        refine (wrap_r _ _ _).mono ?_
        rintro e w' ⟨rfl, rfl⟩
        rw [hw]
        go_wp2_with fail
        exact ⟨⟨j + 1, by go_num, by omega, rfl⟩, by simp [intOf]; omega⟩
      · obtain rfl : j = m := by omega
        go_wp2_with fail
        refine (wrap_r _ _ _).mono ?_
        rintro e w' ⟨rfl, rfl⟩
        rw [hw]
        go_wp2_with fail
        refine bodyPost_ret (v := .agg #[.int .i64 (rotN j p).1, .int .i64 (rotN j p).2, .bool true]) (by simp [results, Tryd.results22, go_sem]) rfl ?_
        exact ⟨rfl, ((Ext.refl _).alloc _).alloc _⟩
end Go.Proofs.YtiahgcaenneonaaDoor
/-
  Layer 1: the two functions that call the library (levels, digits), and the chapter's examples.
-/
namespace Go.Proofs.YtiahgcaenneonaaDoor
open Go.RowKit Kv
theorem lev5 : levels 5 = 3 := by decide
theorem dig40 : digits (-40) = [45, 52, 48] := by
  unfold digits Go.Lib.itoa
  rw [if_pos (by omega), show (-40 : Int).natAbs = 40 from rfl, decDigits_step 40 (by omega), decDigits_one (40 / 10) (by omega)]
  decide
end Go.Proofs.YtiahgcaenneonaaDoor
/-
  Slices of ints: one that can be read ('Ints'), one that the call itself owns and appends to ('IntRow').
-/
namespace Go.Proofs.YtiahgcaenneonaaDoor
open Go.RowKit Kv
/-- The slice value v reads as the ints l. -/
def Ints (w : World) (v : Value) (l : List Int) : Prop :=
  ∃ A c, v = .slice A l.length c ∧ l.length ≤ c ∧ c ≤ 9223372036854775807 ∧ (l ≠ [] → ∃ b off, A = some ⟨b, off, none⟩ ∧ b < w.heap.size ∧ ∀ i x, l[i]? = some x → w.cell? ⟨b, off + i, none⟩ = some (.int .i64 x))
theorem Ints.ext {w w' : World} {v : Value} {l : List Int} (h : Ints w v l) (hx : Ext w w') : Ints w' v l := by
  obtain ⟨A, c, rfl, h1, h2, h3⟩ := h
  refine ⟨A, c, rfl, h1, h2, fun hl => ?_⟩
  obtain ⟨b, off, rfl, hb, hc⟩ := h3 hl
  exact ⟨b, off, rfl, Nat.lt_of_lt_of_le hb (Ext.size hx), fun i x hi => (Ext.cell hx (p := ⟨b, off + i, none⟩) hb).trans (hc i x hi)⟩
theorem Ints.nil (w : World) : Ints w (.slice none 0 0) [] := ⟨none, 0, rfl, by simp, by omega, fun h => absurd rfl h⟩
/-- At an element. -/
theorem Ints.at_ {w : World} {A : Option Addr} {n c : Nat} {l : List Int} (h : Ints w (.slice A n c) l) {i : Nat} (hi : i < n) :
    ∃ b off, A = some ⟨b, off, none⟩ ∧ b < w.heap.size ∧ w.cell? ⟨b, off + i, none⟩ = some (.int .i64 (l.getD i 0)) := by
  obtain ⟨A', c', he, h1, h2, h3⟩ := h
  injection he with e1 e2 e3
  subst e1 e2 e3
  have hl : l ≠ [] := by rintro rfl; simp at hi
  obtain ⟨b, off, rfl, hb, hc⟩ := h3 hl
  refine ⟨b, off, rfl, hb, ?_⟩
  have : l[i]? = some (l.getD i 0) := by simp [List.getD, List.getElem?_eq_getElem hi]
  exact hc i _ this
theorem Ints.slice {w : World} {v : Value} {l : List Int} (h : Ints w v l) : ∃ A c, v = .slice A l.length c ∧ l.length ≤ c ∧ c ≤ 9223372036854775807 := by
  obtain ⟨A, c, rfl, h1, h2, _⟩ := h
  exact ⟨A, c, rfl, h1, h2⟩

def IntRow (w : World) (base : Nat) (v : Value) (l : List Int) : Prop := w.ownsRow base 3 1 v l.length (l.map (Value.int .i64))
theorem IntRow.nil (w : World) (base : Nat) : IntRow w base (.slice none 0 0) [] := World.ownsRow_nil _ _ _ _
theorem IntRow.ints {w : World} {base : Nat} {v : Value} {l : List Int} (h : IntRow w base v l) : Ints w v l := by
  have h' := h
  obtain ⟨hl, h2⟩ := h
  rcases h2 with ⟨rfl, h0⟩ | ⟨g, cap, cur, rfl, hg, hh, hn, hm, hs, ht⟩
  · obtain rfl : l = [] := List.eq_nil_of_length_eq_zero h0
    exact Ints.nil w
  · refine ⟨_, _, rfl, hn, by unfold maxLen at hm; exact hm, fun _ => ⟨g, 0, rfl, ?_, fun i x hi => ?_⟩⟩
    · rcases Nat.lt_or_ge g w.heap.size with hlt | hge
      · exact hlt
      · rw [Array.getElem?_eq_none hge] at hh; cases hh
    · have hc := World.ownsRow.cells h' (g := g) rfl i (.int .i64 x) (by rw [List.getElem?_map, hi]; rfl)
      rw [Addr.add_lit] at hc
      exact hc
theorem info_int : (Tryd.prog.info? 3).map (fun i => (i.zero, i.size, i.bytes)) = some (some (.int .i64 0), 1, 8) := by kernel_rfl
theorem ints_one (l : List Int) : ∀ u ∈ l.map (Value.int .i64), u.oneCell' = true := by
  intro u hu
  obtain ⟨x, _, rfl⟩ := List.mem_map.1 hu
  rfl
/-- 'append(v, x)': one int, out of the new cell that holds it. -/
theorem append_int {ops : Array Oper} {rest : List Oper} {o : Oper} {a : Act} {Q : Exit → Act → World → Prop} {w : World} (hgd : o.guard = none) (s x : Operand)
    (ho : o.op = .call { callee := .builtin .append, args := #[s, x], argTypes := #[25, 25] })
    (base : Nat) (v : Value) (l : List Int) (y : Int) (hown : IntRow w base v l) (hs : a.eval s = v) (hx : a.eval x = .slice (some ⟨w.heap.size, 0, none⟩) 1 1)
    (hlen : l.length < 1000000000000) (hbase : base ≤ w.heap.size)
    (h : ∀ v' w', IntRow w' base v' (l ++ [y]) → (w.alloc (.cells #[.int .i64 y] 3)).grownBy w' v.ownBlock → wpList Tryd.prog ops Q rest (a.put o.dst v') w') :
    wpList Tryd.prog ops Q (o :: rest) a (w.alloc (.cells #[.int .i64 y] 3)) := by
  obtain ⟨i0, hi, hz0, hz1, hz2⟩ := info_parts info_int
  refine wpList_append_own _ hgd s x 25 ho base 3 i0 (.int .i64 0) 1 8 Tryd.underlying25 hi hz0 hz1 hz2 rfl (by decide) v l.length _ hs (World.ownsRow.alloc hown _) ⟨w.heap.size, 0, none⟩ 1 1 [.int .i64 y] hx rfl (cell_one_new _ _ _) (by simp [Value.oneCell']) (by unfold maxLen; omega) (by omega) (by simp; omega) fun v' w' h1 h2 _ => ?_
  refine h v' w' ?_ h2
  unfold IntRow
  rw [List.length_append, List.map_append]
  exact h1
/-- Behind an append nothing of what was there when the call began has turned. -/
theorem Ext.appended {w wr w' : World} {v : Value} {l : List Int} {o : Obj} (h : Ext w wr) (hown : IntRow wr w.heap.size v l) (hg : (wr.alloc o).grownBy w' v.ownBlock) : Ext w w' := by
  refine Below.grown (Below.alloc h h.size o) hg (by have := h.size; simp; omega) fun k hk => ?_
  obtain ⟨_, h2⟩ := hown
  rcases h2 with ⟨rfl, _⟩ | ⟨g, cap, cur, rfl, hgb, _⟩
  · simp [Value.ownBlock] at hk
  · simp [Value.ownBlock] at hk
    omega
end Go.Proofs.YtiahgcaenneonaaDoor
/-
  Plain mathematics of sets of threads: a set is a number below 2^64, a thread a bit of it.
-/
namespace Kv

def inSet (t : Int) : Prop := 0 ≤ t ∧ t < 64
instance (t : Int) : Decidable (inSet t) := inferInstanceAs (Decidable (_ ∧ _))
def hasM (s : Nat) (t : Int) : Bool := if inSet t then s.testBit t.toNat else false
def withM (s : Nat) (t : Int) : Nat := if inSet t then s ||| 2 ^ t.toNat else s
def woutM (s : Nat) (t : Int) : Nat := if inSet t then s &&& (18446744073709551615 - 2 ^ t.toNat) else s
def listM (s : Nat) : List Nat := (List.range 64).filter s.testBit
def firstM (n : Int) : Nat := if n ≤ 0 then 0 else if 64 ≤ n then 18446744073709551615 else 2 ^ n.toNat - 1
def ofM (l : List Int) : Nat := l.foldl withM 0

theorem withM_lt {s : Nat} (h : s < 18446744073709551616) (t : Int) : withM s t < 18446744073709551616 := by
  unfold withM
  split
  · rename_i ht
    refine Nat.or_lt_two_pow (n := 64) h ?_
    exact Nat.pow_lt_pow_right (by omega) (by have := ht.2; have := ht.1; omega)
  · exact h
theorem woutM_lt {s : Nat} (h : s < 18446744073709551616) (t : Int) : woutM s t < 18446744073709551616 := by
  unfold woutM
  split
  · exact Nat.lt_of_le_of_lt Nat.and_le_left h
  · exact h
theorem firstM_lt (n : Int) : firstM n < 18446744073709551616 := by
  unfold firstM
  split
  · omega
  · split
    · omega
    · have : 2 ^ n.toNat ≤ 2 ^ 64 := Nat.pow_le_pow_right (by omega) (by omega)
      omega
theorem testBit_hi {s : Nat} (h : s < 18446744073709551616) (i : Nat) (hi : 64 ≤ i) : s.testBit i = false :=
  Nat.testBit_lt_two_pow (Nat.lt_of_lt_of_le h (Nat.pow_le_pow_right (n := 2) (by omega) hi))
theorem withM_testBit (s : Nat) (t : Int) (i : Nat) : (withM s t).testBit i = (s.testBit i || (decide (inSet t) && decide (i = t.toNat))) := by
  unfold withM
  by_cases ht : inSet t
  · rw [if_pos ht, Nat.testBit_or, Nat.testBit_two_pow]
    simp [ht, eq_comm]
  · simp [ht]
theorem mask_testBit (k i : Nat) (hk : k < 64) : (18446744073709551615 - 2 ^ k).testBit i = (decide (i < 64) && !decide (i = k)) := by
  have e : (18446744073709551615 - 2 ^ k : Nat) = 2 ^ 64 - (2 ^ k + 1) := by omega
  rw [e, Nat.testBit_two_pow_sub_succ (Nat.pow_lt_pow_right (by omega) hk), Nat.testBit_two_pow]
  simp [eq_comm]
theorem woutM_testBit {s : Nat} (hs : s < 18446744073709551616) (t : Int) (i : Nat) : (woutM s t).testBit i = (s.testBit i && !(decide (inSet t) && decide (i = t.toNat))) := by
  unfold woutM
  by_cases ht : inSet t
  · rw [if_pos ht, Nat.testBit_and, mask_testBit _ _ (by have := ht.1; have := ht.2; omega)]
    by_cases hi : i < 64
    · simp [ht, hi]
    · rw [testBit_hi hs i (by omega)]; simp
  · simp [ht]
theorem hasM_testBit (s : Nat) (t : Int) : hasM s t = (decide (inSet t) && s.testBit t.toNat) := by
  unfold hasM; split <;> simp_all
theorem firstM_testBit (n : Int) (i : Nat) : (firstM n).testBit i = (decide (i < 64) && decide ((i : Int) < n)) := by
  unfold firstM
  split
  · simp; omega
  · split
    · have e : (18446744073709551615 : Nat) = 2 ^ 64 - (0 + 1) := by omega
      rw [e, Nat.testBit_two_pow_sub_succ (by omega)]
      by_cases hi : i < 64 <;> simp [hi]
      omega
    · have e : 2 ^ n.toNat - 1 = 2 ^ n.toNat - (0 + 1) := by omega
      rw [e, Nat.testBit_two_pow_sub_succ (Nat.two_pow_pos _)]
      by_cases hi : i < n.toNat
      · simp [hi]; omega
      · simp [hi]; omega
theorem eq_of_bits {a b : Nat} (h : ∀ i, a.testBit i = b.testBit i) : a = b := Nat.eq_of_testBit_eq h

theorem mem_listM {s i : Nat} : i ∈ listM s ↔ i < 64 ∧ s.testBit i = true := by simp [listM]
theorem listM_length_le (s : Nat) : (listM s).length ≤ 64 := by
  have := List.length_filter_le s.testBit (List.range 64)
  simpa [listM] using this
/-- Unlike sets have unlike lists. -/
theorem listM_inj {a b : Nat} (ha : a < 18446744073709551616) (hb : b < 18446744073709551616) (h : listM a = listM b) : a = b := by
  refine eq_of_bits fun i => ?_
  by_cases hi : i < 64
  · have : i ∈ listM a ↔ i ∈ listM b := by rw [h]
    simp only [mem_listM, hi, true_and] at this
    exact Bool.eq_iff_iff.2 this
  · rw [testBit_hi ha i (by omega), testBit_hi hb i (by omega)]

/-- The set gone through upwards: what is left from a bit on. -/
def fromM (s k : Nat) : List Nat := (List.range' k (64 - k)).filter s.testBit
theorem fromM_zero (s : Nat) : fromM s 0 = listM s := by simp [fromM, listM, List.range_eq_range']
theorem fromM_step (s k : Nat) (hk : k < 64) : fromM s k = if s.testBit k then k :: fromM s (k + 1) else fromM s (k + 1) := by
  unfold fromM
  rw [show 64 - k = (64 - (k + 1)) + 1 from by omega, List.range'_succ, List.filter_cons]
theorem fromM_end (s : Nat) : fromM s 64 = [] := by simp [fromM]
/-- The greatest sub-list that lies below a bit. -/
def belowM (s k : Nat) : List Nat := (List.range k).filter s.testBit
theorem belowM_succ (s k : Nat) : belowM s (k + 1) = belowM s k ++ if s.testBit k then [k] else [] := by
  unfold belowM
  rw [List.range_succ, List.filter_append]
  congr 1
  simp [List.filter_cons]
theorem belowM_all (s : Nat) : belowM s 64 = listM s := rfl

/-- Threads one by one. -/
theorem ofM_testBit (l : List Int) (s i : Nat) : (l.foldl withM s).testBit i = (s.testBit i || l.any fun t => decide (inSet t) && decide (i = t.toNat)) := by
  induction l generalizing s with
  | nil => simp
  | cons t l ih => rw [List.foldl_cons, ih, withM_testBit, List.any_cons, Bool.or_assoc]
theorem ofM_lt (l : List Int) {s : Nat} (h : s < 18446744073709551616) : l.foldl withM s < 18446744073709551616 := by
  induction l generalizing s with
  | nil => exact h
  | cons t l ih => exact ih (withM_lt h t)

theorem or_add (a b : Nat) (h : a &&& b = 0) : a ||| b = a + b := by
  induction a using Nat.strongRecOn generalizing b with
  | _ a ih =>
    by_cases ha : a = 0
    · subst ha; simp
    · have h2 : a / 2 &&& b / 2 = 0 := by rw [← Nat.and_div_two, h]
      have i2 := ih (a / 2) (by omega) (b / 2) h2
      have m : (a % 2) &&& (b % 2) = 0 := by
        have := Nat.and_mod_two_pow (a := a) (b := b) (n := 1)
        rw [h] at this
        simpa using this.symm
      have e1 : (a ||| b) / 2 = (a / 2 ||| b / 2) := Nat.or_div_two
      have e2 : (a ||| b) % 2 = (a % 2 ||| b % 2) := Nat.or_mod_two_pow (a := a) (b := b) (n := 1)
      rcases Nat.mod_two_eq_zero_or_one a with h3 | h3 <;> rcases Nat.mod_two_eq_zero_or_one b with h4 | h4 <;> rw [h3, h4] at e2 m <;> first | exact absurd m (by decide) | (have e3 : (a ||| b) % 2 = 1 := e2; omega) | (have e3 : (a ||| b) % 2 = 0 := e2; omega)


/-- A set's lowest thread, and the set without it. -/
theorem low_form (x : Nat) (h0 : x ≠ 0) (hx : x < 18446744073709551616) : ∃ m, x = 2 ^ (Go.Lib.ctz 64 x) * (2 * m + 1) ∧ Go.Lib.ctz 64 x < 64 := by
  obtain ⟨m, hm, hk⟩ := Go.Lib.ctzFrom_spec 64 x (by omega) hx
  have e : Go.Lib.ctz 64 x = Go.Lib.ctzFrom 64 x := by simp [Go.Lib.ctz, h0]
  exact ⟨m, by rw [e]; exact hm, by rw [e]; exact hk⟩
theorem odd_bits (k m i : Nat) : (2 ^ k * (2 * m + 1)).testBit i = (decide (i = k) || (decide (k < i) && m.testBit (i - k - 1))) := by
  rw [Nat.testBit_two_pow_mul]
  by_cases h : i < k
  · have h1 : ¬ k ≤ i := by omega
    have h2 : ¬ i = k := by omega
    have h3 : ¬ k < i := by omega
    simp [h1, h2, h3]
  · by_cases h2 : i = k
    · subst h2; simp
    · have h1 : k ≤ i := by omega
      have h3 : k < i := by omega
      obtain ⟨j, rfl⟩ : ∃ j, i = k + 1 + j := ⟨i - k - 1, by omega⟩
      have e : k + 1 + j - k = j + 1 := by omega
      have e2 : k + 1 + j - k - 1 = j := by omega
      simp only [h1, h2, h3, decide_true, decide_false, Bool.true_and, Bool.false_or, e, Nat.testBit_succ]
      congr 1
      omega
theorem pred_bits (k m i : Nat) : (2 ^ k * (2 * m + 1) - 1).testBit i = (decide (i < k) || (decide (k < i) && m.testBit (i - k - 1))) := by
  have hp := Nat.two_pow_pos k
  have e : 2 ^ k * (2 * m + 1) - 1 = 2 ^ k * (2 * m) + (2 ^ k - 1) := by rw [Nat.mul_add]; omega
  rw [e, Nat.testBit_two_pow_mul_add _ (by omega)]
  by_cases h : i < k
  · rw [if_pos h, show 2 ^ k - 1 = 2 ^ k - (0 + 1) from by omega, Nat.testBit_two_pow_sub_succ (by omega)]
    simp [h]
  · rw [if_neg h]
    by_cases h2 : i = k
    · subst h2; simp
    · obtain ⟨j, rfl⟩ : ∃ j, i = k + 1 + j := ⟨i - k - 1, by omega⟩
      have e1 : k + 1 + j - k = j + 1 := by omega
      have e2 : k + 1 + j - k - 1 = j := by omega
      have h3 : k < k + 1 + j := by omega
      rw [e2, e1]
      simp only [h, h3, decide_true, decide_false, Bool.true_and, Bool.false_or, Nat.testBit_succ]
      congr 1
      omega
def dropLow (x : Nat) : Nat := x &&& (x - 1)
theorem dropLow_bits (x : Nat) (h0 : x ≠ 0) (hx : x < 18446744073709551616) (i : Nat) : (dropLow x).testBit i = (decide (Go.Lib.ctz 64 x < i) && x.testBit i) := by
  obtain ⟨m, hm, hk⟩ := low_form x h0 hx
  unfold dropLow
  generalize Go.Lib.ctz 64 x = k at *
  subst hm
  rw [Nat.testBit_and, odd_bits, pred_bits]
  by_cases h1 : i < k
  · have h2 : ¬ k < i := by omega
    have h3 : ¬ i = k := by omega
    simp [h2, h3]
  · by_cases h3 : i = k
    · subst h3; simp
    · have h2 : k < i := by omega
      simp [h1, h2, h3]
theorem low_bits (x : Nat) (h0 : x ≠ 0) (hx : x < 18446744073709551616) : x.testBit (Go.Lib.ctz 64 x) = true ∧ ∀ i, i < Go.Lib.ctz 64 x → x.testBit i = false := by
  obtain ⟨m, hm, hk⟩ := low_form x h0 hx
  generalize Go.Lib.ctz 64 x = k at *
  subst hm
  refine ⟨by rw [odd_bits]; simp, fun i hi => ?_⟩
  rw [odd_bits]
  have h2 : ¬ k < i := by omega
  have h3 : ¬ i = k := by omega
  simp [h2, h3]
theorem fromM_skip (x : Nat) : ∀ k, k ≤ 64 → (∀ i, i < k → x.testBit i = false) → fromM x 0 = fromM x k
  | 0, _, _ => rfl
  | k + 1, hk, h => by
    rw [fromM_skip x k (by omega) (fun i hi => h i (by omega)), fromM_step x k (by omega), if_neg (by rw [h k (by omega)]; simp)]
theorem listM_low (x : Nat) (h0 : x ≠ 0) (hx : x < 18446744073709551616) : listM x = Go.Lib.ctz 64 x :: listM (dropLow x) := by
  obtain ⟨m, hm, hk⟩ := low_form x h0 hx
  obtain ⟨hb, hl⟩ := low_bits x h0 hx
  have hd := dropLow_bits x h0 hx
  rw [← fromM_zero, ← fromM_zero, fromM_skip x _ (by omega) hl, fromM_step x _ hk, if_pos hb]
  rw [fromM_skip (dropLow x) (Go.Lib.ctz 64 x + 1) (by omega) (fun i hi => by rw [hd, show decide (Go.Lib.ctz 64 x < i) = false from by simp; omega]; rfl)]
  congr 1
  unfold fromM
  refine List.filter_congr fun i hi => ?_
  have : Go.Lib.ctz 64 x < i := by have := (List.mem_range'_1.1 hi).1; omega
  rw [hd]
  simp [this]
theorem dropLow_lt (x : Nat) (h0 : x ≠ 0) : dropLow x < x := by
  unfold dropLow
  have : x &&& (x - 1) ≤ x - 1 := Nat.and_le_right
  omega
theorem listM_zero : listM 0 = [] := by decide
theorem listM_lt {s x : Nat} (h : x ∈ listM s) : x < 64 := (mem_listM.1 h).1
end Kv
/-
  The walks of layer 2 (mask) but for what goes through a set: each function by its contract.
-/
namespace Go.Proofs.YtiahgcaenneonaaDoor
open Go.RowKit Kv
theorem thread_any (t : Int) (w : World) :
    Calls Tryd.prog 79 #[.int .i64 t] w fun e w' => e = .returned (.bool (decide (inSet t))) ∧ w = w' := by
  by_cases h0 : 0 ≤ t
  · have H : Hid (decide (t < 64) = decide (inSet t)) := by unfold Hid inSet; simp [h0]
    go_enter Tryd.func79, Tryd.ntmps79
    go_wp2
    go_ret
    exact ⟨ret_bool H.out, rfl⟩
  · have H : Hid (false = decide (inSet t)) := by unfold Hid inSet; simp [h0]
    go_enter Tryd.func79, Tryd.ntmps79
    go_wp2
    go_ret
    exact ⟨ret_bool H.out, rfl⟩
theorem nat_toNat (t : Int) (h : inSet t) : ∃ k : Nat, t = (k : Int) ∧ k < 64 := ⟨t.toNat, by have := h.1; omega, by have := h.1; have := h.2; omega⟩
theorem inSet_nat (k : Nat) (h : k < 64) : inSet (k : Int) := by unfold inSet; omega
theorem bit_test (s k : Nat) (hs : s < 18446744073709551616) : (bits .and .u64 ((s : Int) / 2 ^ k) 1 == 1) = s.testBit k := by
  have hd : s / 2 ^ k < 18446744073709551616 := Nat.lt_of_le_of_lt (Nat.div_le_self _ _) hs
  have h := u64_and_nat (s / 2 ^ k) 1 hd (by omega)
  have e : ((s / 2 ^ k : Nat) : Int) = (s : Int) / 2 ^ k := by push_cast; rfl
  rw [e] at h
  rw [show (1 : Int) = ((1 : Nat) : Int) from rfl, h, Nat.testBit_eq_decide_div_mod_eq, Nat.and_one_is_mod]
  rw [Bool.eq_iff_iff]
  simp
  omega
theorem u64pow (k : Nat) (hk : k < 64) : IntKind.u64.wrap ((2 : Int) ^ k) = ((2 ^ k : Nat) : Int) := by
  have h : (2 ^ k : Nat) < 2 ^ 64 := Nat.pow_lt_pow_right (by omega) hk
  have e : (2 : Int) ^ k = ((2 ^ k : Nat) : Int) := by push_cast; rfl
  rw [e, IntKind.wrap_u64]
  generalize (2 ^ k : Nat) = p at *
  omega
theorem has_p (s : Nat) (hs : s < 18446744073709551616) (t : Int) (w : World) :
    Calls Tryd.prog 65 #[.int .u64 s, .int .i64 t] w fun e w' => e = .returned (.bool (hasM s t)) ∧ w = w' := by
  by_cases h0 : inSet t
  · obtain ⟨k, rfl, hk⟩ := nat_toNat t h0
    have H : Hid ((bits .and .u64 ((s : Int) / 2 ^ k) 1 == 1) = hasM s k) := by
      unfold Hid hasM
      rw [bit_test s k hs, if_pos h0, Int.toNat_natCast]
    have d : decide (inSet (k : Int)) = true := by simp [h0]
    go_enter Tryd.func65, Tryd.ntmps65
    go_wp2_with (go_at_call 79; refine (thread_any _ _).mono ?_; rintro e w' ⟨rfl, rfl⟩)
    go_ret
    exact ⟨ret_bool H.out, rfl⟩
  · have H : Hid (false = hasM s t) := by unfold Hid hasM; rw [if_neg h0]
    have d : decide (inSet t) = false := by simp [h0]
    go_enter Tryd.func65, Tryd.ntmps65
    go_wp2_with (go_at_call 79; refine (thread_any _ _).mono ?_; rintro e w' ⟨rfl, rfl⟩)
    go_ret
    exact ⟨ret_bool H.out, rfl⟩
theorem with_p (s : Nat) (hs : s < 18446744073709551616) (t : Int) (w : World) :
    Calls Tryd.prog 63 #[.int .u64 s, .int .i64 t] w fun e w' => e = .returned (.int .u64 (withM s t)) ∧ w = w' := by
  by_cases h0 : inSet t
  · obtain ⟨k, rfl, hk⟩ := nat_toNat t h0
    have d : decide (inSet (k : Int)) = true := by simp [h0]
    go_enter Tryd.func63, Tryd.ntmps63
    go_wp2_with (go_at_call 79; refine (thread_any _ _).mono ?_; rintro e w' ⟨rfl, rfl⟩)
    go_ret
    refine ⟨ret_int ?_, rfl⟩
    show bits .or .u64 (s : Int) (IntKind.u64.wrap ((2 : Int) ^ k)) = _
    have hp : (2 ^ k : Nat) < 2 ^ 64 := Nat.pow_lt_pow_right (by omega) hk
    rw [u64pow k hk, u64_or_nat s _ hs (by omega)]
    unfold withM
    rw [if_pos h0, Int.toNat_natCast]
  · have H : Hid ((s : Int) = withM s t) := by unfold Hid withM; rw [if_neg h0]
    have d : decide (inSet t) = false := by simp [h0]
    go_enter Tryd.func63, Tryd.ntmps63
    go_wp2_with (go_at_call 79; refine (thread_any _ _).mono ?_; rintro e w' ⟨rfl, rfl⟩)
    go_ret
    exact ⟨ret_int H.out, rfl⟩
theorem first_p (n : Int) (w : World) :
    Calls Tryd.prog 80 #[.int .i64 n] w fun e w' => e = .returned (.int .u64 (firstM n)) ∧ w = w' := by
  go_enter Tryd.func80, Tryd.ntmps80
  go_wp2
  all_goals go_ret
  · exact ⟨ret_int (by unfold firstM; rw [if_pos (by assumption)]; rfl), rfl⟩
  · exact ⟨ret_int (by unfold firstM; rw [if_neg (by omega), if_pos (by assumption)]; rfl), rfl⟩
  · refine ⟨ret_int ?_, rfl⟩
    show IntKind.u64.wrap (IntKind.u64.wrap ((2 : Int) ^ n.toNat) - 1) = _
    have hp : (2 ^ n.toNat : Nat) < 2 ^ 64 := Nat.pow_lt_pow_right (by omega) (by omega)
    have hq := Nat.two_pow_pos n.toNat
    rw [u64pow _ (by omega), IntKind.wrap_u64]
    unfold firstM
    rw [if_neg (by omega), if_neg (by omega)]
    omega

theorem pow_or (s k : Nat) (h : s.testBit k = false) : s ||| 2 ^ k = s + 2 ^ k := by
  have h2 : s &&& 2 ^ k = 0 := by
    refine Nat.eq_of_testBit_eq fun i => ?_
    rw [Nat.testBit_and, Nat.testBit_two_pow, Nat.zero_testBit]
    by_cases hi : k = i
    · subst hi; simp [h]
    · simp [hi]
  exact or_add s (2 ^ k) h2
theorem wout_sub (s k : Nat) (hs : s < 18446744073709551616) (hk : k < 64) (hb : s.testBit k = true) : woutM s k = s - 2 ^ k := by
  have h0 := inSet_nat k hk
  have h1 : woutM s k ||| 2 ^ k = s := by
    refine eq_of_bits fun i => ?_
    rw [Nat.testBit_or, woutM_testBit hs, Nat.testBit_two_pow]
    by_cases hi : k = i
    · subst hi; simp [hb]
    · have : ¬ i = k := fun h => hi h.symm
      simp [hi, this]
  have h2 : woutM s k &&& 2 ^ k = 0 := by
    refine Nat.eq_of_testBit_eq fun i => ?_
    rw [Nat.testBit_and, woutM_testBit hs, Nat.testBit_two_pow, Nat.zero_testBit]
    by_cases hi : k = i
    · subst hi; simp [h0]
    · simp [hi]
  have := or_add _ _ h2
  omega
theorem first_le (n : Int) (j : Nat) (hj : j < 64) (h : (j : Int) < n) : withM (firstM j) j = firstM (j + 1 : Nat) := by
  refine eq_of_bits fun i => ?_
  rw [withM_testBit, firstM_testBit, firstM_testBit]
  have := inSet_nat j hj
  by_cases hi : i = j
  · subst hi; simp [this, hj]; omega
  · by_cases h2 : i < j
    · have e1 : (i : Int) < (j : Int) := by omega
      have e2 : (i : Int) < ((j + 1 : Nat) : Int) := by omega
      simp [hi, e1]
      omega
    · have e1 : ¬ (i : Int) < (j : Int) := by omega
      have e2 : ¬ (i : Int) < ((j + 1 : Nat) : Int) := by omega
      simp [hi, e1]
      omega
/-- A set's list, as ints. -/
def intsM (s : Nat) : List Int := (listM s).map fun (i : Nat) => (i : Int)
def belowI (s k : Nat) : List Int := (belowM s k).map fun (i : Nat) => (i : Int)
theorem belowI_succ (s k : Nat) : belowI s (k + 1) = belowI s k ++ if s.testBit k then [(k : Int)] else [] := by
  unfold belowI
  rw [belowM_succ, List.map_append]
  congr 1
  split <;> rfl
theorem belowI_le (s k : Nat) : (belowI s k).length ≤ k := by
  unfold belowI belowM
  rw [List.length_map]
  exact Nat.le_trans (List.length_filter_le _ _) (by simp)
end Go.Proofs.YtiahgcaenneonaaDoor
/-
  Two lists of ints compared by the document.
-/
namespace Go.Proofs.YtiahgcaenneonaaDoor
open Go.RowKit Kv
theorem take_snoc_eq {a b : List Int} {k : Nat} (ha : k < a.length) (hb : k < b.length) (h : a.take k = b.take k) : (a.take (k + 1) = b.take (k + 1)) ↔ a.getD k 0 = b.getD k 0 := by
  rw [List.take_succ_eq_append_getElem ha, List.take_succ_eq_append_getElem hb, h]
  rw [List.append_cancel_left_eq]
  simp [List.getD, List.getElem?_eq_getElem ha, List.getElem?_eq_getElem hb]
theorem ints_r (v1 v2 : Value) (a b : List Int) (w : World) (h1 : Ints w v1 a) (h2 : Ints w v2 b) :
    Calls Tryd.prog 36 #[v1, v2] w fun e w' => e = .returned (.bool (decide (a = b))) ∧ Drew w w' := by
  obtain ⟨A, c, rfl, q1, q2⟩ := h1.slice
  obtain ⟨B, d, rfl, q3, q4⟩ := h2.slice
  by_cases hl : a.length = b.length
  · have H : Hid (a.length = b.length) := hl
    rw [← hl] at h2 q3 ⊢
    have l1 : a.length ≤ 9223372036854775807 := by omega
    clear hl
    go_enter Tryd.func36, Tryd.ntmps36
    go_wp2_with fail
    go_loopw [5] (fun i wr => ∃ j : Nat, i = .int .i64 j ∧ j ≤ a.length ∧ Hid (a.take j = b.take j) ∧ Drew w wr) (fun i _ => a.length - (intOf i).toNat)
    case atStart => exact ⟨0, rfl, by omega, by simp [Hid], Drew.rfl' _⟩
    case round =>
      obtain ⟨j, rfl, hj, ht, hd⟩ := hrel
      by_cases hlt : j < a.length
      · obtain ⟨b1, o1, rfl, hb1, hc1⟩ := h1.at_ hlt
        obtain ⟨b2, o2, rfl, hb2, hc2⟩ := h2.at_ hlt
        obtain ⟨n, rfl⟩ := hd
        have hlt2 : j < b.length := by rw [← H.out]; exact hlt
        have T := Lib.hid (take_snoc_eq hlt hlt2 ht.out)
        rw [List.getD_eq_getElem?_getD, List.getElem?_eq_getElem hlt, Option.getD_some] at hc1
        rw [List.getD_eq_getElem?_getD, List.getElem?_eq_getElem hlt2, Option.getD_some] at hc2
        clear h1 h2
        by_cases hx : a[j] = b[j]
        · have d1 : (a[j] == b[j]) = true := by rw [beq_iff_eq]; exact hx
          have d2 : (a[j] != b[j]) = false := by rw [bne_eq_false_iff_eq]; exact hx
          have HX := Lib.hid hx
          clear hx
          go_wp2_with fail
          go_quiet (fail)
          go_wp2_with fail
          refine ⟨⟨j + 1, by go_num, by omega, T.out.2 (by simpa [List.getD, hlt, hlt2] using HX.out), Drew.mk' _ _⟩, ?_⟩
          simp [intOf]; omega
        · have d1 : (a[j] == b[j]) = false := by rw [beq_eq_false_iff_ne]; exact hx
          have d2 : (a[j] != b[j]) = true := by rw [bne_iff_ne]; exact hx
          have HX := Lib.hid hx
          clear hx
          go_wp2_with fail
          go_quiet (fail)
          go_wp2_with fail
          go_ret
          refine ⟨ret_bool ?_, (Drew.mk' _ _).trans (Drew.mk' _ _)⟩
          symm
          rw [decide_eq_false_iff_not]
          rintro rfl
          exact HX.out rfl
      · obtain rfl : j = a.length := by omega
        have E : Hid (a = b) := by
          have := ht.out
          rw [List.take_length, H.out, List.take_length] at this
          exact this
        go_wp2_with fail
        go_ret
        refine ⟨ret_bool ?_, hd⟩
        simp [E.out]
  · have d1 : ((a.length : Int) != (b.length : Int)) = true := by rw [bne_iff_ne]; omega
    have H : Hid (decide (a = b) = false) := by
      unfold Hid
      rw [decide_eq_false_iff_not]
      intro he
      exact hl (by rw [he])
    clear hl
    go_enter Tryd.func36, Tryd.ntmps36
    go_wp2_with fail
    go_ret
    exact ⟨ret_bool H.out.symm, Drew.rfl' _⟩
end Go.Proofs.YtiahgcaenneonaaDoor
/-
  Plain mathematics: counting the bits of a number below 2^64 in parallel (as the library does), byte by byte.
-/
namespace Kv
def st1 (m x : Nat) : Nat := (x / 2 &&& m) + (x &&& m)
def st2 (m x : Nat) : Nat := (x / 4 &&& m) + (x &&& m)
def st3 (m x : Nat) : Nat := (x / 16 + x) &&& m
/-- A mask of n bytes that are all alike. -/
def rep (c : Nat) : Nat → Nat
  | 0 => 0
  | n + 1 => c + 256 * rep c n
def pop8 (b : Nat) : Nat := st3 15 (st2 51 (st1 85 b))

theorem and_split (lo hi ml mh : Nat) (h1 : lo < 256) (h2 : ml < 256) : (lo + 256 * hi) &&& (ml + 256 * mh) = (lo &&& ml) + 256 * (hi &&& mh) := by
  have hl : lo &&& ml < 2 ^ 8 := Nat.and_lt_two_pow _ h2
  have e : ∀ a b : Nat, a < 256 → a + 256 * b = 2 ^ 8 * b + a := fun a b _ => by omega
  rw [e lo hi h1, e ml mh h2, e (lo &&& ml) _ hl]
  refine Nat.eq_of_testBit_eq fun i => ?_
  rw [Nat.testBit_and, Nat.testBit_two_pow_mul_add hi h1, Nat.testBit_two_pow_mul_add mh h2, Nat.testBit_two_pow_mul_add _ hl]
  split <;> simp
theorem low1 : ∀ b : Fin 256, ∀ c : Fin 2, (b.val / 2 + 128 * c.val) &&& 85 = b.val / 2 &&& 85 := by decide +kernel
theorem low2 : ∀ b : Fin 256, ∀ c : Fin 4, (b.val / 4 + 64 * c.val) &&& 51 = b.val / 4 &&& 51 := by decide +kernel
theorem byte1 : ∀ b : Fin 256, st1 85 b.val < 256 := by decide +kernel
theorem byte2 : ∀ b : Fin 256, st2 51 (st1 85 b.val) % 16 ≤ 4 ∧ st2 51 (st1 85 b.val) / 16 ≤ 4 := by decide +kernel
theorem low3 : ∀ b : Fin 256, ∀ c : Fin 5, ((st2 51 (st1 85 b.val)) / 16 + 16 * c.val + st2 51 (st1 85 b.val)) &&& 15 = pop8 b.val := by decide +kernel
theorem pop8_le : ∀ b : Fin 256, pop8 b.val ≤ 8 := by decide +kernel
theorem pop8_bits : ∀ b : Fin 256, pop8 b.val = (List.range 8).countP b.val.testBit := by decide +kernel

theorem st1_split (b r n : Nat) (hb : b < 256) : st1 (rep 85 (n + 1)) (b + 256 * r) = st1 85 b + 256 * st1 (rep 85 n) r := by
  unfold st1
  rw [show rep 85 (n + 1) = 85 + 256 * rep 85 n from rfl]
  have l1 : (b / 2 + 128 * (r % 2)) &&& 85 = b / 2 &&& 85 := low1 ⟨b, hb⟩ ⟨r % 2, by omega⟩
  have e : (b + 256 * r) / 2 = (b / 2 + 128 * (r % 2)) + 256 * (r / 2) := by omega
  rw [e, and_split _ _ _ _ (by omega) (by omega), and_split _ _ _ _ hb (by omega), l1, Nat.mul_add]
  omega
theorem st2_split (b r n : Nat) (hb : b < 256) : st2 (rep 51 (n + 1)) (b + 256 * r) = st2 51 b + 256 * st2 (rep 51 n) r := by
  unfold st2
  rw [show rep 51 (n + 1) = 51 + 256 * rep 51 n from rfl]
  have l1 : (b / 4 + 64 * (r % 4)) &&& 51 = b / 4 &&& 51 := low2 ⟨b, hb⟩ ⟨r % 4, by omega⟩
  have e : (b + 256 * r) / 4 = (b / 4 + 64 * (r % 4)) + 256 * (r / 4) := by omega
  rw [e, and_split _ _ _ _ (by omega) (by omega), and_split _ _ _ _ hb (by omega), l1, Nat.mul_add]
  omega
def par (n s : Nat) : Nat := st3 (rep 15 n) (st2 (rep 51 n) (st1 (rep 85 n) s))
theorem low_nibble (n r : Nat) : st2 (rep 51 n) (st1 (rep 85 n) r) % 16 ≤ 4 := by
  cases n with
  | zero => simp [rep, st2]
  | succ n =>
    have hr : r = r % 256 + 256 * (r / 256) := by omega
    have hb : r % 256 < 256 := by omega
    have b1 : st1 85 (r % 256) < 256 := byte1 ⟨r % 256, hb⟩
    have b2 : st2 51 (st1 85 (r % 256)) % 16 ≤ 4 := (byte2 ⟨r % 256, hb⟩).1
    rw [hr, st1_split _ _ _ hb, st2_split _ _ _ b1]
    omega
theorem par_split (b r n : Nat) (hb : b < 256) : par (n + 1) (b + 256 * r) = pop8 b + 256 * par n r := by
  unfold par
  have b1 : st1 85 b < 256 := byte1 ⟨b, hb⟩
  rw [st1_split _ _ _ hb, st2_split _ _ _ b1]
  have h2 := byte2 ⟨b, hb⟩
  have h3 := low_nibble n r
  have h4 := low3 ⟨b, hb⟩
  simp only at h2 h4
  generalize st2 (rep 51 n) (st1 (rep 85 n) r) = v at *
  generalize hu : st2 51 (st1 85 b) = u at *
  unfold st3
  rw [show rep 15 (n + 1) = 15 + 256 * rep 15 n from rfl]
  have e : (u + 256 * v) / 16 + (u + 256 * v) = (u / 16 + 16 * (v % 16) + u) + 256 * (v / 16 + v) := by omega
  rw [e, and_split _ _ _ _ (by omega) (by omega), h4 ⟨v % 16, by omega⟩]
/-- How many bits a number of n bytes has. -/
def bits8 : Nat → Nat → List Nat
  | 0, _ => []
  | n + 1, s => pop8 (s % 256) :: bits8 n (s / 256)
def sum8 : List Nat → Nat
  | [] => 0
  | p :: l => p + 256 * sum8 l
theorem par_sum : ∀ n s, par n s = sum8 (bits8 n s)
  | 0, s => by simp [par, bits8, sum8, rep, st3]
  | n + 1, s => by
    have hs : s = s % 256 + 256 * (s / 256) := by omega
    conv => lhs; rw [hs]
    rw [par_split _ _ _ (by omega), par_sum n (s / 256)]
    rfl
theorem bits8_sum : ∀ n s, (bits8 n s).sum = (List.range (8 * n)).countP s.testBit
  | 0, s => by simp [bits8]
  | n + 1, s => by
    have hb : s % 256 < 256 := by omega
    have hs : s = 2 ^ 8 * (s / 256) + s % 256 := by omega
    rw [show 8 * (n + 1) = 8 + 8 * n from by omega, List.range_add, List.countP_append, List.countP_map]
    simp only [bits8, List.sum_cons]
    rw [bits8_sum n (s / 256), pop8_bits ⟨s % 256, hb⟩]
    congr 1
    · refine List.countP_congr fun i hi => ?_
      have : i < 8 := by simpa using hi
      rw [← Bool.eq_iff_iff]
      conv => rhs; rw [hs]
      rw [Nat.testBit_two_pow_mul_add _ hb, if_pos this]
    · refine List.countP_congr fun i _ => ?_
      rw [← Bool.eq_iff_iff]
      simp only [Function.comp]
      conv => rhs; rw [hs]
      rw [Nat.testBit_two_pow_mul_add _ hb, if_neg (by omega), Nat.add_sub_cancel_left]
theorem bits8_le : ∀ n s p, p ∈ bits8 n s → p ≤ 8
  | 0, s, p, h => by simp [bits8] at h
  | n + 1, s, p, h => by
    simp only [bits8, List.mem_cons] at h
    rcases h with rfl | h
    · exact pop8_le ⟨s % 256, by omega⟩
    · exact bits8_le n _ p h
/-- The sums of the counts, by shifts. -/
def fold8 (y : Nat) : Nat :=
  let y1 := y + y / 256
  let y2 := y1 + y1 / 65536
  (y2 + y2 / 4294967296) % 128
theorem fold8_sum (p0 p1 p2 p3 p4 p5 p6 p7 : Nat) (h0 : p0 ≤ 8) (h1 : p1 ≤ 8) (h2 : p2 ≤ 8) (h3 : p3 ≤ 8) (h4 : p4 ≤ 8) (h5 : p5 ≤ 8) (h6 : p6 ≤ 8) (h7 : p7 ≤ 8) :
    fold8 (sum8 [p0, p1, p2, p3, p4, p5, p6, p7]) = p0 + p1 + p2 + p3 + p4 + p5 + p6 + p7 := by
  have e1 : sum8 [p0, p1, p2, p3, p4, p5, p6, p7] / 256 = sum8 [p1, p2, p3, p4, p5, p6, p7] := by simp only [sum8]; omega
  have e2 : sum8 [p0, p1, p2, p3, p4, p5, p6, p7] + sum8 [p1, p2, p3, p4, p5, p6, p7] = sum8 [p0 + p1, p1 + p2, p2 + p3, p3 + p4, p4 + p5, p5 + p6, p6 + p7, p7] := by simp only [sum8]; omega
  have e3 : sum8 [p0 + p1, p1 + p2, p2 + p3, p3 + p4, p4 + p5, p5 + p6, p6 + p7, p7] / 65536 = sum8 [p2 + p3, p3 + p4, p4 + p5, p5 + p6, p6 + p7, p7] := by
    generalize hx : sum8 [p2 + p3, p3 + p4, p4 + p5, p5 + p6, p6 + p7, p7] = x
    have : sum8 [p0 + p1, p1 + p2, p2 + p3, p3 + p4, p4 + p5, p5 + p6, p6 + p7, p7] = (p0 + p1) + 256 * (p1 + p2) + 65536 * x := by rw [← hx]; simp only [sum8]; omega
    rw [this]
    omega
  have e4 : sum8 [p0 + p1, p1 + p2, p2 + p3, p3 + p4, p4 + p5, p5 + p6, p6 + p7, p7] + sum8 [p2 + p3, p3 + p4, p4 + p5, p5 + p6, p6 + p7, p7] =
      (p0 + p1 + p2 + p3) + 256 * (p1 + p2 + p3 + p4) + 65536 * (p2 + p3 + p4 + p5) + 16777216 * (p3 + p4 + p5 + p6) + 4294967296 * sum8 [p4 + p5 + p6 + p7, p5 + p6 + p7, p6 + p7, p7] := by simp only [sum8]; omega
  have e5 : ((p0 + p1 + p2 + p3) + 256 * (p1 + p2 + p3 + p4) + 65536 * (p2 + p3 + p4 + p5) + 16777216 * (p3 + p4 + p5 + p6) + 4294967296 * sum8 [p4 + p5 + p6 + p7, p5 + p6 + p7, p6 + p7, p7]) / 4294967296 = sum8 [p4 + p5 + p6 + p7, p5 + p6 + p7, p6 + p7, p7] := by
    generalize sum8 [p4 + p5 + p6 + p7, p5 + p6 + p7, p6 + p7, p7] = x
    omega
  unfold fold8
  simp only
  rw [e1, e2, e3, e4, e5]
  simp only [sum8]
  omega
theorem eight (s : Nat) : ∃ p0 p1 p2 p3 p4 p5 p6 p7, bits8 8 s = [p0, p1, p2, p3, p4, p5, p6, p7] := ⟨_, _, _, _, _, _, _, _, rfl⟩
theorem count_par (s : Nat) : fold8 (par 8 s) = (listM s).length := by
  rw [par_sum]
  have hs := bits8_sum 8 s
  have hl := bits8_le 8 s
  obtain ⟨p0, p1, p2, p3, p4, p5, p6, p7, e⟩ := eight s
  rw [e] at hs hl ⊢
  rw [fold8_sum _ _ _ _ _ _ _ _ (hl _ (by simp)) (hl _ (by simp)) (hl _ (by simp)) (hl _ (by simp)) (hl _ (by simp)) (hl _ (by simp)) (hl _ (by simp)) (hl _ (by simp))]
  simp only [List.sum_cons, List.sum_nil] at hs
  have hc : (listM s).length = (List.range (8 * 8)).countP s.testBit := by unfold listM; rw [List.countP_eq_length_filter]
  rw [hc, ← hs]
  omega
theorem par_lt (s : Nat) : par 8 s ≤ 8 * 72340172838076673 := by
  rw [par_sum]
  have hl := bits8_le 8 s
  obtain ⟨p0, p1, p2, p3, p4, p5, p6, p7, e⟩ := eight s
  rw [e] at hl ⊢
  simp only [List.mem_cons, List.not_mem_nil, or_false, forall_eq_or_imp, forall_eq] at hl
  simp only [sum8]
  omega
end Kv
/-
  Layer 2 goes on: comparing lists, counting, sets of threads that are handed in.
-/
namespace Go.Proofs.YtiahgcaenneonaaDoor
open Go.RowKit Kv
theorem ofInt_i64 (a : Nat) (ha : a < 9223372036854775808) : (BitVec.ofInt 64 (a : Int)).toNat = a := by
  rw [BitVec.ofInt_natCast, BitVec.toNat_ofNat]; exact Nat.mod_eq_of_lt (by omega)
theorem i64_and_nat (a b : Nat) (ha : a < 9223372036854775808) (hb : b < 9223372036854775808) : bits .and .i64 (a : Int) (b : Int) = ((a &&& b : Nat) : Int) := by
  have hx : a &&& b < 2 ^ 63 := Nat.and_lt_two_pow _ (by omega)
  show IntKind.i64.wrap ((BitVec.ofInt 64 (a : Int) &&& BitVec.ofInt 64 (b : Int)).toNat : Int) = _
  rw [BitVec.toNat_and, ofInt_i64 a ha, ofInt_i64 b hb, IntKind.wrap_i64]
  omega
theorem u64w (x : Nat) (h : x < 18446744073709551616) : IntKind.u64.wrap ((x : Nat) : Int) = (x : Int) := by rw [IntKind.wrap_u64]; omega
theorem pop1 (s : Nat) (hs : s < 18446744073709551616) : IntKind.u64.wrap (bits .and .u64 ((s : Int) / 2) 6148914691236517205 + bits .and .u64 (s : Int) 6148914691236517205) = ((st1 (rep 85 8) s : Nat) : Int) := by
  have e : ((s / 2 : Nat) : Int) = (s : Int) / 2 := by omega
  have h1 := u64_and_nat (s / 2) 6148914691236517205 (by omega) (by omega)
  have h2 := u64_and_nat s 6148914691236517205 hs (by omega)
  rw [e] at h1
  rw [show ((6148914691236517205 : Nat) : Int) = 6148914691236517205 from rfl] at h1 h2
  rw [h1, h2]
  have hm : rep 85 8 = 6148914691236517205 := by decide
  unfold st1
  rw [hm, ← Int.natCast_add]
  refine u64w _ ?_
  have a1 : s / 2 &&& 6148914691236517205 ≤ 6148914691236517205 := Nat.and_le_right
  have a2 : s &&& 6148914691236517205 ≤ 6148914691236517205 := Nat.and_le_right
  omega
theorem pop2 (s : Nat) (hs : s < 18446744073709551616) : IntKind.u64.wrap (bits .and .u64 ((s : Int) / 4) 3689348814741910323 + bits .and .u64 (s : Int) 3689348814741910323) = ((st2 (rep 51 8) s : Nat) : Int) := by
  have e : ((s / 4 : Nat) : Int) = (s : Int) / 4 := by omega
  have h1 := u64_and_nat (s / 4) 3689348814741910323 (by omega) (by omega)
  have h2 := u64_and_nat s 3689348814741910323 hs (by omega)
  rw [e] at h1
  rw [show ((3689348814741910323 : Nat) : Int) = 3689348814741910323 from rfl] at h1 h2
  rw [h1, h2]
  have hm : rep 51 8 = 3689348814741910323 := by decide
  unfold st2
  rw [hm, ← Int.natCast_add]
  refine u64w _ ?_
  have a1 : s / 4 &&& 3689348814741910323 ≤ 3689348814741910323 := Nat.and_le_right
  have a2 : s &&& 3689348814741910323 ≤ 3689348814741910323 := Nat.and_le_right
  omega
theorem st1_lt (s : Nat) : st1 (rep 85 8) s < 18446744073709551616 := by
  have hm : rep 85 8 = 6148914691236517205 := by decide
  have a1 : s / 2 &&& 6148914691236517205 ≤ 6148914691236517205 := Nat.and_le_right
  have a2 : s &&& 6148914691236517205 ≤ 6148914691236517205 := Nat.and_le_right
  unfold st1
  rw [hm]
  omega
theorem st2_lt (s : Nat) : st2 (rep 51 8) s ≤ 7378697629483820646 := by
  have hm : rep 51 8 = 3689348814741910323 := by decide
  have a1 : s / 4 &&& 3689348814741910323 ≤ 3689348814741910323 := Nat.and_le_right
  have a2 : s &&& 3689348814741910323 ≤ 3689348814741910323 := Nat.and_le_right
  unfold st2
  rw [hm]
  omega
theorem pop3 (s : Nat) (hs : s ≤ 7378697629483820646) : bits .and .u64 (IntKind.u64.wrap ((s : Int) / 16 + (s : Int))) 1085102592571150095 = ((st3 (rep 15 8) s : Nat) : Int) := by
  have e : (s : Int) / 16 + (s : Int) = ((s / 16 + s : Nat) : Int) := by omega
  have hm : rep 15 8 = 1085102592571150095 := by decide
  rw [e, u64w _ (by omega)]
  have h1 := u64_and_nat (s / 16 + s) 1085102592571150095 (by omega) (by omega)
  rw [show ((1085102592571150095 : Nat) : Int) = 1085102592571150095 from rfl] at h1
  rw [h1]
  unfold st3
  rw [hm]
end Go.Proofs.YtiahgcaenneonaaDoor
/-
  A range over a set's threads: what the iterator hands out, and the law for loops over it.
-/
namespace Go.Proofs.YtiahgcaenneonaaDoor
open Go.RowKit Kv
attribute [local go_sem] Oper.semAt_some
theorem bruijn_at : ∀ k : Fin 64, 2 ^ k.val * 285870213051353865 % 18446744073709551616 / 288230376151711744 < 64 ∧ deBruijn64.getD (2 ^ k.val * 285870213051353865 % 18446744073709551616 / 288230376151711744) 0 = (k.val : Int) := by decide +kernel
theorem tz_key (x a : Nat) (hx : x < 18446744073709551616) (hx0 : x ≠ 0) (hlow : x &&& (18446744073709551616 - x) = a) :
    IntKind.u64.wrap (bits BinOp.and IntKind.u64 (x : Int) (IntKind.u64.wrap (-(x : Int))) * 285870213051353865) / 288230376151711744 = ((a * 285870213051353865 % 18446744073709551616 / 288230376151711744 : Nat) : Int) := by
  have e1 : IntKind.u64.wrap (-(x : Int)) = ((18446744073709551616 - x : Nat) : Int) := by rw [IntKind.wrap_u64]; omega
  rw [e1, u64_and_nat x _ hx (by omega), hlow, IntKind.wrap_u64]
  omega
theorem brCell {w : World} (T : Tabs w) (i : Nat) (hi : i < 64) : w.cell? ⟨0, i, none⟩ = some (.int .u8 (deBruijn64.getD i 0)) :=
  Lib.TabIs.cell T.bruijn (by kernel_rfl) i hi
theorem tz_core (x k idx : Nat) (w : World) (hx0 : ((x : Int) == 0) = false)
    (key : IntKind.u64.wrap (bits BinOp.and IntKind.u64 (x : Int) (IntKind.u64.wrap (-(x : Int))) * 285870213051353865) / 288230376151711744 = (idx : Int))
    (hi : idx < 64) (hk : k < 64) (hcell : w.cell? ⟨0, idx, none⟩ = some (.int .u8 k)) :
    Calls Tryd.prog 91 #[.int .u64 x] w fun e w' => e = .returned (.int .i64 k) ∧ w = w' := by
  go_enter Tryd.func91, Tryd.ntmps91
  go_wp2_with (simp only [key])
  go_ret
  exact ⟨rfl, rfl⟩
theorem tz_p (x : Nat) (hx : x < 18446744073709551616) (h0 : x ≠ 0) (w : World) (T : Tabs w) :
    Calls Tryd.prog 91 #[.int .u64 x] w fun e w' => e = .returned (.int .i64 (Go.Lib.ctz 64 x)) ∧ w = w' := by
  obtain ⟨hlow, hk⟩ := Go.Lib.lowest_bit 64 x h0 hx
  obtain ⟨hi, htab⟩ := bruijn_at ⟨_, hk⟩
  have hc := brCell T _ hi
  rw [htab] at hc
  exact tz_core x _ _ w (by rw [beq_eq_false_iff_ne]; omega) (tz_key x _ hx h0 hlow) hi hk hc
theorem each_p (s : Nat) (w : World) :
    Calls Tryd.prog 81 #[.int .u64 s] w fun e w' => e = .returned (.func (.func 90) #[] #[.pointer (some ⟨w.heap.size, 0, none⟩)]) ∧ w.alloc (.cells #[.int .u64 s] 91) = w' := by
  have hmf : ∀ (fn : Fn) (first cap : Array Value) (w : World), (Instr.makeFunc fn first cap).run Tryd.prog w = .ok (.func fn first cap) w := fun _ _ _ _ => rfl
  go_enter Tryd.func81, Tryd.ntmps81
  go_wp2
  go_ret
  exact ⟨rfl, rfl⟩

/-- A set's threads, each with its bound. -/
def listF (s : Nat) : List (Fin 64) := (listM s).attach.map fun x => ⟨x.1, listM_lt x.2⟩
theorem listF_val (s : Nat) : (listF s).map Fin.val = listM s := by
  unfold listF
  rw [List.map_map]
  exact List.attach_map_subtype_val _
theorem listF_inj : ∀ {a b : List (Fin 64)}, a.map Fin.val = b.map Fin.val → a = b
  | [], [], _ => rfl
  | [], _ :: _, h => by simp at h
  | _ :: _, [], h => by simp at h
  | x :: a, y :: b, h => by
    simp only [List.map_cons, List.cons.injEq] at h
    rw [Fin.ext h.1, listF_inj h.2]
theorem listF_low (x : Nat) (h0 : x ≠ 0) (hx : x < 18446744073709551616) (hk : Go.Lib.ctz 64 x < 64) : listF x = ⟨Go.Lib.ctz 64 x, hk⟩ :: listF (dropLow x) := by
  refine listF_inj ?_
  rw [listF_val, List.map_cons, listF_val, listM_low x h0 hx]
theorem listF_zero : listF 0 = [] := listF_inj (by rw [listF_val]; exact listM_zero)
theorem dropLow_bits64 (x : Nat) (hx : x < 18446744073709551616) (h0 : x ≠ 0) : bits .and .u64 (x : Int) ((x : Int) - 1) = ((dropLow x : Nat) : Int) := by
  rw [show (x : Int) - 1 = ((x - 1 : Nat) : Int) from by omega, u64_and_nat _ _ hx (by omega)]
  rfl
set_option maxRecDepth 100000 in
set_option maxHeartbeats 1000000 in
theorem each1_in (F : Fence) (n : Nat) (h6 : F.fn 90) (h7 : F.fn 91) (hro : F.round = none) (hwide : F = Fence.wide) (hn : 1 ≤ n) (l Bn n₀ : Nat) (s : Nat) (hs : s < 18446744073709551616) (J Jx : List (Fin 64) → World → Prop)
    (hY : ∀ pre x W, J pre W → pre.length < (listF s).length → YieldAt F (n - 1) Tryd.prog l #[.int .i64 (x.val : Nat)] W fun e W' =>
      (e = .returned (.bool true) ∧ J (pre ++ [x]) W' ∧ Below n₀ W W') ∨ (e = .returned (.bool false) ∧ Jx (pre ++ [x]) W'))
    (W : World) (hBn : W.cell? ⟨Bn, 0, none⟩ = some (.int .u64 s)) (hT : ∀ W', Below n₀ W W' → Tabs W') (h0 : J [] W) :
    CallsIn F n Tryd.prog 90 #[.func (.yield l) #[] #[], .pointer (some ⟨Bn, 0, none⟩)] W fun e W' => (∃ v, e = .returned v) ∧
      ((∃ ys, ys = listF s ∧ J ys W') ∨ (∃ pre, pre <+: listF s ∧ Jx pre W')) := by
  subst hwide
  refine callsIn_of_wp Tryd.func90 rfl h6 ?_ hro
  simp only [Tryd.ntmps90, List.size_toArray, List.length_cons, List.length_nil, Nat.reduceAdd, Nat.reduceSub, Array.replicate_succ, Array.replicate_zero, List.push_toArray, List.append_toArray, List.nil_append, List.cons_append]
  gi_wp2
  gi_loopw [3] (fun p wr => ∃ (pre : List (Fin 64)) (x : Nat), p = .int .u64 x ∧ x < 18446744073709551616 ∧ Hid (listF s = pre ++ listF x) ∧ Below n₀ W wr ∧ J pre wr)
    (fun p _ => (intOf p).toNat)
  case atStart =>
    exact ⟨[], s, rfl, hs, rfl, Below.refl _ _, h0⟩
  case round =>
    obtain ⟨pre, x, rfl, hx, hp, hB, hJs⟩ := hrel
    by_cases hz : x = 0
    · subst hz
      gi_wp2
      go_end0
      exact ⟨⟨_, rfl⟩, .inl ⟨pre, by rw [hp.out, listF_zero, List.append_nil], hJs⟩⟩
    · have hk := (Go.Lib.lowest_bit 64 x hz hx).2
      have hlow := Lib.hid (listF_low x hz hx hk)
      have hlt := dropLow_lt x hz
      have hd : (x != 0) = true := by rw [bne_iff_ne]; exact hz
      have hd2 : ((x : Int) != 0) = true := by rw [bne_iff_ne]; omega
      obtain ⟨fn, tmps, assign, body, hy, hR⟩ := hY pre ⟨_, hk⟩ wr hJs (by rw [hp.out, hlow.out]; simp)
      have htz := (callsIn_wide.2 (tz_p x hx hz wr (hT _ hB)) : CallsIn Fence.wide (n - 1) _ _ _ _ _)
      have hdl := Lib.hid (dropLow_bits64 x hx hz)
      gi_wp2_with fail
      refine htz.mono ?_
      rintro e w' ⟨rfl, rfl⟩
      clear htz
      gi_wp2_with fail
      refine hR.mono ?_
      rintro e W3 (⟨rfl, hJ3, hk3⟩ | ⟨rfl, hJx3⟩)
      · gi_wp2_with fail
        rw [hdl.out]
        refine ⟨⟨pre ++ [⟨_, hk⟩], dropLow x, rfl, by omega, ?_, hB.trans hk3, hJ3⟩, ?_⟩
        · unfold Hid
          rw [hp.out, hlow.out]
          simp
        · simp [intOf]
          omega
      · gi_wp2_with fail
        refine bodyPost_ret (results_none rfl _ _ _) rfl ?_
        exact ⟨⟨_, rfl⟩, .inr ⟨pre ++ [_], ⟨listF (dropLow x), by rw [hp.out, hlow.out]; simp⟩, hJx3⟩⟩

theorem each_stops (n : Nat) (hn : 1 ≤ n) (Bn n₀ : Nat) (s : Nat) (hs : s < 18446744073709551616) (w : World) (hBn : Bn < w.heap.size) (hn₀ : n₀ ≤ w.heap.size)
    (hc : w.cell? ⟨Bn, 0, none⟩ = some (.int .u64 s)) (hT : ∀ W', Below n₀ w W' → Tabs W') :
    SeqStopsK Fence.wide n Tryd.prog 90 #[.pointer (some ⟨Bn, 0, none⟩)] (fun x : Fin 64 => #[Value.int .i64 (x.val : Nat)]) (Below n₀) (fun ys => ys = listF s) (fun pre => pre <+: listF s) (listF s).length w := fun l J Jx W hW _ _ hY h0 =>
  each1_in Fence.wide n trivial trivial rfl rfl hn l Bn n₀ s hs J Jx hY W ((hW.cell (p := ⟨Bn, 0, none⟩) hBn).trans hc) (fun W' hB => hT W' ((hW.mono hn₀).trans hB)) h0
end Go.Proofs.YtiahgcaenneonaaDoor
/-
  Plain mathematics: unlike sets have unlike texts; threads handed in one by one are the set of them.
-/
namespace Kv
def txtStep (acc : List UInt8) (x : Int) : List UInt8 := (if acc = [] then [] else acc ++ [43]) ++ digits x
def txt (l : List Int) : List UInt8 := l.foldl txtStep []
theorem txt_snoc (l : List Int) (x : Int) : txt (l ++ [x]) = txtStep (txt l) x := by simp [txt]
theorem decDigits_ne (u : Nat) : Go.Lib.decDigits u ≠ [] := by
  rw [Go.Lib.decDigits]
  split <;> simp
theorem digits_ne (x : Int) : digits x ≠ [] := by
  unfold digits Go.Lib.itoa
  split
  · simp
  · exact decDigits_ne _
theorem txt_nil_iff (l : List Int) : txt l = [] ↔ l = [] := by
  constructor
  · intro h
    rcases List.eq_nil_or_concat l with rfl | ⟨l', x, rfl⟩
    · rfl
    · rw [List.concat_eq_append, txt_snoc] at h
      unfold txtStep at h
      simp [digits_ne] at h
  · rintro rfl; rfl
/-- The text from the front. -/
def txtR : List Int → List UInt8
  | [] => []
  | [x] => digits x
  | x :: y :: l => digits x ++ 43 :: txtR (y :: l)
theorem foldl_txtR : ∀ (l : List Int) (acc : List UInt8), acc ≠ [] → l.foldl txtStep acc = acc ++ (match l with | [] => [] | x :: r => 43 :: txtR (x :: r))
  | [], acc, _ => by simp
  | x :: l, acc, h => by
    have h2 : txtStep acc x ≠ [] := by unfold txtStep; simp [digits_ne]
    rw [List.foldl_cons, foldl_txtR l _ h2]
    unfold txtStep
    rw [if_neg h]
    cases l with
    | nil => simp [txtR]
    | cons y l => simp [txtR]
theorem txt_eq (l : List Int) : txt l = txtR l := by
  cases l with
  | nil => rfl
  | cons x l =>
    unfold txt
    rw [List.foldl_cons, foldl_txtR l _ (by unfold txtStep; simp [digits_ne])]
    cases l with
    | nil => simp [txtR, txtStep]
    | cons y l => simp [txtR, txtStep]
theorem digits_form (x : Nat) (h : x < 64) : digits (x : Int) = if x < 10 then [UInt8.ofNat (48 + x)] else [UInt8.ofNat (48 + x / 10), UInt8.ofNat (48 + x % 10)] := by
  unfold digits Go.Lib.itoa
  rw [if_neg (by omega), Int.toNat_natCast]
  split
  · rename_i h1; rw [decDigits_one _ h1]
  · rename_i h1; rw [decDigits_step _ (by omega), decDigits_one _ (by omega)]; rfl
theorem digits_plus (x : Nat) (h : x < 64) : (43 : UInt8) ∉ digits (x : Int) := by
  rw [digits_form x h]
  have key : ∀ d : Fin 10, (43 : UInt8) ≠ UInt8.ofNat (48 + d.val) := by decide
  split
  · rename_i h1
    simpa using key ⟨x, h1⟩
  · have h1 := key ⟨x / 10, by omega⟩
    have h2 := key ⟨x % 10, by omega⟩
    simp only [List.mem_cons, List.not_mem_nil, or_false, not_or]
    exact ⟨h1, h2⟩
theorem digits_inj (x y : Nat) (hx : x < 64) (hy : y < 64) (h : digits (x : Int) = digits (y : Int)) : x = y := by
  rw [digits_form x hx, digits_form y hy] at h
  have key : ∀ a b : Fin 10, UInt8.ofNat (48 + a.val) = UInt8.ofNat (48 + b.val) → a = b := by decide
  split at h <;> split at h
  · rename_i h1 h2
    have := key ⟨x, h1⟩ ⟨y, h2⟩ (by simpa using h)
    simpa using this
  · simp at h
  · simp at h
  · simp only [List.cons.injEq, and_true] at h
    have h1 := key ⟨x / 10, by omega⟩ ⟨y / 10, by omega⟩ h.1
    have h2 := key ⟨x % 10, by omega⟩ ⟨y % 10, by omega⟩ h.2
    simp only [Fin.mk.injEq] at h1 h2
    omega
theorem cut_plus : ∀ {a b : List UInt8} {r t : List UInt8}, (43 : UInt8) ∉ a → 43 ∉ b → (r = [] ∨ ∃ r', r = 43 :: r') → (t = [] ∨ ∃ t', t = 43 :: t') → a ++ r = b ++ t → a = b ∧ r = t
  | [], [], r, t, _, _, _, _, h => ⟨rfl, h⟩
  | [], y :: b, r, t, _, hb, hr, _, h => by
    rcases hr with rfl | ⟨r', rfl⟩
    · simp at h
    · simp only [List.nil_append, List.cons_append, List.cons.injEq] at h
      exact absurd (by rw [h.1]; simp) hb
  | x :: a, [], r, t, ha, _, _, ht, h => by
    rcases ht with rfl | ⟨t', rfl⟩
    · simp at h
    · simp only [List.nil_append, List.cons_append, List.cons.injEq] at h
      exact absurd (by rw [h.1]; simp) ha
  | x :: a, y :: b, r, t, ha, hb, hr, ht, h => by
    simp only [List.cons_append, List.cons.injEq] at h
    obtain ⟨rfl, h2⟩ := h
    obtain ⟨rfl, h3⟩ := cut_plus (fun hm => ha (by simp [hm])) (fun hm => hb (by simp [hm])) hr ht h2
    exact ⟨rfl, h3⟩
def smallI (l : List Int) : Prop := ∀ x ∈ l, ∃ k : Nat, x = (k : Int) ∧ k < 64
theorem txtR_ne (x : Int) (l : List Int) : txtR (x :: l) ≠ [] := by
  cases l <;> simp [txtR, digits_ne]
theorem txtR_cons (x : Int) (l : List Int) : txtR (x :: l) = digits x ++ (match l with | [] => [] | y :: r => 43 :: txtR (y :: r)) := by
  cases l <;> simp [txtR]
theorem txtR_inj : ∀ {a b : List Int}, smallI a → smallI b → txtR a = txtR b → a = b
  | [], [], _, _, _ => rfl
  | [], y :: b, _, _, h => absurd h.symm (txtR_ne y b)
  | x :: a, [], _, _, h => absurd h (txtR_ne x a)
  | x :: a, y :: b, ha, hb, h => by
    obtain ⟨k, rfl, hk⟩ := ha x (by simp)
    obtain ⟨m, rfl, hm⟩ := hb y (by simp)
    rw [txtR_cons, txtR_cons] at h
    obtain ⟨h1, h2⟩ := cut_plus (digits_plus k hk) (digits_plus m hm) (by cases a with | nil => exact .inl rfl | cons _ _ => exact .inr ⟨_, rfl⟩) (by cases b with | nil => exact .inl rfl | cons _ _ => exact .inr ⟨_, rfl⟩) h
    have e := digits_inj k m hk hm h1
    subst e
    have ha' : smallI a := fun z hz => ha z (by simp [hz])
    have hb' : smallI b := fun z hz => hb z (by simp [hz])
    cases a with
    | nil =>
      cases b with
      | nil => rfl
      | cons z b => simp at h2
    | cons z a =>
      cases b with
      | nil => simp at h2
      | cons z' b =>
        simp only [List.cons.injEq, true_and] at h2
        rw [txtR_inj ha' hb' h2]

/-- Of what is handed in, as many at most are in the set. -/
theorem countP_le_one (p : Nat → Bool) (k : Nat) (h : ∀ i, p i = true → i = k) : ∀ n, (List.range n).countP p ≤ 1 := by
  intro n
  have h1 : (List.range n).countP p ≤ (List.range n).countP (· == k) := by
    refine List.countP_mono_left fun i _ hp => ?_
    simp [h i hp]
  have h2 : (List.range n).countP (· == k) = (List.range n).count k := rfl
  have h3 := List.nodup_iff_count.1 (List.nodup_range (n := n)) k
  omega
theorem with_count (s : Nat) (t : Int) : (listM (withM s t)).length ≤ (listM s).length + 1 := by
  unfold listM
  rw [← List.countP_eq_length_filter, ← List.countP_eq_length_filter]
  have h : ∀ i, (withM s t).testBit i = true → (s.testBit i || decide (inSet t) && decide (i = t.toNat)) = true := fun i hi => by rw [← withM_testBit]; exact hi
  have h1 : (List.range 64).countP (withM s t).testBit ≤ (List.range 64).countP (fun i => s.testBit i || (decide (inSet t) && decide (i = t.toNat))) :=
    List.countP_mono_left fun i _ hi => h i hi
  have h2 : ∀ (l : List Nat) (p q : Nat → Bool), l.countP (fun i => p i || q i) ≤ l.countP p + l.countP q := by
    intro l p q
    induction l with
    | nil => simp
    | cons x l ih =>
      simp only [List.countP_cons]
      cases p x <;> cases q x <;> simp <;> omega
  have h3 := h2 (List.range 64) s.testBit (fun i => decide (inSet t) && decide (i = t.toNat))
  have h4 := countP_le_one (fun i => decide (inSet t) && decide (i = t.toNat)) t.toNat (fun i hi => by simp at hi; exact hi.2) 64
  omega
theorem of_count (l : List Int) : ∀ s, (listM (l.foldl withM s)).length ≤ (listM s).length + l.length := by
  induction l with
  | nil => intro s; simp
  | cons t l ih =>
    intro s
    have h1 := ih (withM s t)
    have h2 := with_count s t
    simp only [List.foldl_cons, List.length_cons]
    omega
theorem ofM_has (l : List Int) (t : Int) : hasM (ofM l) t = (l.any (fun x => x == t) && (decide (0 ≤ t) && decide (t < 64))) := by
  unfold ofM
  rw [hasM_testBit, ofM_testBit]
  simp only [Nat.zero_testBit, Bool.false_or]
  by_cases ht : inSet t
  · have h1 : 0 ≤ t := ht.1
    have h2 : t < 64 := ht.2
    simp only [ht, h1, h2, decide_true, Bool.true_and, Bool.and_true]
    congr 1
    funext x
    rw [Bool.eq_iff_iff]
    simp only [Bool.and_eq_true, decide_eq_true_eq, beq_iff_eq]
    constructor
    · rintro ⟨h3, h4⟩
      have := h3.1
      omega
    · rintro rfl
      exact ⟨ht, rfl⟩
  · have : (decide (0 ≤ t) && decide (t < 64)) = false := by
      rw [Bool.and_eq_false_iff]
      simp only [decide_eq_false_iff_not]
      unfold inSet at ht
      omega
    simp [ht, this]
end Kv
/-
  Layer 2: the functions that go through a set.
-/
namespace Go.Proofs.YtiahgcaenneonaaDoor
open Go.RowKit Kv
attribute [local go_sem] Oper.semAt_some
/-- The threads so far, as ints. -/
def fins (l : List (Fin 64)) : List Int := l.map fun x => (x.val : Int)
theorem fins_listF (s : Nat) : fins (listF s) = intsM s := by
  unfold fins intsM
  rw [← listF_val, List.map_map]
  rfl
theorem fins_snoc (l : List (Fin 64)) (x : Fin 64) : fins (l ++ [x]) = fins l ++ [(x.val : Int)] := by simp [fins]
theorem fins_length (l : List (Fin 64)) : (fins l).length = l.length := by simp [fins]
theorem listF_length (s : Nat) : (listF s).length ≤ 64 := by
  have := listM_length_le s
  rw [← listF_val, List.length_map] at this
  exact this
def textM (s : Nat) : List UInt8 := if s = 0 then [45] else txt (intsM s)
theorem digits_small (x : Fin 64) : (digits (x.val : Nat)).length ≤ 2 := by
  unfold digits Go.Lib.itoa
  rw [if_neg (by omega), Int.toNat_natCast]
  by_cases h : x.val < 10
  · rw [decDigits_one _ h]; simp
  · rw [decDigits_step _ (by omega), decDigits_one _ (by omega)]; simp
theorem txt_len : ∀ (l : List (Fin 64)), (txt (fins l)).length ≤ 3 * l.length := by
  intro l
  suffices h : ∀ (l : List (Fin 64)) (acc : List UInt8), ((fins l).foldl txtStep acc).length ≤ acc.length + 3 * l.length by
    have := h l []; simpa [txt] using this
  intro l
  induction l with
  | nil => intro acc; simp [fins]
  | cons x l ih =>
    intro acc
    have h1 := ih (txtStep acc x.val)
    have h2 : (txtStep acc (x.val : Nat)).length ≤ acc.length + 3 := by
      unfold txtStep
      have := digits_small x
      split <;> simp <;> omega
    show ((fins l).foldl txtStep (txtStep acc (x.val : Nat))).length ≤ _
    simp only [List.length_cons]
    omega
theorem boxed_others {W W' : World} {B : Nat} {t : TypeId} {v : Value} (h : Boxed W B t v) (ho : Lib.OthersKept 5 none W W') (ht : t ≠ 5) : Boxed W' B t v :=
  ho B _ h (by simp) (fun c fz e => ht (by injection e))
theorem keeps_others {W W' : World} (ho : Lib.OthersKept 5 none W W') (hs : W.heap.size ≤ W'.heap.size) : KeepsOthers W W' :=
  ⟨hs, fun k o hk hc => ho k o hk (by simp) (fun c fz e => by subst e; cases hc)⟩
theorem info_byte : (Tryd.prog.info? 5).map (fun i => (i.zero, i.size, i.bytes)) = some (some (.int .u8 0), 1, 1) := by kernel_rfl
theorem sliceOf {W : World} {base e size : Nat} {v : Value} {n : Nat} {xs : List Value} (h : W.ownsRow base e size v n xs) : ∃ A c, v = .slice A n c := by
  rcases h.2 with ⟨rfl, h0⟩ | ⟨g, cap, cur, rfl, _⟩
  · exact ⟨none, 0, by rw [h0]⟩
  · exact ⟨_, _, rfl⟩
theorem ints_small (s : Nat) (x : Int) (h : x ∈ intsM s) : 0 ≤ x ∧ x < 64 := by
  unfold intsM at h
  obtain ⟨k, hk, rfl⟩ := List.mem_map.1 h
  have := listM_lt hk
  omega
theorem take_fins (s j : Nat) : ∃ f : List (Fin 64), (intsM s).take j = fins f ∧ f.length ≤ 64 := by
  refine ⟨(listF s).take j, ?_, ?_⟩
  · rw [← fins_listF]
    unfold fins
    rw [List.map_take]
  · have := listF_length s
    rw [List.length_take]
    omega
end Go.Proofs.YtiahgcaenneonaaDoor
/-
  Layer 2: the chapter's examples.
-/
namespace Go.Proofs.YtiahgcaenneonaaDoor
open Go.RowKit Kv
/-- A list that was just laid. -/
theorem Ints.new (w : World) (l : List Int) (h : l.length ≤ 9223372036854775807) : Ints (w.alloc (.cells (l.map (Value.int .i64)).toArray 3)) (.slice (some ⟨w.heap.size, 0, none⟩) l.length l.length) l := by
  refine ⟨_, _, rfl, Nat.le_refl _, h, fun _ => ⟨w.heap.size, 0, rfl, by simp, fun i x hi => ?_⟩⟩
  have hh := World.alloc_heap_new w (.cells (l.map (Value.int .i64)).toArray 3)
  simp only [World.cell?, hh, Nat.zero_add]
  simp [hi]
theorem t03 : ofM [3, 0, 64] = 9 := by decide
theorem txt9 : textM 9 = [48, 43, 51] := by
  unfold textM
  rw [if_neg (by omega), show intsM 9 = [0, 3] from by decide, txt_eq]
  simp only [txtR]
  rw [show ((0 : Int)) = ((0 : Nat) : Int) from rfl, show ((3 : Int)) = ((3 : Nat) : Int) from rfl, digits_form 0 (by omega), digits_form 3 (by omega)]
  decide
end Go.Proofs.YtiahgcaenneonaaDoor
/-
  Layer 4 (plane): points' texts and ways from point to point.
-/
namespace Go.Proofs.YtiahgcaenneonaaDoor
open Go.RowKit Kv
theorem itoa_any (n : Int) (hn : -9223372036854775808 ≤ n) (hn' : n ≤ 9223372036854775807) (w : World) (T : Tabs w) :
    Calls Tryd.prog 55 #[.int .i64 n] w fun e w' => e = .returned (.string ⟨(digits n).toArray⟩) ∧ Ext w w' := by
  refine (Tryd.strconv_Itoa n hn hn' w T.pow10).mono ?_
  rintro e w' ⟨rfl, k, os, rfl⟩
  exact ⟨rfl, (Ext.refl _).grow _ _⟩
def ptText (p : Option (Int × Int)) : List UInt8 :=
  match p with
  | some (x, y) => digits x ++ (if y < 0 then [45] else [43]) ++ digits (max y (-y)) ++ [105]
  | none => []
theorem ptext_p (a b : Nat) (w : World) (T : Tabs w) :
    Calls Tryd.prog 25 #[.complex .f64 a b] w fun e w' => e = .returned (.string ⟨(ptText (ptOf a b)).toArray⟩) ∧ Ext w w' := by
  have hP := parts_p a b
  have hbd := pt_bd a b
  cases hp : ptOf a b with
  | none =>
    rw [hp] at hP
    go_enter Tryd.func25, Tryd.ntmps25
    go_wp2_with fail
    refine (hP _).mono ?_
    rintro e w' ⟨rfl, rfl⟩
    go_wp2_with fail
    go_ret
    exact ⟨rfl, Ext.refl _⟩
  | some p =>
    obtain ⟨x, y⟩ := p
    rw [hp] at hP hbd
    obtain ⟨b1, b2, b3, b4⟩ := hbd
    simp only [ptX, ptY] at b1 b2 b3 b4
    simp only [ptX, ptY, Option.isSome_some] at hP
    have hdx : (digits x).length ≤ 21 := Lib.itoa_length_le x (by omega) (by omega)
    have HT := Lib.hid T
    clear T
    by_cases hy : y < 0
    · have hmx : max y (-y) = -y := by omega
      have hdy : (digits (-y)).length ≤ 21 := Lib.itoa_length_le _ (by omega) (by omega)
      go_enter Tryd.func25, Tryd.ntmps25
      go_wp2_with fail
      refine (hP _).mono ?_
      rintro e w' ⟨rfl, rfl⟩
      go_wp2_with fail
      refine (itoa_any x (by omega) (by omega) _ HT.out).mono ?_
      rintro e w1 ⟨rfl, hx1⟩
      go_wp2_with fail
      refine (itoa_any (-y) (by omega) (by omega) _ (HT.out.ext hx1)).mono ?_
      rintro e w2 ⟨rfl, hx2⟩
      go_wp2_with fail
      go_ret
      refine ⟨congrArg (fun b => Ending.returned (Value.string b)) ?_, hx1.trans hx2⟩
      simp only [ptText, hy, hmx, if_true]
      rw [show (⟨#[45]⟩ : ByteArray) = ⟨([45] : List UInt8).toArray⟩ from rfl, show (⟨#[105]⟩ : ByteArray) = ⟨([105] : List UInt8).toArray⟩ from rfl, bytes_cat, bytes_cat, bytes_cat]
    · have hmx : max y (-y) = y := by omega
      have hdy : (digits y).length ≤ 21 := Lib.itoa_length_le _ (by omega) (by omega)
      go_enter Tryd.func25, Tryd.ntmps25
      go_wp2_with fail
      refine (hP _).mono ?_
      rintro e w' ⟨rfl, rfl⟩
      go_wp2_with fail
      refine (itoa_any x (by omega) (by omega) _ HT.out).mono ?_
      rintro e w1 ⟨rfl, hx1⟩
      go_wp2_with fail
      refine (itoa_any y (by omega) (by omega) _ (HT.out.ext hx1)).mono ?_
      rintro e w2 ⟨rfl, hx2⟩
      go_wp2_with fail
      go_ret
      refine ⟨congrArg (fun b => Ending.returned (Value.string b)) ?_, hx1.trans hx2⟩
      have hy2 : ¬ y < 0 := by omega
      simp only [ptText, if_neg hy2, hmx]
      rw [show (⟨#[43]⟩ : ByteArray) = ⟨([43] : List UInt8).toArray⟩ from rfl, show (⟨#[105]⟩ : ByteArray) = ⟨([105] : List UInt8).toArray⟩ from rfl, bytes_cat, bytes_cat, bytes_cat]
theorem digits_abs {y : Int} (h : y < 0) : digits y = 45 :: digits (-y) := by
  unfold digits Go.Lib.itoa
  rw [if_pos h, if_neg (by omega), show y.natAbs = (-y).toNat from by omega]
theorem digits_q (n : Int) (h0 : -9223372036854775808 ≤ n) (h1 : n ≤ 9223372036854775807) (W : World) (k : Nat) :
    Calls Tryd.prog 56 #[.int .i64 n] (W.drewN k) fun e w'' => e = .returned (.string ⟨(digits n).toArray⟩) ∧ ∃ m, w'' = W.drewN m :=
  (digits_r n h0 h1 _).mono fun _ _ h => ⟨h.1, k, h.2.symm⟩
set_option maxRecDepth 100000 in
theorem ptext_r (p : Option (Int × Int)) (h : ∀ q, p = some q → bdP q) (w : World) :
    Calls Tryd.prog 26 #[.agg #[.int .i64 (ptX p), .int .i64 (ptY p), .bool p.isSome]] w fun e w' => e = .returned (.string ⟨(ptText p).toArray⟩) ∧ Ext w w' := by
  cases p with
  | none =>
    go_enter Tryd.func26, Tryd.ntmps26
    go_wp2_with fail
    go_ret
    exact ⟨rfl, (Ext.refl _).alloc _⟩
  | some p =>
    obtain ⟨x, y⟩ := p
    obtain ⟨b1, b2, b3, b4⟩ := h _ rfl
    simp only at b1 b2 b3 b4
    simp only [ptX, ptY, Option.isSome_some]
    have hdx : (digits x).length ≤ 21 := Lib.itoa_length_le x (by omega) (by omega)
    have hdy : (digits y).length ≤ 21 := Lib.itoa_length_le y (by omega) (by omega)
    have f1 := Lib.hid (digits_q x (by omega) (by omega))
    have f2 := Lib.hid (digits_q y (by omega) (by omega))
    clear h
    have hc1 := fun W => run_string_add_lists (P := Tryd.prog) W (digits x) (digits y) (by omega) (by omega)
    have hc2 := fun W => run_string_add_lists (P := Tryd.prog) W (digits x ++ digits y) [105] (by rw [List.length_append]; omega) (by simp)
    have hc3 := fun W => run_string_add_lists (P := Tryd.prog) W (digits x) [43] (by omega) (by simp)
    have hc4 := fun W => run_string_add_lists (P := Tryd.prog) W (digits x ++ [43]) (digits y) (by rw [List.length_append, List.length_singleton]; omega) (by omega)
    have hc5 := fun W => run_string_add_lists (P := Tryd.prog) W (digits x ++ [43] ++ digits y) [105] (by rw [List.length_append, List.length_append, List.length_singleton]; omega) (by simp)
    by_cases hy : y < 0
    · have hmx : max y (-y) = -y := by omega
      go_enter Tryd.func26, Tryd.ntmps26
      go_wp2_with fail
      go_quiet (first | (go_at_call_of 56 (Value.int IntKind.i64 x); exact f1.out _ _) | (go_at_call_of 56 (Value.int IntKind.i64 y); exact f2.out _ _))
      go_wp2_with fail
      go_ret
      refine ⟨congrArg (fun b => Ending.returned (Value.string b)) ?_, ((Ext.refl _).alloc _).trans (Drew.mk' _ _).ext⟩
      simp only [ptText, if_pos hy, hmx]
      apply ByteArray.ext
      simp [digits_abs hy]
    · have hmx : max y (-y) = y := by omega
      go_enter Tryd.func26, Tryd.ntmps26
      go_wp2_with fail
      go_quiet (first | (go_at_call_of 56 (Value.int IntKind.i64 x); exact f1.out _ _) | (go_at_call_of 56 (Value.int IntKind.i64 y); exact f2.out _ _))
      go_wp2_with fail
      go_ret
      refine ⟨congrArg (fun b => Ending.returned (Value.string b)) ?_, ((Ext.refl _).alloc _).trans (Drew.mk' _ _).ext⟩
      have hy2 : ¬ y < 0 := by omega
      simp only [ptText, if_neg hy2, hmx]
      apply ByteArray.ext
      simp
end Go.Proofs.YtiahgcaenneonaaDoor
/-
  Layer 4 (plane): going a way.
-/
namespace Go.Proofs.YtiahgcaenneonaaDoor
open Go.RowKit Kv
/-- One letter's step. -/
def stepM (c : Nat) : Option (Int × Int) := if c = 114 then some (1, 0) else if c = 108 then some (-1, 0) else if c = 100 then some (0, 1) else if c = 117 then some (0, -1) else none
/-- Where a way leads, with the error's number. -/
def goL : List UInt8 → Int × Int → Option (Int × Int) × Int
  | [], p => (some p, 0)
  | c :: l, p => match stepM c.toNat with
    | none => (none, 3)
    | some d => if inR2 (p.1 + d.1) (p.2 + d.2) then goL l (p.1 + d.1, p.2 + d.2) else (none, 6)
def stepV (c : Nat) : Value := match stepM c with
  | some d => .tuple #[.complex .f64 (floatOfInt .f64 d.1) (floatOfInt .f64 d.2), .bool true]
  | none => .tuple #[.complex .f64 0 0, .bool false]
theorem f1 : floatOfInt .f64 1 = 4607182418800017408 := by decide +kernel
theorem fm1 : floatOfInt .f64 (-1) = 13830554455654793216 := by decide +kernel
theorem step_p (c : Nat) (w : World) :
    Calls Tryd.prog 59 #[.int .u8 c] w fun e w' => e = .returned (stepV c) ∧ w = w' := by
  by_cases h1 : c = 114
  · subst h1
    rw [show stepV 114 = .tuple #[.complex .f64 (floatOfInt .f64 1) (floatOfInt .f64 0), .bool true] from rfl, f1, w0]
    go_enter Tryd.func59, Tryd.ntmps59
    go_wp2_with fail
    go_ret2
    exact ⟨rfl, rfl⟩
  · have e1 : ((c : Int) == 114) = false := by rw [beq_eq_false_iff_ne]; omega
    by_cases h2 : c = 108
    · subst h2
      rw [show stepV 108 = .tuple #[.complex .f64 (floatOfInt .f64 (-1)) (floatOfInt .f64 0), .bool true] from rfl, fm1, w0]
      clear e1
      go_enter Tryd.func59, Tryd.ntmps59
      go_wp2_with fail
      go_ret2
      exact ⟨rfl, rfl⟩
    · have e2 : ((c : Int) == 108) = false := by rw [beq_eq_false_iff_ne]; omega
      by_cases h3 : c = 100
      · subst h3
        rw [show stepV 100 = .tuple #[.complex .f64 (floatOfInt .f64 0) (floatOfInt .f64 1), .bool true] from rfl, f1, w0]
        clear e1 e2
        go_enter Tryd.func59, Tryd.ntmps59
        go_wp2_with fail
        go_ret2
        exact ⟨rfl, rfl⟩
      · have e3 : ((c : Int) == 100) = false := by rw [beq_eq_false_iff_ne]; omega
        by_cases h4 : c = 117
        · subst h4
          rw [show stepV 117 = .tuple #[.complex .f64 (floatOfInt .f64 0) (floatOfInt .f64 (-1)), .bool true] from rfl, fm1, w0]
          clear e1 e2 e3
          go_enter Tryd.func59, Tryd.ntmps59
          go_wp2_with fail
          go_ret2
          exact ⟨rfl, rfl⟩
        · have e4 : ((c : Int) == 117) = false := by rw [beq_eq_false_iff_ne]; omega
          rw [show stepV c = .tuple #[.complex .f64 0 0, .bool false] from by simp [stepV, stepM, h1, h2, h3, h4]]
          go_enter Tryd.func59, Tryd.ntmps59
          go_wp2_with fail
          go_ret2
          exact ⟨rfl, rfl⟩
end Go.Proofs.YtiahgcaenneonaaDoor
/-
  Layer 4 (plane): going a way, program and document.
-/
namespace Go.Proofs.YtiahgcaenneonaaDoor
open Go.RowKit Kv
def goV (r : Option (Int × Int) × Int) : Value := match r with
  | (some p, e) => .tuple #[.complex .f64 (floatOfInt .f64 p.1) (floatOfInt .f64 p.2), .int .i64 e]
  | (none, e) => .tuple #[.complex .f64 0 0, .int .i64 e]
theorem step_bd {c : Nat} {d : Int × Int} (h : stepM c = some d) : -1 ≤ d.1 ∧ d.1 ≤ 1 ∧ -1 ≤ d.2 ∧ d.2 ≤ 1 := by
  unfold stepM at h
  repeat' split at h
  all_goals first | (injection h with h; subst h; simp; done) | cases h
theorem inR2_iff (x y : Int) : inR2 x y = true ↔ bdP (x, y) := by
  unfold inR2 bdP
  rw [Bool.and_eq_true, inR_iff, inR_iff]
  exact ⟨fun h => ⟨h.1.1, h.1.2, h.2.1, h.2.2⟩, fun h => ⟨⟨h.1, h.2.1⟩, h.2.2.1, h.2.2.2⟩⟩
theorem cadd {p d : Int × Int} (hp : bdP p) (hd : -1 ≤ d.1 ∧ d.1 ≤ 1 ∧ -1 ≤ d.2 ∧ d.2 ≤ 1) :
    ∃ re im, cSumBits .add .f64 (floatOfInt .f64 p.1) (floatOfInt .f64 p.2) (floatOfInt .f64 d.1) (floatOfInt .f64 d.2) = some (re, im) ∧
      ptOf re im = if inR2 (p.1 + d.1) (p.2 + d.2) then some (p.1 + d.1, p.2 + d.2) else none := by
  obtain ⟨a1, a2, a3, a4⟩ := hp
  obtain ⟨b1, b2, b3, b4⟩ := hd
  obtain ⟨r1, g1, n1⟩ := add_num (num_F p.1 (by omega) (by omega)) (num_F d.1 (by omega) (by omega)) (by omega) (by omega)
  obtain ⟨r2, g2, n2⟩ := add_num (num_F p.2 (by omega) (by omega)) (num_F d.2 (by omega) (by omega)) (by omega) (by omega)
  have e1 : floatBits .add .f64 (floatOfInt .f64 p.1) (floatOfInt .f64 d.1) = some r1 := g1
  have e2 : floatBits .add .f64 (floatOfInt .f64 p.2) (floatOfInt .f64 d.2) = some r2 := g2
  refine ⟨r1, r2, ?_, ?_⟩
  · unfold cSumBits
    rw [e1, e2]
    rfl
  · unfold ptOf
    rw [partOf_wide n1, partOf_wide n2]
    cases f1 : inR (p.1 + d.1) <;> cases f2 : inR (p.2 + d.2) <;> simp [inR2, f1, f2]
theorem goL_at (l : List UInt8) (i : Nat) (hi : i < l.length) (p : Int × Int) : goL (l.drop i) p = match stepM l[i].toNat with
    | none => (none, 3)
    | some d => if inR2 (p.1 + d.1) (p.2 + d.2) then goL (l.drop (i + 1)) (p.1 + d.1, p.2 + d.2) else (none, 6) := by
  rw [List.drop_eq_getElem_cons hi]
  rfl
theorem go_p (a b : Nat) (l : List UInt8) (hl : l.length ≤ 9223372036854775807) (w : World) :
    Calls Tryd.prog 32 #[.complex .f64 a b, .string ⟨l.toArray⟩] w fun e w' => e = .returned (goV (match ptOf a b with | some p => goL l p | none => (none, 1))) ∧ w = w' := by
  have hA := tidy_p a b
  have hbd := pt_bd a b
  cases hp : ptOf a b with
  | none =>
    rw [hp] at hA
    clear hbd
    go_enter Tryd.func32, Tryd.ntmps32
    go_wp2_with fail
    refine (hA _).mono ?_
    rintro e w' ⟨rfl, rfl⟩
    go_wp2_with fail
    go_ret2
    exact ⟨rfl, rfl⟩
  | some p =>
    rw [hp] at hA hbd
    have hb2 : bdP p := hbd
    show Calls Tryd.prog 32 _ _ fun e w' => e = .returned (goV (goL l p)) ∧ w = w'
    clear hbd
    go_enter Tryd.func32, Tryd.ntmps32
    go_wp2_with fail
    refine (hA _).mono ?_
    rintro e w' ⟨rfl, rfl⟩
    go_wp2_with fail
    go_loopw [6, 20] (fun z i wr => ∃ (j : Nat) (q : Int × Int), z = .complex .f64 (floatOfInt .f64 q.1) (floatOfInt .f64 q.2) ∧ i = .int .i64 j ∧ j ≤ l.length ∧ bdP q ∧ Hid (goL (l.drop j) q = goL l p) ∧ w = wr) (fun _ i _ => l.length - (intOf i).toNat)
    case atStart => exact ⟨0, p, rfl, rfl, by omega, hb2, by unfold Hid; rw [List.drop_zero], rfl⟩
    case round =>
      obtain ⟨j, q, rfl, rfl, hj, hq, hg, rfl⟩ := hrel
      by_cases hlt : j < l.length
      · have hgo := hg.out
        rw [goL_at l j hlt q] at hgo
        have hst := fun w => step_p l[j].toNat w
        unfold stepV at hst
        have hgo := Lib.hid hgo
        have hsth := Lib.hid hst
        clear hst
        go_wp2_with fail
        have hst := hsth.out
        have hgo := hgo.out
        cases hs : stepM l[j].toNat with
        | none =>
          rw [hs] at hst hgo
          have hgo := Lib.hid hgo
          clear hg hsth
          refine (hst _).mono ?_
          rintro e w' ⟨rfl, rfl⟩
          go_wp2_with fail
          go_ret2
          rw [← hgo.out]
          exact ⟨rfl, rfl⟩
        | some d =>
          rw [hs] at hst hgo
          obtain ⟨re, im, hsum, hpt⟩ := cadd hq (step_bd hs)
          have hT := tidy_p re im
          have hadd := fun W => run_complex_sum (P := Tryd.prog) W .add (.inl rfl) 54 .f64 (floatOfInt .f64 q.1) (floatOfInt .f64 q.2) (floatOfInt .f64 d.1) (floatOfInt .f64 d.2) re im hsum
          rw [hpt] at hT
          refine (hst _).mono ?_
          rintro e w' ⟨rfl, rfl⟩
          clear hst hsth
          by_cases hin : inR2 (q.1 + d.1) (q.2 + d.2) = true
          · simp only [hin, if_true] at hT hgo
            have hq2 := (inR2_iff _ _).1 hin
            have hgo := Lib.hid hgo
            have hq2 := Lib.hid hq2
            clear hin hpt hg hq
            go_wp2_with fail
            refine (hT _).mono ?_
            rintro e w' ⟨rfl, rfl⟩
            go_wp2_with fail
            refine ⟨⟨j + 1, (q.1 + d.1, q.2 + d.2), rfl, by go_num, by omega, hq2.out, hgo, by trivial⟩, ?_⟩
            simp [intOf]; omega
          · have hin : inR2 (q.1 + d.1) (q.2 + d.2) = false := by simpa using hin
            simp only [hin, if_false, Bool.false_eq_true] at hT hgo
            have hgo := Lib.hid hgo
            clear hin hpt hg hq
            go_wp2_with fail
            refine (hT _).mono ?_
            rintro e w' ⟨rfl, rfl⟩
            go_wp2_with fail
            go_ret2
            rw [← hgo.out]
            exact ⟨rfl, rfl⟩
      · obtain rfl : j = l.length := by omega
        have hfin : Hid (goL l p = (some q, 0)) := by
          unfold Hid
          rw [← hg.out, List.drop_length]
          rfl
        clear hg hq
        go_wp2_with fail
        go_ret2
        rw [hfin.out]
        exact ⟨rfl, rfl⟩
theorem heap_at {w : World} {b : Nat} {cs : Array Value} {t : TypeId} {fz : Nat × Nat} (h : w.heap[b]? = some (.cells cs t fz)) (i : Nat) : w.cell? ⟨b, i, none⟩ = cs[i]? := by
  simp [World.cell?, h]
theorem heap_put {w : World} {b i : Nat} {cs : Array Value} {t : TypeId} {fz : Nat × Nat} (h : w.heap[b]? = some (.cells cs t fz)) (v : Value) :
    (w.setCell ⟨b, i, none⟩ v).heap[b]? = some (.cells (cs.setIfInBounds i v) t fz) := by
  simp [World.setCell, Array.getElem?_modify, h]
theorem heap_put_ne (w : World) {b i k : Nat} (v : Value) (h : k ≠ b) : (w.setCell ⟨b, i, none⟩ v).heap[k]? = w.heap[k]? := Below.heap_setCell _ _ _ _ h
theorem heap_free {w : World} {b : Nat} {cs : Array Value} {t : TypeId} (h : w.heap[b]? = some (.cells cs t (0, 0))) (i : Nat) : w.frozen? ⟨b, i, none⟩ = false := by
  simp [World.frozen?, h]
theorem Ext.setCells {w0 w : World} (h : Ext w0 w) {g : Nat} (hg : w0.heap.size ≤ g) : ∀ (vs : List Value) (o : Nat), Ext w0 (w.setCells g o vs) := by
  intro vs
  induction vs generalizing w with
  | nil => intro o; exact h
  | cons v vs ih => intro o; exact ih (h.setCell (p := ⟨g, o, none⟩) hg v) (o + 1)
/-- A point of the document, as its struct. -/
def pV (p : Option (Int × Int)) : Value := .agg #[.int .i64 (ptX p), .int .i64 (ptY p), .bool p.isSome]
theorem go_r_none (l : List UInt8) (w : World) :
    Calls Tryd.prog 33 #[.agg #[.int .i64 0, .int .i64 0, .bool false], .string ⟨l.toArray⟩] w fun e w' => e = .returned (.tuple #[.agg #[.int .i64 0, .int .i64 0, .bool false], .int .i64 1]) ∧ Ext w w' := by
  go_enter Tryd.func33, Tryd.ntmps33
  go_wp2_with fail
  refine bodyPost_ret (v := .tuple #[.agg #[.int .i64 0, .int .i64 0, .bool false], .int .i64 1]) (by simp [results, Tryd.results33, go_sem]) rfl ?_
  exact ⟨rfl, ((Ext.refl _).alloc _).alloc _⟩
set_option maxRecDepth 100000 in
theorem go_r_some (p : Int × Int) (hb : bdP p) (l : List UInt8) (hl : l.length ≤ 9223372036854775807) (w : World) :
    Calls Tryd.prog 33 #[.agg #[.int .i64 p.1, .int .i64 p.2, .bool true], .string ⟨l.toArray⟩] w fun e w' => e = .returned (.tuple #[pV (goL l p).1, .int .i64 (goL l p).2]) ∧ Ext w w' := by
  go_enter Tryd.func33, Tryd.ntmps33
  go_wp2_with fail
  have hA0 : ((w.alloc (.cells #[.int .i64 p.1, .int .i64 p.2, .bool true] 56)).alloc (.cells #[.int .i64 0, .int .i64 0, .bool false] 56)).heap[w.heap.size]? = some (.cells #[.int .i64 p.1, .int .i64 p.2, .bool true] 56 (0, 0)) := (Below.heap_alloc _ _ _ (by simp)).trans (heap_alloc_new w _)
  have hA1 : ((w.alloc (.cells #[.int .i64 p.1, .int .i64 p.2, .bool true] 56)).alloc (.cells #[.int .i64 0, .int .i64 0, .bool false] 56)).heap[w.heap.size + 1]? = some (.cells #[.int .i64 0, .int .i64 0, .bool false] 56 (0, 0)) := by
    have := heap_alloc_new (w.alloc (.cells #[.int .i64 p.1, .int .i64 p.2, .bool true] 56)) (.cells #[.int .i64 0, .int .i64 0, .bool false] 56)
    rw [World.size_alloc] at this
    exact this
  have hX := ((Ext.refl w).alloc (.cells #[.int .i64 p.1, .int .i64 p.2, .bool true] 56)).alloc (.cells #[.int .i64 0, .int .i64 0, .bool false] 56)
  generalize World.alloc (World.alloc w _) _ = W at *
  go_loopw [6] (fun i wr => ∃ (j : Nat) (q : Int × Int), i = .int .i64 j ∧ j ≤ l.length ∧ bdP q ∧ Hid (goL (l.drop j) q = goL l p) ∧ wr.heap[w.heap.size]? = some (.cells #[.int .i64 q.1, .int .i64 q.2, .bool true] 56 (0, 0)) ∧ wr.heap[w.heap.size + 1]? = some (.cells #[.int .i64 0, .int .i64 0, .bool false] 56 (0, 0)) ∧ Ext w wr) (fun i _ => l.length - (intOf i).toNat)
  case atStart => exact ⟨0, p, rfl, by omega, hb, Lib.hid (by rw [List.drop_zero]), hA0, hA1, hX⟩
  case round =>
    clear hA0 hA1 hX
    obtain ⟨j, q, rfl, hj, hq, hg, hH0, hH1, hX⟩ := hrel
    obtain ⟨b1, b2, b3, b4⟩ := hq
    have hc0 := fun i => heap_at hH0 i
    have hf0 := fun i => heap_free hH0 i
    have hf1 := fun i => heap_free hH1 i
    by_cases hlt : j < l.length
    · have hgo := hg.out
      rw [goL_at l j hlt q] at hgo
      obtain ⟨c, hcc⟩ : ∃ c, l[j].toNat = c := ⟨_, rfl⟩
      have hci : (({ data := l.toArray } : ByteArray)[j]'(show j < l.length from hlt)).toNat = c := hcc
      rw [hcc] at hgo
      clear hcc
      have hgo1 := Lib.hid hgo
      clear hgo
      go_upto_region 8 with fail
      by_cases hc : c = 114
      · subst hc
        have hgo : (if inR2 (q.1 + 1) (q.2) = true then goL (l.drop (j + 1)) (q.1 + 1, q.2) else (none, 6)) = goL l p := by
          have := hgo1.out
          rw [show stepM 114 = some (1, 0) from rfl] at this
          rw [← this]
          simp only [Int.add_zero]
        have hw1 := IntWalk.i64_in (q.1 + 1) (by omega)
        have hRt := fun w => right_r (q.1 + 1) (q.2) w
        have hN0 : (wr.setCell ⟨w.heap.size, 0, none⟩ (.int .i64 (q.1 + 1))).heap[w.heap.size]? = some (.cells #[.int .i64 (q.1 + 1), .int .i64 (q.2), .bool true] 56 (0, 0)) := heap_put (i := 0) hH0 (.int .i64 (q.1 + 1))
        have hN1 := (heap_put_ne (b := w.heap.size) (i := 0) (k := w.heap.size + 1) wr (.int .i64 (q.1 + 1)) (by omega)).trans hH1
        have hX2 := hX.setCell (p := ⟨w.heap.size, 0, none⟩) (Nat.le_refl _) (.int .i64 (q.1 + 1))
        clear hgo1 hg
        go_wp2_with fail
        clear hc0 hf0 hf1 hH0 hH1 hX
        generalize wr.setCell _ _ = W2 at *
        have hc2 := fun i => heap_at hN0 i
        have hf2 := fun i => heap_free hN0 i
        have hf3 := fun i => heap_free hN1 i
        have hc3 := fun i => heap_at hN1 i
        refine (hRt _).mono ?_
        rintro e w' ⟨rfl, rfl⟩
        cases hin : inR2 (q.1 + 1) (q.2) with
        | true =>
          rw [hin, if_pos rfl] at hgo
          have hq2 := (inR2_iff _ _).1 hin
          have hgo := Lib.hid hgo
          have hq2 := Lib.hid hq2
          clear hin
          go_wp2_with fail
          refine ⟨⟨j + 1, (q.1 + 1, q.2), by go_num, by omega, hq2.out, hgo, hN0, hN1, hX2⟩, ?_⟩
          simp [intOf]; omega
        | false =>
          rw [hin] at hgo
          have hgo := Lib.hid hgo
          clear hin
          go_wp2_with fail
          have hfin := heap_put (i := 2) (heap_put (i := 1) (heap_put (i := 0) hN1 (.int .i64 0)) (.int .i64 0)) (.bool false)
          have hcf := fun i => heap_at hfin i
          refine bodyPost_ret (v := .tuple #[.agg #[.int .i64 0, .int .i64 0, .bool false], .int .i64 6]) (by simp [results, Tryd.results33, go_sem, hcf]) rfl ?_
          exact ⟨by rw [← hgo.out]; rfl, (((hX2).setCell (p := ⟨w.heap.size + 1, 0, none⟩) (Nat.le_succ _) _).setCell (p := ⟨w.heap.size + 1, 1, none⟩) (Nat.le_succ _) _).setCell (p := ⟨w.heap.size + 1, 2, none⟩) (Nat.le_succ _) _⟩
      have t0 : ((c : Int) == 114) = false := by rw [beq_eq_false_iff_ne]; omega
      have n0 : ¬ c = 114 := hc
      clear hc
      by_cases hc : c = 108
      · subst hc
        have hgo : (if inR2 (q.1 - 1) (q.2) = true then goL (l.drop (j + 1)) (q.1 - 1, q.2) else (none, 6)) = goL l p := by
          have := hgo1.out
          rw [show stepM 108 = some (-1, 0) from rfl] at this
          rw [← this]
          simp only [Int.add_zero, Int.sub_eq_add_neg]
        have hw1 := IntWalk.i64_in (q.1 - 1) (by omega)
        have hRt := fun w => right_r (q.1 - 1) (q.2) w
        have hN0 : (wr.setCell ⟨w.heap.size, 0, none⟩ (.int .i64 (q.1 - 1))).heap[w.heap.size]? = some (.cells #[.int .i64 (q.1 - 1), .int .i64 (q.2), .bool true] 56 (0, 0)) := heap_put (i := 0) hH0 (.int .i64 (q.1 - 1))
        have hN1 := (heap_put_ne (b := w.heap.size) (i := 0) (k := w.heap.size + 1) wr (.int .i64 (q.1 - 1)) (by omega)).trans hH1
        have hX2 := hX.setCell (p := ⟨w.heap.size, 0, none⟩) (Nat.le_refl _) (.int .i64 (q.1 - 1))
        clear hgo1 hg
        go_wp2_with fail
        clear hc0 hf0 hf1 hH0 hH1 hX
        generalize wr.setCell _ _ = W2 at *
        have hc2 := fun i => heap_at hN0 i
        have hf2 := fun i => heap_free hN0 i
        have hf3 := fun i => heap_free hN1 i
        have hc3 := fun i => heap_at hN1 i
        refine (hRt _).mono ?_
        rintro e w' ⟨rfl, rfl⟩
        cases hin : inR2 (q.1 - 1) (q.2) with
        | true =>
          rw [hin, if_pos rfl] at hgo
          have hq2 := (inR2_iff _ _).1 hin
          have hgo := Lib.hid hgo
          have hq2 := Lib.hid hq2
          clear hin
          go_wp2_with fail
          refine ⟨⟨j + 1, (q.1 - 1, q.2), by go_num, by omega, hq2.out, hgo, hN0, hN1, hX2⟩, ?_⟩
          simp [intOf]; omega
        | false =>
          rw [hin] at hgo
          have hgo := Lib.hid hgo
          clear hin
          go_wp2_with fail
          have hfin := heap_put (i := 2) (heap_put (i := 1) (heap_put (i := 0) hN1 (.int .i64 0)) (.int .i64 0)) (.bool false)
          have hcf := fun i => heap_at hfin i
          refine bodyPost_ret (v := .tuple #[.agg #[.int .i64 0, .int .i64 0, .bool false], .int .i64 6]) (by simp [results, Tryd.results33, go_sem, hcf]) rfl ?_
          exact ⟨by rw [← hgo.out]; rfl, (((hX2).setCell (p := ⟨w.heap.size + 1, 0, none⟩) (Nat.le_succ _) _).setCell (p := ⟨w.heap.size + 1, 1, none⟩) (Nat.le_succ _) _).setCell (p := ⟨w.heap.size + 1, 2, none⟩) (Nat.le_succ _) _⟩
      have t1 : ((c : Int) == 108) = false := by rw [beq_eq_false_iff_ne]; omega
      have n1 : ¬ c = 108 := hc
      clear hc
      by_cases hc : c = 100
      · subst hc
        have hgo : (if inR2 (q.1) (q.2 + 1) = true then goL (l.drop (j + 1)) (q.1, q.2 + 1) else (none, 6)) = goL l p := by
          have := hgo1.out
          rw [show stepM 100 = some (0, 1) from rfl] at this
          rw [← this]
          simp only [Int.add_zero]
        have hw1 := IntWalk.i64_in (q.2 + 1) (by omega)
        have hRt := fun w => right_r (q.1) (q.2 + 1) w
        have hN0 : (wr.setCell ⟨w.heap.size, 1, none⟩ (.int .i64 (q.2 + 1))).heap[w.heap.size]? = some (.cells #[.int .i64 (q.1), .int .i64 (q.2 + 1), .bool true] 56 (0, 0)) := heap_put (i := 1) hH0 (.int .i64 (q.2 + 1))
        have hN1 := (heap_put_ne (b := w.heap.size) (i := 1) (k := w.heap.size + 1) wr (.int .i64 (q.2 + 1)) (by omega)).trans hH1
        have hX2 := hX.setCell (p := ⟨w.heap.size, 1, none⟩) (Nat.le_refl _) (.int .i64 (q.2 + 1))
        clear hgo1 hg
        go_wp2_with fail
        clear hc0 hf0 hf1 hH0 hH1 hX
        generalize wr.setCell _ _ = W2 at *
        have hc2 := fun i => heap_at hN0 i
        have hf2 := fun i => heap_free hN0 i
        have hf3 := fun i => heap_free hN1 i
        have hc3 := fun i => heap_at hN1 i
        refine (hRt _).mono ?_
        rintro e w' ⟨rfl, rfl⟩
        cases hin : inR2 (q.1) (q.2 + 1) with
        | true =>
          rw [hin, if_pos rfl] at hgo
          have hq2 := (inR2_iff _ _).1 hin
          have hgo := Lib.hid hgo
          have hq2 := Lib.hid hq2
          clear hin
          go_wp2_with fail
          refine ⟨⟨j + 1, (q.1, q.2 + 1), by go_num, by omega, hq2.out, hgo, hN0, hN1, hX2⟩, ?_⟩
          simp [intOf]; omega
        | false =>
          rw [hin] at hgo
          have hgo := Lib.hid hgo
          clear hin
          go_wp2_with fail
          have hfin := heap_put (i := 2) (heap_put (i := 1) (heap_put (i := 0) hN1 (.int .i64 0)) (.int .i64 0)) (.bool false)
          have hcf := fun i => heap_at hfin i
          refine bodyPost_ret (v := .tuple #[.agg #[.int .i64 0, .int .i64 0, .bool false], .int .i64 6]) (by simp [results, Tryd.results33, go_sem, hcf]) rfl ?_
          exact ⟨by rw [← hgo.out]; rfl, (((hX2).setCell (p := ⟨w.heap.size + 1, 0, none⟩) (Nat.le_succ _) _).setCell (p := ⟨w.heap.size + 1, 1, none⟩) (Nat.le_succ _) _).setCell (p := ⟨w.heap.size + 1, 2, none⟩) (Nat.le_succ _) _⟩
      have t2 : ((c : Int) == 100) = false := by rw [beq_eq_false_iff_ne]; omega
      have n2 : ¬ c = 100 := hc
      clear hc
      by_cases hc : c = 117
      · subst hc
        have hgo : (if inR2 (q.1) (q.2 - 1) = true then goL (l.drop (j + 1)) (q.1, q.2 - 1) else (none, 6)) = goL l p := by
          have := hgo1.out
          rw [show stepM 117 = some (0, -1) from rfl] at this
          rw [← this]
          simp only [Int.add_zero, Int.sub_eq_add_neg]
        have hw1 := IntWalk.i64_in (q.2 - 1) (by omega)
        have hRt := fun w => right_r (q.1) (q.2 - 1) w
        have hN0 : (wr.setCell ⟨w.heap.size, 1, none⟩ (.int .i64 (q.2 - 1))).heap[w.heap.size]? = some (.cells #[.int .i64 (q.1), .int .i64 (q.2 - 1), .bool true] 56 (0, 0)) := heap_put (i := 1) hH0 (.int .i64 (q.2 - 1))
        have hN1 := (heap_put_ne (b := w.heap.size) (i := 1) (k := w.heap.size + 1) wr (.int .i64 (q.2 - 1)) (by omega)).trans hH1
        have hX2 := hX.setCell (p := ⟨w.heap.size, 1, none⟩) (Nat.le_refl _) (.int .i64 (q.2 - 1))
        clear hgo1 hg
        go_wp2_with fail
        clear hc0 hf0 hf1 hH0 hH1 hX
        generalize wr.setCell _ _ = W2 at *
        have hc2 := fun i => heap_at hN0 i
        have hf2 := fun i => heap_free hN0 i
        have hf3 := fun i => heap_free hN1 i
        have hc3 := fun i => heap_at hN1 i
        refine (hRt _).mono ?_
        rintro e w' ⟨rfl, rfl⟩
        cases hin : inR2 (q.1) (q.2 - 1) with
        | true =>
          rw [hin, if_pos rfl] at hgo
          have hq2 := (inR2_iff _ _).1 hin
          have hgo := Lib.hid hgo
          have hq2 := Lib.hid hq2
          clear hin
          go_wp2_with fail
          refine ⟨⟨j + 1, (q.1, q.2 - 1), by go_num, by omega, hq2.out, hgo, hN0, hN1, hX2⟩, ?_⟩
          simp [intOf]; omega
        | false =>
          rw [hin] at hgo
          have hgo := Lib.hid hgo
          clear hin
          go_wp2_with fail
          have hfin := heap_put (i := 2) (heap_put (i := 1) (heap_put (i := 0) hN1 (.int .i64 0)) (.int .i64 0)) (.bool false)
          have hcf := fun i => heap_at hfin i
          refine bodyPost_ret (v := .tuple #[.agg #[.int .i64 0, .int .i64 0, .bool false], .int .i64 6]) (by simp [results, Tryd.results33, go_sem, hcf]) rfl ?_
          exact ⟨by rw [← hgo.out]; rfl, (((hX2).setCell (p := ⟨w.heap.size + 1, 0, none⟩) (Nat.le_succ _) _).setCell (p := ⟨w.heap.size + 1, 1, none⟩) (Nat.le_succ _) _).setCell (p := ⟨w.heap.size + 1, 2, none⟩) (Nat.le_succ _) _⟩
      have t3 : ((c : Int) == 117) = false := by rw [beq_eq_false_iff_ne]; omega
      have n3 : ¬ c = 117 := hc
      clear hc
      have hgo : ((none, 3) : Option (Int × Int) × Int) = goL l p := by
        have := hgo1.out
        rw [show stepM c = none from by simp [stepM, n0, n1, n2, n3]] at this
        exact this
      have hgo := Lib.hid hgo
      have hc3 := fun i => heap_at hH1 i
      clear hgo1 hg n0 n1 n2 n3
      go_wp2_with fail
      have hfin := heap_put (i := 2) (heap_put (i := 1) (heap_put (i := 0) hH1 (.int .i64 0)) (.int .i64 0)) (.bool false)
      have hcf := fun i => heap_at hfin i
      refine bodyPost_ret (v := .tuple #[.agg #[.int .i64 0, .int .i64 0, .bool false], .int .i64 3]) (by simp [results, Tryd.results33, go_sem, hcf]) rfl ?_
      exact ⟨by rw [← hgo.out]; rfl, (((hX).setCell (p := ⟨w.heap.size + 1, 0, none⟩) (Nat.le_succ _) _).setCell (p := ⟨w.heap.size + 1, 1, none⟩) (Nat.le_succ _) _).setCell (p := ⟨w.heap.size + 1, 2, none⟩) (Nat.le_succ _) _⟩
    · obtain rfl : j = l.length := by omega
      have hgo : goL l p = (some q, 0) := by
        rw [← hg.out, List.drop_length]
        rfl
      have hgo := Lib.hid hgo
      have hc3 := fun i => heap_at hH1 i
      clear hg
      go_wp2_with fail
      have hfin := heap_put (i := 2) (heap_put (i := 1) (heap_put (i := 0) hH1 (.int .i64 q.1)) (.int .i64 q.2)) (.bool true)
      have hcf := fun i => heap_at hfin i
      refine bodyPost_ret (v := .tuple #[.agg #[.int .i64 q.1, .int .i64 q.2, .bool true], .int .i64 0]) (by simp [results, Tryd.results33, go_sem, hcf]) rfl ?_
      exact ⟨by rw [hgo.out]; rfl, (((hX).setCell (p := ⟨w.heap.size + 1, 0, none⟩) (Nat.le_succ _) _).setCell (p := ⟨w.heap.size + 1, 1, none⟩) (Nat.le_succ _) _).setCell (p := ⟨w.heap.size + 1, 2, none⟩) (Nat.le_succ _) _⟩
end Go.Proofs.YtiahgcaenneonaaDoor
