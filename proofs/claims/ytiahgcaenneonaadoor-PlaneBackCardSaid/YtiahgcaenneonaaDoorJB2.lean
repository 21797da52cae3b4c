/-
  Layer 4 (plane): the way from a point to another one, program and document.
-/
import Derived.Test.YtiahgcaenneonaaDoorJB1
import Derived.Laws.Concat
import Derived.ProofKit
import Derived.OpenShut
import Derived.Deep.DeepHandedRow
import Derived.WideKeyArgs
import Derived.Carry
import Derived.ChangeSame
import Derived.Lib.SmallJoins
import Derived.Test.YtiahgcaenneonaaDoorCards
import Derived.Test.YtiahgcaenneonaaDoorTie
/-
  Layer 4 (plane): the way from a point to another one, program and document.
-/
namespace Go.Proofs.YtiahgcaenneonaaDoor
open Go.RowKit Kv
theorem rep_one (x : UInt8) : ∀ c : Nat, Go.Lib.repeatL [x] c = List.replicate c x
  | 0 => rfl
  | c + 1 => by rw [Go.Lib.repeatL, rep_one x c, List.replicate_succ]; rfl
theorem rep_p (x : UInt8) (c : Nat) (hc : c ≤ 2000000) (w : World) :
    Calls Tryd.prog 60 #[.string ⟨#[x]⟩, .int .i64 c] w fun e w' => e = .returned (.string ⟨(List.replicate c x).toArray⟩) ∧ Ext w w' := by
  have := Tryd.strings_Repeat ⟨#[x]⟩ c w (by omega) (by show 1 * c ≤ _; omega)
  rw [show (({ data := #[x] } : ByteArray).data.toList) = [x] from rfl, rep_one] at this
  exact this
def wayS (x y : Int) : List UInt8 := List.replicate (max 0 x).toNat 114 ++ List.replicate (max 0 (-x)).toNat 108 ++ List.replicate (max 0 y).toNat 100 ++ List.replicate (max 0 (-y)).toNat 117
/-- The way from a point to another one, with the error's number. -/
def wayM (p q : Option (Int × Int)) : List UInt8 × Int := match p, q with
  | some p, some q => if 64 < max (q.1 - p.1) (-(q.1 - p.1)) + max (q.2 - p.2) (-(q.2 - p.2)) then ([], 6) else (wayS (q.1 - p.1) (q.2 - p.2), 0)
  | _, _ => ([], 1)
set_option maxRecDepth 100000 in
theorem way_p (a b c d : Nat) (w : World) :
    Calls Tryd.prog 34 #[.complex .f64 a b, .complex .f64 c d] w fun e w' => e = .returned (.tuple #[.string ⟨(wayM (ptOf a b) (ptOf c d)).1.toArray⟩, .int .i64 (wayM (ptOf a b) (ptOf c d)).2]) ∧ Ext w w' := by
  have hA := parts_p a b
  have hB := parts_p c d
  obtain ⟨h1, h2, h3, h4⟩ := pt_bd a b
  obtain ⟨h5, h6, h7, h8⟩ := pt_bd c d
  cases hp : ptOf a b with
  | none =>
    rw [hp] at hA
    clear h1 h2 h3 h4 h5 h6 h7 h8
    generalize ptOf c d = q at *
    simp only [wayM]
    go_enter Tryd.func34, Tryd.ntmps34
    go_wp2_with fail
    refine (hA _).mono ?_
    rintro e w' ⟨rfl, rfl⟩
    go_wp2_with fail
    refine (hB _).mono ?_
    rintro e w' ⟨rfl, rfl⟩
    go_wp2_with fail
    go_ret2
    exact ⟨rfl, Ext.refl _⟩
  | some p =>
    cases hq : ptOf c d with
    | none =>
      rw [hp] at hA
      rw [hq] at hB
      clear h1 h2 h3 h4 h5 h6 h7 h8
      simp only [wayM]
      go_enter Tryd.func34, Tryd.ntmps34
      go_wp2_with fail
      refine (hA _).mono ?_
      rintro e w' ⟨rfl, rfl⟩
      go_wp2_with fail
      refine (hB _).mono ?_
      rintro e w' ⟨rfl, rfl⟩
      go_wp2_with fail
      go_ret2
      exact ⟨rfl, Ext.refl _⟩
    | some q =>
      rw [hp] at hA h1 h2 h3 h4
      rw [hq] at hB h5 h6 h7 h8
      simp only [ptX, ptY, Option.isSome_some] at hA hB h1 h2 h3 h4 h5 h6 h7 h8
      obtain ⟨x, hx⟩ : ∃ x, x = q.1 - p.1 := ⟨_, rfl⟩
      obtain ⟨y, hy⟩ : ∃ y, y = q.2 - p.2 := ⟨_, rfl⟩
      have hw1 : IntKind.i64.wrap (q.1 - p.1) = x := by rw [IntWalk.i64_in (q.1 - p.1) (by omega), hx]
      have hw2 : IntKind.i64.wrap (q.2 - p.2) = y := by rw [IntWalk.i64_in (q.2 - p.2) (by omega), hy]
      simp only [wayM]
      rw [← hx, ← hy]
      have hx1 : -2097152 ≤ x ∧ x ≤ 2097152 := by omega
      have hy1 : -2097152 ≤ y ∧ y ≤ 2097152 := by omega
      have hw3 := IntWalk.i64_in (-x) (by omega)
      have hw4 := IntWalk.i64_in (-y) (by omega)
      have hw5 := IntWalk.i64_in (max x (-x) + max y (-y)) (by omega)
      clear h1 h2 h3 h4 h5 h6 h7 h8
      by_cases hfar : 64 < max x (-x) + max y (-y)
      · have df : decide (64 < max x (-x) + max y (-y)) = true := by rw [decide_eq_true_eq]; exact hfar
        rw [if_pos hfar]
        clear hfar hx hy
        go_enter Tryd.func34, Tryd.ntmps34
        go_wp2_with fail
        refine (hA _).mono ?_
        rintro e w' ⟨rfl, rfl⟩
        go_wp2_with fail
        refine (hB _).mono ?_
        rintro e w' ⟨rfl, rfl⟩
        go_wp2_with fail
        go_ret2
        exact ⟨rfl, Ext.refl _⟩
      · have df : decide (64 < max x (-x) + max y (-y)) = false := by rw [decide_eq_false_iff_not]; exact hfar
        rw [if_neg hfar]
        unfold wayS
        obtain ⟨n1, e1⟩ : ∃ n : Nat, max 0 x = n := ⟨(max 0 x).toNat, by omega⟩
        obtain ⟨n2, e2⟩ : ∃ n : Nat, max 0 (-x) = n := ⟨(max 0 (-x)).toNat, by omega⟩
        obtain ⟨n3, e3⟩ : ∃ n : Nat, max 0 y = n := ⟨(max 0 y).toNat, by omega⟩
        obtain ⟨n4, e4⟩ : ∃ n : Nat, max 0 (-y) = n := ⟨(max 0 (-y)).toNat, by omega⟩
        have hn : n1 + n2 + n3 + n4 ≤ 64 := by omega
        rw [e1, e2, e3, e4]
        simp only [Int.toNat_natCast]
        have hs1 := fun W => run_string_add_lists (P := Tryd.prog) W (List.replicate n1 (114 : UInt8)) (List.replicate n2 108) (by simp; omega) (by simp; omega)
        have hs2 := fun W => run_string_add_lists (P := Tryd.prog) W (List.replicate n1 (114 : UInt8) ++ List.replicate n2 108) (List.replicate n3 100) (by simp; omega) (by simp; omega)
        have hs3 := fun W => run_string_add_lists (P := Tryd.prog) W (List.replicate n1 (114 : UInt8) ++ List.replicate n2 108 ++ List.replicate n3 100) (List.replicate n4 117) (by simp; omega) (by simp; omega)
        clear hfar hx hy
        go_enter Tryd.func34, Tryd.ntmps34
        go_wp2_with fail
        refine (hA _).mono ?_
        rintro e w' ⟨rfl, rfl⟩
        go_wp2_with fail
        refine (hB _).mono ?_
        rintro e w' ⟨rfl, rfl⟩
        go_wp2_with fail
        refine (rep_p 114 n1 (by omega) _).mono ?_
        rintro e w1 ⟨rfl, hx1⟩
        go_wp2_with fail
        refine (rep_p 108 n2 (by omega) _).mono ?_
        rintro e w2 ⟨rfl, hx2⟩
        go_wp2_with fail
        refine (rep_p 100 n3 (by omega) _).mono ?_
        rintro e w3 ⟨rfl, hx3⟩
        go_wp2_with fail
        refine (rep_p 117 n4 (by omega) _).mono ?_
        rintro e w4 ⟨rfl, hx4⟩
        have hX := Lib.hid (((hx1.trans hx2).trans hx3).trans hx4)
        clear hx1 hx2 hx3 hx4
        go_wp2_with fail
        go_ret2
        exact ⟨rfl, hX.out⟩
set_option maxRecDepth 100000 in
theorem many_r (c : UInt8) (n : Int) (hn : n ≤ 2100000) (w : World) :
    Calls Tryd.prog 61 #[.string ⟨#[c]⟩, .int .i64 n] w fun e w' => e = .returned (.string ⟨(List.replicate (max 0 n).toNat c).toArray⟩) ∧ w = w' := by
  obtain ⟨N, hN⟩ : ∃ N : Nat, (max 0 n).toNat = N := ⟨_, rfl⟩
  rw [hN]
  have hNn : n ≤ (N : Int) ∧ (0 ≤ n → n = N) ∧ (n < 0 → N = 0) := by omega
  clear hN
  go_enter Tryd.func61, Tryd.ntmps61
  go_wp2_with fail
  go_loopw [5, 6] (fun u i wr => ∃ (j : Nat) (L : List UInt8), i = .int .i64 j ∧ j ≤ N ∧ u = .string ⟨L.toArray⟩ ∧ Hid (L = List.replicate j c) ∧ w = wr) (fun _ i _ => N - (intOf i).toNat)
  case atStart => exact ⟨0, [], rfl, by omega, rfl, Lib.hid rfl, by trivial⟩
  case round =>
    obtain ⟨j, L, rfl, hj, rfl, hL, rfl⟩ := hrel
    by_cases hlt : j < N
    · have hLl : L.length = j := by rw [hL.out, List.length_replicate]
      have d1 : decide ((j : Int) < n) = true := by rw [decide_eq_true_eq]; omega
      have hs1 := fun W => run_string_add_lists (P := Tryd.prog) W L [c] (by omega) (by simp)
      have hw0 := IntWalk.i64_in ((j : Int) + 1) (by omega)
      clear hNn hLl
      go_wp2_with fail
      refine ⟨⟨j + 1, L ++ [c], by go_num, by omega, rfl, Lib.hid (by rw [hL.out, List.replicate_succ']), by trivial⟩, ?_⟩
      simp [intOf]; omega
    · obtain rfl : N = j := by omega
      have d1 : decide ((N : Int) < n) = false := by rw [decide_eq_false_iff_not]; omega
      clear hNn
      have hL2 := hL.out
      subst hL2
      go_wp2_with fail
      go_ret
      exact ⟨rfl, by trivial⟩
set_option maxRecDepth 100000 in
theorem way_r (p q : Option (Int × Int)) (h : ∀ z, p = some z → bdP z) (h' : ∀ z, q = some z → bdP z) (w : World) :
    Calls Tryd.prog 35 #[.agg #[.int .i64 (ptX p), .int .i64 (ptY p), .bool p.isSome], .agg #[.int .i64 (ptX q), .int .i64 (ptY q), .bool q.isSome]] w fun e w' => e = .returned (.tuple #[.string ⟨(wayM p q).1.toArray⟩, .int .i64 (wayM p q).2]) ∧ Ext w w' := by
  cases p with
  | none =>
    clear h h'
    rw [show wayM none q = ([], 1) from by cases q <;> rfl]
    generalize ptX q = x
    generalize ptY q = y
    generalize q.isSome = o
    simp only [ptX, ptY, Option.isSome_none]
    have hX := ((Ext.refl w).alloc (.cells #[.int .i64 0, .int .i64 0, .bool false] 56)).alloc (.cells #[.int .i64 x, .int .i64 y, .bool o] 56)
    have hX := Lib.hid hX
    go_enter Tryd.func35, Tryd.ntmps35
    go_wp2_with fail
    go_ret2
    exact ⟨rfl, hX.out⟩
  | some p =>
    cases q with
    | none =>
      clear h h'
      simp only [ptX, ptY, wayM, Option.isSome_none, Option.isSome_some]
      have hX := ((Ext.refl w).alloc (.cells #[.int .i64 p.1, .int .i64 p.2, .bool true] 56)).alloc (.cells #[.int .i64 0, .int .i64 0, .bool false] 56)
      have hX := Lib.hid hX
      go_enter Tryd.func35, Tryd.ntmps35
      go_wp2_with fail
      go_ret2
      exact ⟨rfl, hX.out⟩
    | some q =>
      obtain ⟨h1, h2, h3, h4⟩ := h p rfl
      obtain ⟨h5, h6, h7, h8⟩ := h' q rfl
      simp only [ptX, ptY, Option.isSome_some]
      have hX := ((Ext.refl w).alloc (.cells #[.int .i64 p.1, .int .i64 p.2, .bool true] 56)).alloc (.cells #[.int .i64 q.1, .int .i64 q.2, .bool true] 56)
      have hX := Lib.hid hX
      obtain ⟨x, hx⟩ : ∃ x, x = q.1 - p.1 := ⟨_, rfl⟩
      obtain ⟨y, hy⟩ : ∃ y, y = q.2 - p.2 := ⟨_, rfl⟩
      have hw1 : IntKind.i64.wrap (q.1 - p.1) = x := by rw [IntWalk.i64_in (q.1 - p.1) (by omega), hx]
      have hw2 : IntKind.i64.wrap (q.2 - p.2) = y := by rw [IntWalk.i64_in (q.2 - p.2) (by omega), hy]
      simp only [wayM]
      rw [← hx, ← hy]
      have hx1 : -2097152 ≤ x ∧ x ≤ 2097152 := by omega
      have hy1 : -2097152 ≤ y ∧ y ≤ 2097152 := by omega
      have hw3 : IntKind.i64.wrap (0 - x) = -x := by rw [IntWalk.i64_in (0 - x) (by omega)]; omega
      have hw4 : IntKind.i64.wrap (0 - y) = -y := by rw [IntWalk.i64_in (0 - y) (by omega)]; omega
      have hM1 := fun w => many_r 114 x (by omega) w
      have hM2 := fun w => many_r 108 (-x) (by omega) w
      have hM3 := fun w => many_r 100 y (by omega) w
      have hM4 := fun w => many_r 117 (-y) (by omega) w
      clear h1 h2 h3 h4 h5 h6 h7 h8 h h' hx hy
      obtain ⟨s, hs⟩ : ∃ s, s = max x (-x) + max y (-y) := ⟨_, rfl⟩
      rw [← hs]
      have hl1 : (max 0 x).toNat ≤ 2100000 := by omega
      have hl2 : (max 0 (-x)).toNat ≤ 2100000 := by omega
      have hl3 : (max 0 y).toNat ≤ 2100000 := by omega
      have hl4 : (max 0 (-y)).toNat ≤ 2100000 := by omega
      have hs1 := fun W => run_string_add_lists (P := Tryd.prog) W (List.replicate (max 0 x).toNat (114 : UInt8)) (List.replicate (max 0 (-x)).toNat 108) (by simp; omega) (by simp; omega)
      have hs2 := fun W => run_string_add_lists (P := Tryd.prog) W (List.replicate (max 0 x).toNat (114 : UInt8) ++ List.replicate (max 0 (-x)).toNat 108) (List.replicate (max 0 y).toNat 100) (by simp; omega) (by simp; omega)
      have hs3 := fun W => run_string_add_lists (P := Tryd.prog) W (List.replicate (max 0 x).toNat (114 : UInt8) ++ List.replicate (max 0 (-x)).toNat 108 ++ List.replicate (max 0 y).toNat 100) (List.replicate (max 0 (-y)).toNat 117) (by simp; omega) (by simp; omega)
      clear hl1 hl2 hl3 hl4
      by_cases hgx : x < 0
      · by_cases hgy : y < 0
        · have dx : decide (x < 0) = true := by rw [decide_eq_true_eq]; omega
          have dy : decide (y < 0) = true := by rw [decide_eq_true_eq]; omega
          have hw6 : IntKind.i64.wrap (-x - y) = s := by rw [IntWalk.i64_in _ (by omega)]; omega
          clear hs hgx hgy
          by_cases hfar : 64 < s
          · have df : decide (64 < s) = true := by rw [decide_eq_true_eq]; exact hfar
            rw [if_pos hfar]
            clear hfar
            go_enter Tryd.func35, Tryd.ntmps35
            go_wp2_with fail
            go_ret2
            exact ⟨rfl, hX.out⟩
          · have df : decide (64 < s) = false := by rw [decide_eq_false_iff_not]; exact hfar
            rw [if_neg hfar]
            unfold wayS
            clear hfar
            go_enter Tryd.func35, Tryd.ntmps35
            go_wp2_with fail
            refine (hM1 _).mono ?_
            rintro e w1 ⟨rfl, rfl⟩
            go_wp2_with fail
            refine (hM2 _).mono ?_
            rintro e w2 ⟨rfl, rfl⟩
            go_wp2_with fail
            refine (hM3 _).mono ?_
            rintro e w3 ⟨rfl, rfl⟩
            go_wp2_with fail
            refine (hM4 _).mono ?_
            rintro e w4 ⟨rfl, rfl⟩
            go_wp2_with fail
            go_ret2
            exact ⟨rfl, hX.out⟩
        · have dx : decide (x < 0) = true := by rw [decide_eq_true_eq]; omega
          have dy : decide (y < 0) = false := by rw [decide_eq_false_iff_not]; omega
          have hw6 : IntKind.i64.wrap (-x + y) = s := by rw [IntWalk.i64_in _ (by omega)]; omega
          clear hs hgx hgy
          by_cases hfar : 64 < s
          · have df : decide (64 < s) = true := by rw [decide_eq_true_eq]; exact hfar
            rw [if_pos hfar]
            clear hfar
            go_enter Tryd.func35, Tryd.ntmps35
            go_wp2_with fail
            go_ret2
            exact ⟨rfl, hX.out⟩
          · have df : decide (64 < s) = false := by rw [decide_eq_false_iff_not]; exact hfar
            rw [if_neg hfar]
            unfold wayS
            clear hfar
            go_enter Tryd.func35, Tryd.ntmps35
            go_wp2_with fail
            refine (hM1 _).mono ?_
            rintro e w1 ⟨rfl, rfl⟩
            go_wp2_with fail
            refine (hM2 _).mono ?_
            rintro e w2 ⟨rfl, rfl⟩
            go_wp2_with fail
            refine (hM3 _).mono ?_
            rintro e w3 ⟨rfl, rfl⟩
            go_wp2_with fail
            refine (hM4 _).mono ?_
            rintro e w4 ⟨rfl, rfl⟩
            go_wp2_with fail
            go_ret2
            exact ⟨rfl, hX.out⟩
      · by_cases hgy : y < 0
        · have dx : decide (x < 0) = false := by rw [decide_eq_false_iff_not]; omega
          have dy : decide (y < 0) = true := by rw [decide_eq_true_eq]; omega
          have hw6 : IntKind.i64.wrap (x - y) = s := by rw [IntWalk.i64_in _ (by omega)]; omega
          clear hs hgx hgy
          by_cases hfar : 64 < s
          · have df : decide (64 < s) = true := by rw [decide_eq_true_eq]; exact hfar
            rw [if_pos hfar]
            clear hfar
            go_enter Tryd.func35, Tryd.ntmps35
            go_wp2_with fail
            go_ret2
            exact ⟨rfl, hX.out⟩
          · have df : decide (64 < s) = false := by rw [decide_eq_false_iff_not]; exact hfar
            rw [if_neg hfar]
            unfold wayS
            clear hfar
            go_enter Tryd.func35, Tryd.ntmps35
            go_wp2_with fail
            refine (hM1 _).mono ?_
            rintro e w1 ⟨rfl, rfl⟩
            go_wp2_with fail
            refine (hM2 _).mono ?_
            rintro e w2 ⟨rfl, rfl⟩
            go_wp2_with fail
            refine (hM3 _).mono ?_
            rintro e w3 ⟨rfl, rfl⟩
            go_wp2_with fail
            refine (hM4 _).mono ?_
            rintro e w4 ⟨rfl, rfl⟩
            go_wp2_with fail
            go_ret2
            exact ⟨rfl, hX.out⟩
        · have dx : decide (x < 0) = false := by rw [decide_eq_false_iff_not]; omega
          have dy : decide (y < 0) = false := by rw [decide_eq_false_iff_not]; omega
          have hw6 : IntKind.i64.wrap (x + y) = s := by rw [IntWalk.i64_in _ (by omega)]; omega
          clear hs hgx hgy
          by_cases hfar : 64 < s
          · have df : decide (64 < s) = true := by rw [decide_eq_true_eq]; exact hfar
            rw [if_pos hfar]
            clear hfar
            go_enter Tryd.func35, Tryd.ntmps35
            go_wp2_with fail
            go_ret2
            exact ⟨rfl, hX.out⟩
          · have df : decide (64 < s) = false := by rw [decide_eq_false_iff_not]; exact hfar
            rw [if_neg hfar]
            unfold wayS
            clear hfar
            go_enter Tryd.func35, Tryd.ntmps35
            go_wp2_with fail
            refine (hM1 _).mono ?_
            rintro e w1 ⟨rfl, rfl⟩
            go_wp2_with fail
            refine (hM2 _).mono ?_
            rintro e w2 ⟨rfl, rfl⟩
            go_wp2_with fail
            refine (hM3 _).mono ?_
            rintro e w3 ⟨rfl, rfl⟩
            go_wp2_with fail
            refine (hM4 _).mono ?_
            rintro e w4 ⟨rfl, rfl⟩
            go_wp2_with fail
            go_ret2
            exact ⟨rfl, hX.out⟩
end Go.Proofs.YtiahgcaenneonaaDoor
/-
  Layer 4 (plane): the chapter's examples.
-/
namespace Go.Proofs.YtiahgcaenneonaaDoor
open Go.RowKit Kv
theorem f2 : floatOfInt .f64 2 = 4611686018427387904 := by decide +kernel
theorem pt00 : ptOf 0 0 = some (0, 0) := by decide +kernel
theorem pt21 : ptOf 4611686018427387904 4607182418800017408 = some (2, 1) := by decide +kernel
theorem pthalf : ptOf 4602678819172646912 0 = none := by decide +kernel
theorem text21 : ptText (some (2, 1)) = [50, 43, 49, 105] := by decide +kernel
set_option maxRecDepth 100000 in
theorem alive04 (w : World) (T : Tabs w) : Calls Tryd.prog 29 #[] w fun e w' => e = .returned (.bool true) ∧ Ext w w' := by
  have hG1 := fun w => go_p 0 0 [114, 114, 100] (by decide) w
  have hG2 := fun w => go_p 0 0 [120] (by decide) w
  have hW := fun w => way_p 4611686018427387904 4607182418800017408 0 0 w
  have hP := fun w => parts_p 4602678819172646912 0 w
  have hT := fun w => turn_p 4611686018427387904 4607182418800017408 1 w
  have hN := fun w => norm_p 4611686018427387904 4607182418800017408 w
  have hX := fun w T => ptext_p 4611686018427387904 4607182418800017408 w T
  rw [pt00] at hG1 hG2
  rw [pt21, pt00] at hW
  rw [pt21] at hT hN hX
  rw [pthalf] at hP
  rw [text21] at hX
  simp only [show goL [114, 114, 100] (0, 0) = (some (2, 1), 0) from by decide +kernel, show goL [120] (0, 0) = (none, 3) from by decide +kernel, goV, f2, f1] at hG1 hG2
  simp only [show wayM (some (2, 1)) (some (0, 0)) = ([108, 108, 117], 0) from by decide +kernel] at hW
  simp only [show turnM (some (2, 1)) 1 = (-1, 2) from by decide +kernel, fm1, f2] at hT
  simp only [show normM (some (2, 1)) = 5 from by decide +kernel] at hN
  simp only [ptX, ptY, Option.isSome_none] at hP
  go_enter Tryd.func29, Tryd.ntmps29
  go_wp2_with fail
  refine (hG1 _).mono ?_
  rintro e w' ⟨rfl, rfl⟩
  go_wp2_with fail
  refine (hW _).mono ?_
  rintro e w1 ⟨rfl, hx1⟩
  go_wp2_with fail
  refine (hG2 _).mono ?_
  rintro e w' ⟨rfl, rfl⟩
  go_wp2_with fail
  refine (hP _).mono ?_
  rintro e w' ⟨rfl, rfl⟩
  go_wp2_with fail
  refine (hT _).mono ?_
  rintro e w' ⟨rfl, rfl⟩
  go_wp2_with fail
  refine (hN _).mono ?_
  rintro e w' ⟨rfl, rfl⟩
  go_wp2_with fail
  refine (hX _ (T.ext hx1)).mono ?_
  rintro e w2 ⟨rfl, hx2⟩
  have hf := Lib.hid (hx1.trans hx2)
  go_wp2_with fail
  go_ret
  exact ⟨rfl, hf.out⟩
end Go.Proofs.YtiahgcaenneonaaDoor
/-
  The frame of a law's statement, for any law that returns true and leaves all that was there as it was: what its row's post asks.
-/
namespace Go.Proofs.YtiahgcaenneonaaDoor
open Go.RowKit Go.WideShapes Go.ChangeShapes
section
variable {H : Type} {enc : TypeId × Value → H} {P : Program}
theorem post_of_below {f : Func} {s : ChangeSpec} {apart fresh handsOn again : Bool} {W W' : World} {args : Array Value} {v : Value} {ds gs : List (DataW H)} {before pa pv : List MemPlace}
    (hW : DataW.Whole enc P f.params.toList s.vars apart W args.toList ds gs before)
    (hres : ∀ (b : Nat) (sp : Nat → Bool) (hd : Bool), DataW.TrodAll enc P W' b sp hd f.resultTypes.toList (v.resultList f.resultTypes.size) (s.fn H (ds ++ gs)).results [])
    (hargs : ∀ sp : Nat → Bool, (∀ p ∈ before, sp p.block = true) → DataW.TrodAll enc P W' 0 sp true f.params.toList args.toList (s.fn H (ds ++ gs)).args pa)
    (hvars : ∀ sp : Nat → Bool, (∀ p ∈ before, sp p.block = true) → DataW.TrodVars enc P W' sp s.vars (s.fn H (ds ++ gs)).vars pv)
    (hps : before = pa ++ pv) (hb : Below W.heap.size W W')
    (hok : ∀ (j : Nat) (t : TypeId) (r : Value), f.resultTypes[j]? = some t → (v.resultList f.resultTypes.size)[j]? = some r → Value.okWide P W' .any 0 t r) :
    s.post enc P f apart fresh handsOn again W args v W' := by
  have hlt : ∀ p ∈ before, p.block < W.heap.size := fun p hp => hW.lt p hp
  have hold : ∀ p ∈ before, (fun b => decide (b < W.heap.size)) p.block = true := fun p hp => by simpa using hlt p hp
  refine ⟨ds, gs, before, [], pa, pv, hW, hres _ _ _, hargs _ hold, hvars _ hold, World.keptBut_mono (fun p hp => ⟨hp, ?_⟩) (hb.frame (· ∈ before)), fun _ => ?_⟩
  · rw [hps, List.mem_append] at hp
    exact Or.inr hp
  · obtain ⟨_, _, _, _, _, hz, hn⟩ := hW
    refine ⟨hok, _, _, ([] ++ pa) ++ pv, ⟨[] ++ pa, pv, trodAll_append (hargs _ (fun _ _ => rfl)) (hres _ _ _), hvars _ (fun _ _ => rfl), rfl, ?_, ?_⟩, ?_⟩
    · intro b off hp
      have hin : MemPlace.cell b off ∈ before := by rw [hps]; simpa using hp
      rw [hb.frozen (hlt _ hin)]
      exact hz b off hin
    · intro ha
      have := hn ha
      rw [hps] at this
      simpa using this
    · intro p hp _
      rw [hps]
      simpa using hp
end
section
variable {H : Type} {enc : TypeId × Value → H} {P : Program}
theorem trodAll_stays (hl : laidOutB P = true) : ∀ (ts : List TypeId), (∀ t ∈ ts, P.readableRec t = true ∧ t < P.types.size) → ∀ {W W' : World} {sp : Nat → Bool} {vs : List Value} {ds : List (DataW H)} {ps : List MemPlace},
    DataW.TrodAll enc P W 0 (fun _ => true) true ts vs ds ps → (∀ p ∈ ps, W.sameAt W' p) → (∀ p ∈ ps, sp p.block = true) → DataW.TrodAll enc P W' 0 sp true ts vs ds ps
  | [], _, W, W', sp, vs, ds, ps, h, _, _ => by
    cases vs <;> cases ds <;> simp_all [DataW.TrodAll]
  | t :: ts, ht, W, W', sp, vs, ds, ps, h, hs, hsp => by
    obtain ⟨v, vs', d, ds', p, q, rfl, rfl, rfl, hp, hq⟩ := trodAll_cons h
    have h1 := ht t (by simp)
    refine trodAll_cons_mk (WideElems.Trod_stays hl h1.1 h1.2 hp (fun x hx => hs x (by simp [hx])) (fun x hx => hsp x (by simp [hx]))) ?_
    exact trodAll_stays hl ts (fun t' h' => ht t' (by simp [h'])) hq (fun x hx => hs x (by simp [hx])) (fun x hx => hsp x (by simp [hx]))
theorem trodAll_length : ∀ (ts : List TypeId) {W : World} {b : Nat} {sp : Nat → Bool} {held : Bool} {vs : List Value} {ds : List (DataW H)} {ps : List MemPlace}, DataW.TrodAll enc P W b sp held ts vs ds ps → ds.length = ts.length
  | [], W, b, sp, held, vs, ds, ps, h => by cases vs <;> cases ds <;> simp_all [DataW.TrodAll]
  | t :: ts, W, b, sp, held, vs, ds, ps, h => by
    obtain ⟨v, vs', d, ds', p, q, rfl, rfl, rfl, hp, hq⟩ := trodAll_cons h
    simp [trodAll_length ts hq]
/-- THE FRAME: of a law with one bool result. -/
theorem law_post {f : Func} {s : ChangeSpec} {W W' : World} {args : Array Value} {ds gs : List (DataW H)} {before : List MemPlace} {tb : TypeId}
    (hl : laidOutB P = true) (hr : ∀ t ∈ f.params.toList, P.readableRec t = true ∧ t < P.types.size) (hres : f.resultTypes = #[tb]) (htb : P.underlying tb = some .bool)
    (hvars : s.vars = []) (hspec : ∀ ds : List (DataW H), ds.length = f.params.size → s.fn H ds = { results := [.lit (.bool true)], args := ds })
    (hW : DataW.Whole enc P f.params.toList s.vars false W args.toList ds gs before) (hx : Ext W W') :
    s.post enc P f false true false false W args (.bool true) W' := by
  have hWlt : ∀ p ∈ before, p.block < W.heap.size := fun p hp => hW.lt p hp
  obtain ⟨p, q, hA, hV, hpq, hfz, hnd⟩ := hW
  rw [hvars] at hV
  have hgs : gs = [] ∧ q = [] := trodVars_none hV
  obtain ⟨rfl, rfl⟩ := hgs
  have hlen := trodAll_length _ hA
  have hsp := hspec ds (by rw [hlen]; simp)
  have hb : before = p := by rw [hpq]; simp
  subst hb
  have hn : f.resultTypes.size = 1 := by rw [hres]; rfl
  have hlo : (Value.bool true).resultList f.resultTypes.size = [Value.bool true] := by rw [hn]; rfl
  have e0 : ds ++ ([] : List (DataW H)) = ds := List.append_nil _
  refine post_of_below (pa := before) (pv := []) (ds := ds) (gs := []) ⟨before, [], hA, by rw [hvars]; exact hV, hpq, hfz, hnd⟩ ?_ ?_ ?_ hpq hx ?_
  · intro b sp hd
    rw [e0, hsp, hlo, hres]
    exact trodAll_cons_mk (shut_bool htb _) trodAll_mk0
  · intro sp hsp'
    rw [e0, hsp]
    exact trodAll_stays hl _ hr hA (fun p hp => Below.same hx (hWlt p hp)) hsp'
  · intro sp _
    rw [e0, hsp, hvars]
    rfl
  · intro j t r ht hr'
    rw [hres] at ht
    rw [hlo] at hr'
    cases j with
    | zero =>
      obtain rfl : tb = t := by simpa using ht
      obtain rfl : Value.bool true = r := by simpa using hr'
      exact okWide_bool_mk htb _
    | succ j => simp at ht
end
end Go.Proofs.YtiahgcaenneonaaDoor
/-
  Arguments opened: a slice of ints that came in.
-/
namespace Go.Proofs.YtiahgcaenneonaaDoor
open Go.ChangeShapes Go.WideShapes Go.ChangeAt Go.RowKit Kv
theorem cellsInt : Tryd.prog.cellsOf 3 = 1 := by kernel_rfl
theorem cell_lt {w : World} {a : Addr} {v : Value} (h : w.cell? a = some v) : a.block < w.heap.size := by
  rcases Nat.lt_or_ge a.block w.heap.size with hlt | hge
  · exact hlt
  · simp [World.cell?, Array.getElem?_eq_none hge] at h
set_option maxRecDepth 100000 in
theorem ints_trod {H : Type} {enc : TypeId × Value → H} {W : World} {v : Value} {fuel : Nat} {x : DataW H × List MemPlace}
    (hf : DataW.trod enc Tryd.prog W 0 (fun _ => true) true fuel 25 [v] = some x) :
    ∃ l, Ints W v l ∧ ∀ x ∈ l, -9223372036854775808 ≤ x ∧ x ≤ 9223372036854775807 := by
  rcases open_ints Tryd.underlying25 Tryd.underlying3 cellsInt hf with ⟨hcs, hx⟩ | ⟨a, len', cap', zs, hcs, _, hl, hm, hz, hx, hcell, hwz⟩
  · obtain rfl : v = .slice none 0 0 := by simpa using hcs
    exact ⟨[], Ints.nil W, by simp⟩
  · obtain rfl : v = .slice (some a) len' cap' := by simpa using hcs
    simp only [if_true] at hz
    refine ⟨zs.take len', ?_, fun x hx => bounds_i64 (hwz x (List.mem_of_mem_take hx))⟩
    have hlen : (zs.take len').length = len' := by rw [List.length_take]; omega
    refine ⟨some a, cap', by rw [hlen], by omega, by unfold maxLen at hm; exact hm, fun hne => ?_⟩
    have hpos : 0 < zs.length := by
      rcases Nat.eq_zero_or_pos zs.length with h0 | h0
      · have : zs = [] := List.eq_nil_of_length_eq_zero h0
        subst this
        simp at hne
      · exact h0
    obtain ⟨b, off, rfl, hc⟩ := ints_at hcell hpos
    refine ⟨b, off, rfl, cell_lt (hc 0 hpos), fun i x hi => ?_⟩
    have hi2 : i < zs.length := by
      have := (List.getElem?_eq_some_iff.1 hi).1
      rw [List.length_take] at this
      omega
    rw [hc i hi2]
    have hi3 : i < len' := by
      have := (List.getElem?_eq_some_iff.1 hi).1
      omega
    rw [List.getElem?_take, if_pos hi3] at hi
    rw [List.getD_eq_getElem?_getD, hi]
    rfl
set_option maxRecDepth 100000 in
theorem ints_arg {H : Type} {enc : TypeId × Value → H} {W : World} {b0 : Nat} {r : Reach} {v : Value} {d : DataW H} {p : List MemPlace}
    (hv : Value.okWide Tryd.prog W r b0 25 v) (h : DataW.Trod enc Tryd.prog W 0 (fun _ => true) true 25 v d p) :
    ∃ l, Ints W v l ∧ ∀ x ∈ l, -9223372036854775808 ≤ x ∧ x ≤ 9223372036854775807 := by
  obtain ⟨a0, len, cap, rfl⟩ := okWide_slice Tryd.underlying25 hv
  obtain ⟨fuel, hf⟩ := h
  rcases open_ints Tryd.underlying25 Tryd.underlying3 cellsInt hf with ⟨hcs, hx⟩ | ⟨a, len', cap', zs, hcs, _, hl, hm, hz, hx, hcell, hwz⟩
  · simp [Value.cells] at hcs
    obtain ⟨rfl, rfl, rfl⟩ := hcs
    exact ⟨[], Ints.nil W, by simp⟩
  · simp [Value.cells] at hcs
    obtain ⟨rfl, rfl, rfl⟩ := hcs
    simp only [if_true] at hz
    refine ⟨zs.take len, ?_, fun x hx => bounds_i64 (hwz x (List.mem_of_mem_take hx))⟩
    have hlen : (zs.take len).length = len := by rw [List.length_take]; omega
    refine ⟨some a, cap, by rw [hlen], by omega, by unfold maxLen at hm; exact hm, fun hne => ?_⟩
    have hpos : 0 < zs.length := by
      rcases Nat.eq_zero_or_pos zs.length with h0 | h0
      · have : zs = [] := List.eq_nil_of_length_eq_zero h0
        subst this
        simp at hne
      · exact h0
    obtain ⟨b, off, rfl, hc⟩ := ints_at hcell hpos
    refine ⟨b, off, rfl, cell_lt (hc 0 hpos), fun i x hi => ?_⟩
    have hi2 : i < zs.length := by
      have := (List.getElem?_eq_some_iff.1 hi).1
      rw [List.length_take] at this
      omega
    rw [hc i hi2]
    have hi3 : i < len := by
      have := (List.getElem?_eq_some_iff.1 hi).1
      omega
    rw [List.getElem?_take, if_pos hi3] at hi
    rw [List.getD_eq_getElem?_getD, hi]
    rfl
end Go.Proofs.YtiahgcaenneonaaDoor
/-
  Struct arguments of five one-cell fields, by value (after the kit's page on structs).
-/
namespace Go.Proofs.YtiahgcaenneonaaDoor
open Go.Joins Go.ChangeShapes Go.WideShapes Go.RowKit Go.Deep
section
variable {H : Type} {enc : TypeId × Value → H} {P : Program} {w : World} {base : Nat} {spare : Nat → Bool} {held : Bool}
theorem open_agg5 {r : Reach} {b0 : Nat} {t : TypeId} {f0 f1 f2 f3 f4 : Field} {v : Value} {d : DataW H} {p : List MemPlace} (hs : P.underlying t = some (.struct #[f0, f1, f2, f3, f4])) (hone : oneCellFields P #[f0, f1, f2, f3, f4] = true) (hC : P.cellsOf t = 5)
    (hv : Value.okWide P w r b0 t v) (h : DataW.Trod enc P w base spare held t v d p) :
    ∃ (v0 v1 v2 v3 v4 : Value) (y0 y1 y2 y3 y4 : DataW H × List MemPlace) (n : Nat), v = .agg #[v0, v1, v2, v3, v4] ∧ d = .agg [y0.1, y1.1, y2.1, y3.1, y4.1] ∧ p = y0.2 ++ (y1.2 ++ (y2.2 ++ (y3.2 ++ y4.2))) ∧
      DataW.trod enc P w base spare held n f0.type [v0] = some y0 ∧ DataW.trod enc P w base spare held n f1.type [v1] = some y1 ∧ DataW.trod enc P w base spare held n f2.type [v2] = some y2 ∧ DataW.trod enc P w base spare held n f3.type [v3] = some y3 ∧ DataW.trod enc P w base spare held n f4.type [v4] = some y4 := by
  obtain ⟨cs, rfl, hsz⟩ := okWide_struct hs hv
  obtain ⟨l⟩ := cs
  match l, hsz.trans hC with
  | [c0, c1, c2, c3, c4], _ =>
    obtain ⟨fuel, hf⟩ := h
    obtain ⟨xs, n, _, hx, _, hlen, hg⟩ := DataW.trod_struct hs hf
    obtain ⟨o0, k0⟩ := hone_of hone 0 f0 rfl
    obtain ⟨o1, k1⟩ := hone_of hone 1 f1 rfl
    obtain ⟨o2, k2⟩ := hone_of hone 2 f2 rfl
    obtain ⟨o3, k3⟩ := hone_of hone 3 f3 rfl
    obtain ⟨o4, k4⟩ := hone_of hone 4 f4 rfl
    match xs, hlen with
    | [y0, y1, y2, y3, y4], _ =>
      simp only [Prod.mk.injEq] at hx
      exact ⟨c0, c1, c2, c3, c4, y0, y1, y2, y3, y4, n, rfl, by simpa using hx.1, by simpa using hx.2, by simpa [Value.cells, o0, k0] using hg 0 f0 rfl, by simpa [Value.cells, o1, k1] using hg 1 f1 rfl, by simpa [Value.cells, o2, k2] using hg 2 f2 rfl, by simpa [Value.cells, o3, k3] using hg 3 f3 rfl, by simpa [Value.cells, o4, k4] using hg 4 f4 rfl⟩

theorem open_agg6 {r : Reach} {b0 : Nat} {t : TypeId} {f0 f1 f2 f3 f4 f5 : Field} {v : Value} {d : DataW H} {p : List MemPlace} (hs : P.underlying t = some (.struct #[f0, f1, f2, f3, f4, f5])) (hone : oneCellFields P #[f0, f1, f2, f3, f4, f5] = true) (hC : P.cellsOf t = 6)
    (hv : Value.okWide P w r b0 t v) (h : DataW.Trod enc P w base spare held t v d p) :
    ∃ (v0 v1 v2 v3 v4 v5 : Value) (y0 y1 y2 y3 y4 y5 : DataW H × List MemPlace) (n : Nat), v = .agg #[v0, v1, v2, v3, v4, v5] ∧
      DataW.trod enc P w base spare held n f0.type [v0] = some y0 ∧ DataW.trod enc P w base spare held n f1.type [v1] = some y1 ∧ DataW.trod enc P w base spare held n f2.type [v2] = some y2 ∧ DataW.trod enc P w base spare held n f3.type [v3] = some y3 ∧ DataW.trod enc P w base spare held n f4.type [v4] = some y4 ∧ DataW.trod enc P w base spare held n f5.type [v5] = some y5 := by
  obtain ⟨cs, rfl, hsz⟩ := okWide_struct hs hv
  obtain ⟨l⟩ := cs
  match l, hsz.trans hC with
  | [c0, c1, c2, c3, c4, c5], _ =>
    obtain ⟨fuel, hf⟩ := h
    obtain ⟨xs, n, _, hx, _, hlen, hg⟩ := DataW.trod_struct hs hf
    obtain ⟨o0, k0⟩ := hone_of hone 0 f0 rfl
    obtain ⟨o1, k1⟩ := hone_of hone 1 f1 rfl
    obtain ⟨o2, k2⟩ := hone_of hone 2 f2 rfl
    obtain ⟨o3, k3⟩ := hone_of hone 3 f3 rfl
    obtain ⟨o4, k4⟩ := hone_of hone 4 f4 rfl
    obtain ⟨o5, k5⟩ := hone_of hone 5 f5 rfl
    match xs, hlen with
    | [y0, y1, y2, y3, y4, y5], _ =>
      exact ⟨c0, c1, c2, c3, c4, c5, y0, y1, y2, y3, y4, y5, n, rfl, by simpa [Value.cells, o0, k0] using hg 0 f0 rfl, by simpa [Value.cells, o1, k1] using hg 1 f1 rfl, by simpa [Value.cells, o2, k2] using hg 2 f2 rfl, by simpa [Value.cells, o3, k3] using hg 3 f3 rfl, by simpa [Value.cells, o4, k4] using hg 4 f4 rfl, by simpa [Value.cells, o5, k5] using hg 5 f5 rfl⟩

end
end Go.Proofs.YtiahgcaenneonaaDoor
/-
  What the rows' lists of tables give: the tables' cells.
-/
namespace Go.Proofs.YtiahgcaenneonaaDoor
open Go.ChangeShapes Go.WideShapes Go.ChangeAt Go.RowKit
theorem gPow : Tryd.prog.globalNamed "internal/strconv.uint64pow10" = some 1 := by kernel_rfl
theorem gPowType : (Tryd.prog.globals[1]?).map (·.type) = some 172 := by kernel_rfl
theorem cellsPow : Tryd.prog.cellsOf 172 = 20 := by kernel_rfl
theorem cellsU64 : Tryd.prog.cellsOf 91 = 1 := by kernel_rfl
theorem gBr : Tryd.prog.globalNamed "math/bits.deBruijn64tab" = some 0 := by kernel_rfl
theorem gBrType : (Tryd.prog.globals[0]?).map (·.type) = some 170 := by kernel_rfl
theorem cellsBr : Tryd.prog.cellsOf 170 = 64 := by kernel_rfl
theorem cellsU8 : Tryd.prog.cellsOf 5 = 1 := by kernel_rfl
theorem own : ownKnob Tryd.prog.godebug = none := by kernel_rfl
/-- The three tables, as each row of this seat lists them. -/
abbrev three : List (String × DataW Unit) := [("math/bits.deBruijn32tab", Rows.laid_math_bits_deBruijn32tab), ("math/bits.deBruijn64tab", Rows.laid_math_bits_deBruijn64tab), ("internal/strconv.uint64pow10", Rows.laid_internal_strconv_uint64pow10)]
theorem tabs_of {W : World} (h : laidMetH Tryd.prog three W) : Tabs W := by
  refine ⟨?_, ?_⟩
  · have h1 := h.filter (fun x => x.1 == "internal/strconv.uint64pow10")
    have e : three.filter (fun x => x.1 == "internal/strconv.uint64pow10") = [("internal/strconv.uint64pow10", Lib.tabData .u64 Lib.pow10Tab)] := by kernel_rfl
    rw [e] at h1
    exact Lib.tabIs_of_head (rest := []) gPow gPowType Tryd.underlying172 Tryd.underlying91 cellsU64 cellsPow h1
  · have h1 := h.filter (fun x => x.1 == "math/bits.deBruijn64tab")
    have e : three.filter (fun x => x.1 == "math/bits.deBruijn64tab") = [("math/bits.deBruijn64tab", Lib.tabData .u8 deBruijn64)] := by kernel_rfl
    rw [e] at h1
    exact Lib.tabIs_of_head (rest := []) gBr gBrType Tryd.underlying170 Tryd.underlying5 cellsU8 cellsBr h1
/-- A row of cells laid over by given numbers. -/
def relay (k : IntKind) (zs : List Int) : Obj → Obj
  | .cells _ t frozen => .cells (zs.map fun z => Value.int k z).toArray t frozen
  | o => o
def bruijn32 : List Int := [0, 1, 28, 2, 29, 14, 24, 3, 30, 22, 20, 15, 25, 17, 4, 8, 31, 27, 13, 23, 21, 19, 16, 7, 26, 12, 18, 6, 11, 5, 10, 9]
/-- A world for the witness: the settled one, the tables holding what their initialisers lay. -/
noncomputable def laidWorld (os : Os) : World :=
  { World.holding Tryd.prog os ⟨#[], #[], []⟩ with
    heap := (((World.holding Tryd.prog os ⟨#[], #[], []⟩).heap.modify 1 (relay .u64 Lib.pow10Tab)).modify 0 (relay .u8 deBruijn64)).modify 3 (relay .u8 bruijn32) }
end Go.Proofs.YtiahgcaenneonaaDoor
