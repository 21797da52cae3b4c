/-
  The walks of layer 2 (mask) but for what goes through a set: each function by its contract.
-/
import Derived.Test.YtbmbgbmgldjmoaaDoorInts
import Derived.Test.YtbmbgbmgldjmoaaDoorMaskPure
namespace Go.Proofs.YtbmbgbmgldjmoaaDoor
open Go.RowKit Kv
theorem thread_any (t : Int) (w : World) :
    Calls Tryd.prog 86 #[.int .i64 t] w fun e w' => e = .returned (.bool (decide (inSet t))) ∧ w = w' := by
  by_cases h0 : 0 ≤ t
  · have H : Hid (decide (t < 64) = decide (inSet t)) := by unfold Hid inSet; simp [h0]
    go_enter Tryd.func86, Tryd.ntmps86
    go_wp2
    go_ret
    exact ⟨ret_bool H.out, rfl⟩
  · have H : Hid (false = decide (inSet t)) := by unfold Hid inSet; simp [h0]
    go_enter Tryd.func86, Tryd.ntmps86
    go_wp2
    go_ret
    exact ⟨ret_bool H.out, rfl⟩
theorem nat_toNat (t : Int) (h : inSet t) : ∃ k : Nat, t = (k : Int) ∧ k < 64 := ⟨t.toNat, by have := h.1; omega, by have := h.1; have := h.2; omega⟩
theorem inSet_nat (k : Nat) (h : k < 64) : inSet (k : Int) := by unfold inSet; omega
theorem bit_test (s k : Nat) (hs : s < 18446744073709551616) : (bits .and .u64 ((s : Int) / 2 ^ k) 1 == 1) = s.testBit k := by
  have hd : s / 2 ^ k < 18446744073709551616 := Nat.lt_of_le_of_lt (Nat.div_le_self _ _) hs
  have h := u64_and_nat (s / 2 ^ k) 1 hd (by omega)
  have e : ((s / 2 ^ k : Nat) : Int) = (s : Int) / 2 ^ k := by push_cast; rfl
  rw [e] at h
  rw [show (1 : Int) = ((1 : Nat) : Int) from rfl, h, Nat.testBit_eq_decide_div_mod_eq, Nat.and_one_is_mod]
  rw [Bool.eq_iff_iff]
  simp
  omega
theorem u64pow (k : Nat) (hk : k < 64) : IntKind.u64.wrap ((2 : Int) ^ k) = ((2 ^ k : Nat) : Int) := by
  have h : (2 ^ k : Nat) < 2 ^ 64 := Nat.pow_lt_pow_right (by omega) hk
  have e : (2 : Int) ^ k = ((2 ^ k : Nat) : Int) := by push_cast; rfl
  rw [e, IntKind.wrap_u64]
  generalize (2 ^ k : Nat) = p at *
  omega
theorem has_p (s : Nat) (hs : s < 18446744073709551616) (t : Int) (w : World) :
    Calls Tryd.prog 39 #[.int .u64 s, .int .i64 t] w fun e w' => e = .returned (.bool (hasM s t)) ∧ w = w' := by
  by_cases h0 : inSet t
  · obtain ⟨k, rfl, hk⟩ := nat_toNat t h0
    have H : Hid ((bits .and .u64 ((s : Int) / 2 ^ k) 1 == 1) = hasM s k) := by
      unfold Hid hasM
      rw [bit_test s k hs, if_pos h0, Int.toNat_natCast]
    have d : decide (inSet (k : Int)) = true := by simp [h0]
    go_enter Tryd.func39, Tryd.ntmps39
    go_wp2_with (go_at_call 86; refine (thread_any _ _).mono ?_; rintro e w' ⟨rfl, rfl⟩)
    go_ret
    exact ⟨ret_bool H.out, rfl⟩
  · have H : Hid (false = hasM s t) := by unfold Hid hasM; rw [if_neg h0]
    have d : decide (inSet t) = false := by simp [h0]
    go_enter Tryd.func39, Tryd.ntmps39
    go_wp2_with (go_at_call 86; refine (thread_any _ _).mono ?_; rintro e w' ⟨rfl, rfl⟩)
    go_ret
    exact ⟨ret_bool H.out, rfl⟩
theorem with_p (s : Nat) (hs : s < 18446744073709551616) (t : Int) (w : World) :
    Calls Tryd.prog 41 #[.int .u64 s, .int .i64 t] w fun e w' => e = .returned (.int .u64 (withM s t)) ∧ w = w' := by
  by_cases h0 : inSet t
  · obtain ⟨k, rfl, hk⟩ := nat_toNat t h0
    have d : decide (inSet (k : Int)) = true := by simp [h0]
    go_enter Tryd.func41, Tryd.ntmps41
    go_wp2_with (go_at_call 86; refine (thread_any _ _).mono ?_; rintro e w' ⟨rfl, rfl⟩)
    go_ret
    refine ⟨ret_int ?_, rfl⟩
    show bits .or .u64 (s : Int) (IntKind.u64.wrap ((2 : Int) ^ k)) = _
    have hp : (2 ^ k : Nat) < 2 ^ 64 := Nat.pow_lt_pow_right (by omega) hk
    rw [u64pow k hk, u64_or_nat s _ hs (by omega)]
    unfold withM
    rw [if_pos h0, Int.toNat_natCast]
  · have H : Hid ((s : Int) = withM s t) := by unfold Hid withM; rw [if_neg h0]
    have d : decide (inSet t) = false := by simp [h0]
    go_enter Tryd.func41, Tryd.ntmps41
    go_wp2_with (go_at_call 86; refine (thread_any _ _).mono ?_; rintro e w' ⟨rfl, rfl⟩)
    go_ret
    exact ⟨ret_int H.out, rfl⟩
theorem without_p (s : Nat) (hs : s < 18446744073709551616) (t : Int) (w : World) :
    Calls Tryd.prog 43 #[.int .u64 s, .int .i64 t] w fun e w' => e = .returned (.int .u64 (woutM s t)) ∧ w = w' := by
  by_cases h0 : inSet t
  · obtain ⟨k, rfl, hk⟩ := nat_toNat t h0
    have d : decide (inSet (k : Int)) = true := by simp [h0]
    go_enter Tryd.func43, Tryd.ntmps43
    go_wp2_with (go_at_call 86; refine (thread_any _ _).mono ?_; rintro e w' ⟨rfl, rfl⟩)
    go_ret
    refine ⟨ret_int ?_, rfl⟩
    show bits .andNot .u64 (s : Int) (IntKind.u64.wrap ((2 : Int) ^ k)) = _
    have hp : (2 ^ k : Nat) < 2 ^ 64 := Nat.pow_lt_pow_right (by omega) hk
    rw [u64pow k hk, u64_andNot_nat s _ hs (by omega)]
    unfold woutM
    rw [if_pos h0, Int.toNat_natCast]
  · have H : Hid ((s : Int) = woutM s t) := by unfold Hid woutM; rw [if_neg h0]
    have d : decide (inSet t) = false := by simp [h0]
    go_enter Tryd.func43, Tryd.ntmps43
    go_wp2_with (go_at_call 86; refine (thread_any _ _).mono ?_; rintro e w' ⟨rfl, rfl⟩)
    go_ret
    exact ⟨ret_int H.out, rfl⟩
theorem first_p (n : Int) (w : World) :
    Calls Tryd.prog 46 #[.int .i64 n] w fun e w' => e = .returned (.int .u64 (firstM n)) ∧ w = w' := by
  go_enter Tryd.func46, Tryd.ntmps46
  go_wp2
  all_goals go_ret
  · exact ⟨ret_int (by unfold firstM; rw [if_pos (by assumption)]; rfl), rfl⟩
  · exact ⟨ret_int (by unfold firstM; rw [if_neg (by omega), if_pos (by assumption)]; rfl), rfl⟩
  · refine ⟨ret_int ?_, rfl⟩
    show IntKind.u64.wrap (IntKind.u64.wrap ((2 : Int) ^ n.toNat) - 1) = _
    have hp : (2 ^ n.toNat : Nat) < 2 ^ 64 := Nat.pow_lt_pow_right (by omega) (by omega)
    have hq := Nat.two_pow_pos n.toNat
    rw [u64pow _ (by omega), IntKind.wrap_u64]
    unfold firstM
    rw [if_neg (by omega), if_neg (by omega)]
    omega

/-- By halves. -/
theorem has_r (s : Nat) (hs : s < 18446744073709551616) (t : Int) (w : World) :
    Calls Tryd.prog 40 #[.int .u64 s, .int .i64 t] w fun e w' => e = .returned (.bool (hasM s t)) ∧ w = w' := by
  by_cases h0 : inSet t
  · obtain ⟨k, rfl, hk⟩ := nat_toNat t h0
    have H : Hid (hasM s k = decide (s / 2 ^ k % 2 = 1)) := by
      unfold Hid hasM
      rw [if_pos h0, Int.toNat_natCast, Nat.testBit_eq_decide_div_mod_eq]
    go_enter Tryd.func40, Tryd.ntmps40
    go_wp2
    go_loop [0, 5] (fun x i => ∃ j : Nat, j ≤ k ∧ i = .int .i64 j ∧ x = .int .u64 ((s / 2 ^ j : Nat) : Int)) (fun _ i => k - (intOf i).toNat)
    case atStart => exact ⟨0, by omega, rfl, by simp⟩
    case round =>
      obtain ⟨j, hj, rfl, rfl⟩ := hrel
      have hle : s / 2 ^ j ≤ s := Nat.div_le_self _ _
      have H2 : Hid (s / 2 ^ j / 2 = s / 2 ^ (j + 1)) := by unfold Hid; rw [Nat.div_div_eq_div_mul, Nat.pow_succ]
      generalize hx : s / 2 ^ j = x at *
      have Hx := Lib.hid hx
      clear hx
      by_cases hlt : j < k
      · go_wp2
        go_round
        case rel => exact ⟨j + 1, by omega, by go_num, by rw [← H2.out]; go_num⟩
        case measure => simp [intOf]; omega
      · obtain rfl : j = k := by omega
        go_wp2
        go_ret
        refine ⟨ret_bool ?_, rfl⟩
        rw [H.out, Hx.out]
        rw [Bool.eq_iff_iff]
        simp
        omega
  · have H : Hid (false = hasM s t) := by unfold Hid hasM; rw [if_neg h0]
    by_cases h1 : t < 0
    · go_enter Tryd.func40, Tryd.ntmps40
      go_wp2
      go_ret
      exact ⟨ret_bool H.out, rfl⟩
    · have h2 : 63 < t := by unfold inSet at h0; omega
      go_enter Tryd.func40, Tryd.ntmps40
      go_wp2
      go_ret
      exact ⟨ret_bool H.out, rfl⟩

theorem pow_or (s k : Nat) (h : s.testBit k = false) : s ||| 2 ^ k = s + 2 ^ k := by
  have h2 : s &&& 2 ^ k = 0 := by
    refine Nat.eq_of_testBit_eq fun i => ?_
    rw [Nat.testBit_and, Nat.testBit_two_pow, Nat.zero_testBit]
    by_cases hi : k = i
    · subst hi; simp [h]
    · simp [hi]
  exact or_add s (2 ^ k) h2
theorem with_r (s : Nat) (hs : s < 18446744073709551616) (t : Int) (w : World) :
    Calls Tryd.prog 42 #[.int .u64 s, .int .i64 t] w fun e w' => e = .returned (.int .u64 (withM s t)) ∧ w = w' := by
  by_cases h0 : inSet t
  · obtain ⟨k, rfl, hk⟩ := nat_toNat t h0
    have d0 : decide ((k : Int) < 0) = false := by simp
    have d1 : decide (63 < (k : Int)) = false := by simp; omega
    by_cases hb : s.testBit k = true
    · have d2 : hasM s k = true := by unfold hasM; rw [if_pos h0, Int.toNat_natCast, hb]
      have H : Hid ((s : Int) = withM s k) := by
        have : withM s k = s := by
          refine eq_of_bits fun i => ?_
          rw [withM_testBit]
          by_cases hi : i = k
          · subst hi; simp [hb]
          · simp [hi]
        unfold Hid
        rw [this]
      clear hb
      go_enter Tryd.func42, Tryd.ntmps42
      go_wp2_with (go_at_call 40; refine (has_r _ hs _ _).mono ?_; rintro e w' ⟨rfl, rfl⟩)
      go_ret
      exact ⟨ret_int H.out, rfl⟩
    · have hb : s.testBit k = false := by simpa using hb
      have d2 : hasM s k = false := by unfold hasM; rw [if_pos h0, Int.toNat_natCast, hb]
      have H : Hid (withM s k = s + 2 ^ k) := by unfold Hid withM; rw [if_pos h0, Int.toNat_natCast, pow_or s k hb]
      have hw := withM_lt hs k
      clear hb
      go_enter Tryd.func42, Tryd.ntmps42
      go_wp2_with (go_at_call 40; refine (has_r _ hs _ _).mono ?_; rintro e w' ⟨rfl, rfl⟩)
      go_loop [5, 6] (fun p i => ∃ j q : Nat, j ≤ k ∧ i = .int .i64 j ∧ p = .int .u64 q ∧ Hid (q = 2 ^ j)) (fun _ i => k - (intOf i).toNat)
      case atStart => exact ⟨0, 1, by omega, rfl, rfl, rfl⟩
      case round =>
        obtain ⟨j, q, hj, rfl, rfl, hq⟩ := hrel
        by_cases hlt : j < k
        · have h1 : q * 2 < 18446744073709551616 := by
            have : q * 2 = 2 ^ (j + 1) := by rw [hq.out, Nat.pow_succ]
            have h2 : 2 ^ (j + 1) < 2 ^ 64 := Nat.pow_lt_pow_right (by omega) (by omega)
            omega
          have hq2 : Hid (2 * q = 2 ^ (j + 1)) := by unfold Hid; rw [hq.out, Nat.pow_succ]; omega
          go_wp2
          go_round
          case rel => exact ⟨j + 1, 2 * q, by omega, by go_num, by go_num, hq2⟩
          case measure => simp [intOf]; omega
        · obtain rfl : j = k := by omega
          have h2 : Hid (withM s j = s + q) := by unfold Hid; rw [H.out, hq.out]
          have h3 : s + q < 18446744073709551616 := by rw [← h2.out]; exact hw
          clear hw
          go_wp2
          go_ret
          exact ⟨ret_int (by rw [h2.out]; rfl), rfl⟩
  · have H : Hid ((s : Int) = withM s t) := by unfold Hid withM; rw [if_neg h0]
    have d0 : hasM s t = false := by unfold hasM; rw [if_neg h0]
    by_cases h1 : t < 0
    · go_enter Tryd.func42, Tryd.ntmps42
      go_wp2_with (go_at_call 40; refine (has_r _ hs _ _).mono ?_; rintro e w' ⟨rfl, rfl⟩)
      go_ret
      exact ⟨ret_int H.out, rfl⟩
    · have h2 : 63 < t := by unfold inSet at h0; omega
      go_enter Tryd.func42, Tryd.ntmps42
      go_wp2_with (go_at_call 40; refine (has_r _ hs _ _).mono ?_; rintro e w' ⟨rfl, rfl⟩)
      go_ret
      exact ⟨ret_int H.out, rfl⟩
theorem wout_sub (s k : Nat) (hs : s < 18446744073709551616) (hk : k < 64) (hb : s.testBit k = true) : woutM s k = s - 2 ^ k := by
  have h0 := inSet_nat k hk
  have h1 : woutM s k ||| 2 ^ k = s := by
    refine eq_of_bits fun i => ?_
    rw [Nat.testBit_or, woutM_testBit hs, Nat.testBit_two_pow]
    by_cases hi : k = i
    · subst hi; simp [hb]
    · have : ¬ i = k := fun h => hi h.symm
      simp [hi, this]
  have h2 : woutM s k &&& 2 ^ k = 0 := by
    refine Nat.eq_of_testBit_eq fun i => ?_
    rw [Nat.testBit_and, woutM_testBit hs, Nat.testBit_two_pow, Nat.zero_testBit]
    by_cases hi : k = i
    · subst hi; simp [h0]
    · simp [hi]
  have := or_add _ _ h2
  omega
theorem without_r (s : Nat) (hs : s < 18446744073709551616) (t : Int) (w : World) :
    Calls Tryd.prog 44 #[.int .u64 s, .int .i64 t] w fun e w' => e = .returned (.int .u64 (woutM s t)) ∧ w = w' := by
  by_cases hb : hasM s t = true
  · have h0 : inSet t := by unfold hasM at hb; split at hb <;> simp_all
    obtain ⟨k, rfl, hk⟩ := nat_toNat t h0
    have hb' : s.testBit k = true := by unfold hasM at hb; rw [if_pos h0, Int.toNat_natCast] at hb; exact hb
    have hw : withM 0 k = 2 ^ k := by unfold withM; rw [if_pos h0, Int.toNat_natCast]; simp
    have hle : withM 0 k ≤ s := by rw [hw]; exact Nat.ge_two_pow_of_testBit hb'
    have H : Hid (woutM s k = s - withM 0 k) := by unfold Hid; rw [hw, wout_sub s k hs hk hb']
    clear hw hb'
    go_enter Tryd.func44, Tryd.ntmps44
    go_wp2_with (first | (go_at_call 40; refine (has_r _ hs _ _).mono ?_; rintro e w' ⟨rfl, rfl⟩) | (go_at_call 42; refine (with_r 0 (by omega) _ _).mono ?_; rintro e w' ⟨rfl, rfl⟩))
    go_ret
    refine ⟨ret_int ?_, rfl⟩
    rw [H.out]
    omega
  · have hb : hasM s t = false := by simpa using hb
    have H : Hid ((s : Int) = woutM s t) := by
      have : woutM s t = s := by
        refine eq_of_bits fun i => ?_
        rw [woutM_testBit hs]
        rw [hasM_testBit] at hb
        by_cases hi : i = t.toNat
        · subst hi
          by_cases h0 : inSet t
          · simp [h0] at hb; simp [hb]
          · simp [h0]
        · simp [hi]
      unfold Hid
      rw [this]
    go_enter Tryd.func44, Tryd.ntmps44
    go_wp2_with (go_at_call 40; refine (has_r _ hs _ _).mono ?_; rintro e w' ⟨rfl, rfl⟩)
    go_ret
    exact ⟨ret_int H.out, rfl⟩

theorem first_le (n : Int) (j : Nat) (hj : j < 64) (h : (j : Int) < n) : withM (firstM j) j = firstM (j + 1 : Nat) := by
  refine eq_of_bits fun i => ?_
  rw [withM_testBit, firstM_testBit, firstM_testBit]
  have := inSet_nat j hj
  by_cases hi : i = j
  · subst hi; simp [this, hj]; omega
  · by_cases h2 : i < j
    · have e1 : (i : Int) < (j : Int) := by omega
      have e2 : (i : Int) < ((j + 1 : Nat) : Int) := by omega
      simp [hi, e1]
      omega
    · have e1 : ¬ (i : Int) < (j : Int) := by omega
      have e2 : ¬ (i : Int) < ((j + 1 : Nat) : Int) := by omega
      simp [hi, e1]
      omega
theorem first_r (n : Int) (w : World) :
    Calls Tryd.prog 47 #[.int .i64 n] w fun e w' => e = .returned (.int .u64 (firstM n)) ∧ w = w' := by
  go_enter Tryd.func47, Tryd.ntmps47
  go_wp2_with fail
  go_loop [3, 4] (fun p i => ∃ j : Nat, j ≤ 64 ∧ i = .int .i64 j ∧ p = .int .u64 (firstM j) ∧ (j = 0 ∨ (j : Int) ≤ n)) (fun _ i => 64 - (intOf i).toNat)
  case atStart => exact ⟨0, by omega, rfl, rfl, .inl rfl⟩
  case round =>
    obtain ⟨j, hj, rfl, rfl, hn⟩ := hrel
    by_cases hlt : j < 64
    · by_cases hlt2 : (j : Int) < n
      · have H := Lib.hid (first_le n j hlt hlt2)
        have hf := firstM_lt (j : Int)
        have d1 : decide ((j : Int) < 64) = true := by simp; omega
        have d2 : decide ((j : Int) < n) = true := by simp; omega
        go_wp2_with (go_at_call 42; refine (with_r _ hf _ _).mono ?_; rintro e w' ⟨rfl, rfl⟩)
        go_roundw
        case rel => exact ⟨j + 1, by omega, by go_num, by rw [H.out], .inr (by omega)⟩
        case measure => simp [intOf]; omega
      · have H : Hid (firstM (j : Int) = firstM n) := by
          refine eq_of_bits fun i => ?_
          rw [firstM_testBit, firstM_testBit]
          have : ((i : Int) < (j : Int)) ↔ (i : Int) < n := by omega
          simp [this]
        have d1 : decide ((j : Int) < 64) = true := by simp; omega
        have d2 : decide ((j : Int) < n) = false := by simp; omega
        go_wp2_with fail
        go_ret
        exact ⟨ret_int (by rw [H.out]), rfl⟩
    · obtain rfl : j = 64 := by omega
      have H : Hid (firstM ((64 : Nat) : Int) = firstM n) := by
        refine eq_of_bits fun i => ?_
        rw [firstM_testBit, firstM_testBit]
        by_cases hi : i < 64
        · have : (i : Int) < n := by omega
          simp [hi, this]; omega
        · simp [hi]
      have d1 : decide (((64 : Nat) : Int) < 64) = false := by simp
      go_wp2_with fail
      go_ret
      exact ⟨ret_int (by rw [← H.out]; rfl), rfl⟩

/-- A set's list, as ints. -/
def intsM (s : Nat) : List Int := (listM s).map fun (i : Nat) => (i : Int)
def belowI (s k : Nat) : List Int := (belowM s k).map fun (i : Nat) => (i : Int)
theorem belowI_succ (s k : Nat) : belowI s (k + 1) = belowI s k ++ if s.testBit k then [(k : Int)] else [] := by
  unfold belowI
  rw [belowM_succ, List.map_append]
  congr 1
  split <;> rfl
theorem belowI_le (s k : Nat) : (belowI s k).length ≤ k := by
  unfold belowI belowM
  rw [List.length_map]
  exact Nat.le_trans (List.length_filter_le _ _) (by simp)
theorem list_r (s : Nat) (hs : s < 18446744073709551616) (w : World) :
    Calls Tryd.prog 45 #[.int .u64 s] w fun e w' => ∃ v, e = .returned v ∧ IntRow w' w.heap.size v (intsM s) ∧ Ext w w' := by
  go_enter Tryd.func45, Tryd.ntmps45
  go_wp2_with fail
  go_loopw [3, 4] (fun v i wr => ∃ j : Nat, j ≤ 64 ∧ i = .int .i64 j ∧ IntRow wr w.heap.size v (belowI s j) ∧ Ext w wr) (fun _ i _ => 64 - (intOf i).toNat)
  case atStart => exact ⟨0, by omega, rfl, IntRow.nil _ _, Ext.refl _⟩
  case round =>
    obtain ⟨j, hj, rfl, hown, hE⟩ := hrel
    by_cases hlt : j < 64
    · have hb := belowI_le s j
      have hs1 := belowI_succ s j
      have hsz := hE.size
      by_cases hbit : s.testBit j = true
      · have d : hasM s j = true := by unfold hasM; rw [if_pos (inSet_nat j hlt), Int.toNat_natCast, hbit]
        rw [if_pos hbit] at hs1
        have H1 := Lib.hid hs1
        clear hs1 hbit
        go_wp2_with (first | (go_at_call 40; refine (has_r _ hs _ _).mono ?_; rintro e w' ⟨rfl, rfl⟩) | (at_builtin; refine append_int rfl _ _ rfl w.heap.size _ (belowI s j) (j : Int) hown rfl rfl (by omega) hsz ?_))
        intro v' w1 hown' hgrow
        have hE' := hE.appended hown hgrow
        rw [← H1.out] at hown'
        clear hown hgrow
        go_wp2_with fail
        go_roundw
        case rel => exact ⟨j + 1, by omega, by go_num, hown', hE'⟩
        case measure => simp [intOf]; omega
      · have d : hasM s j = false := by unfold hasM; rw [if_pos (inSet_nat j hlt), Int.toNat_natCast]; simpa using hbit
        rw [if_neg hbit, List.append_nil] at hs1
        rw [← hs1] at hown
        clear hs1 hbit
        go_wp2_with (go_at_call 40; refine (has_r _ hs _ _).mono ?_; rintro e w' ⟨rfl, rfl⟩)
        go_roundw
        case rel => exact ⟨j + 1, by omega, by go_num, hown, hE⟩
        case measure => simp [intOf]; omega
    · obtain rfl : j = 64 := by omega
      rw [show belowI s 64 = intsM s from rfl] at hown
      go_wp2_with fail
      go_ret
      exact ⟨_, rfl, hown, hE⟩
end Go.Proofs.YtbmbgbmgldjmoaaDoor
