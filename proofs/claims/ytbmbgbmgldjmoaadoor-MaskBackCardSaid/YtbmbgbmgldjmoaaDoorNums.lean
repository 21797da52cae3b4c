/-
  The walks of layer 1 (nums) and of the document's answer for it: each function by its contract.
-/
import Derived.Test.YtbmbgbmgldjmoaaDoorBase
namespace Go.Proofs.YtbmbgbmgldjmoaaDoor
open Go.RowKit Kv

theorem within_any (n lo hi : Int) (w : World) :
    Calls Tryd.prog 79 #[.int .i64 n, .int .i64 lo, .int .i64 hi] w fun e w' => e = .returned (.int .i64 (within n lo hi)) ∧ w = w' := by
  unfold within
  go_enter Tryd.func79, Tryd.ntmps79
  go_wp2
  all_goals go_ret
  all_goals simp [*]
theorem clamp_p (n top : Int) (w : World) :
    Calls Tryd.prog 22 #[.int .i64 n, .int .i64 top] w fun e w' => e = .returned (.int .i64 (clamp n top)) ∧ w = w' := by
  go_enter Tryd.func22, Tryd.ntmps22
  go_wp2
  all_goals go_ret
  all_goals exact ⟨ret_int (by unfold clamp within; omega), rfl⟩
theorem clamp_r (n top : Int) (w : World) :
    Calls Tryd.prog 23 #[.int .i64 n, .int .i64 top] w fun e w' => e = .returned (.int .i64 (clamp n top)) ∧ w = w' := by
  go_enter Tryd.func23, Tryd.ntmps23
  go_wp2_with (go_at_call 79; refine (within_any _ _ _ _).mono ?_; rintro e w' ⟨rfl, rfl⟩)
  go_ret
  exact ⟨rfl, rfl⟩
theorem wrap_p (n top : Int) (w : World) :
    Calls Tryd.prog 24 #[.int .i64 n, .int .i64 top] w fun e w' => e = .returned (.int .i64 (wrapI n top)) ∧ w = w' := by
  have h1 := clamp_bd top 1099511627776
  have h2 := tmod_neg_fix n (clamp top 1099511627776 + 1) (by omega)
  have h3 := tmod_pos_fix n (clamp top 1099511627776 + 1) (by omega)
  have h4 := Int.emod_lt_of_pos n (b := clamp top 1099511627776 + 1) (by omega)
  have h5 := Int.emod_nonneg n (b := clamp top 1099511627776 + 1) (by omega)
  have H : Hid ((n.tmod (clamp top 1099511627776 + 1) < 0 → wrap64 (n.tmod (clamp top 1099511627776 + 1) + (clamp top 1099511627776 + 1)) = wrapI n top) ∧ (0 ≤ n.tmod (clamp top 1099511627776 + 1) → n.tmod (clamp top 1099511627776 + 1) = wrapI n top)) := by
    refine ⟨fun h => ?_, fun h => ?_⟩
    · rw [h2 h, w64 _ (by omega) (by omega)]; rfl
    · rw [h3 h]; rfl
  clear h2 h3 h4 h5
  go_enter Tryd.func24, Tryd.ntmps24
  go_wp2_with (go_at_call 22; refine (clamp_p _ _ _).mono ?_; rintro e w' ⟨rfl, rfl⟩)
  all_goals go_ret
  · exact ⟨ret_int (H.out.1 ‹_›), rfl⟩
  · exact ⟨ret_int (H.out.2 ‹_›), rfl⟩
theorem wrap_r (n top : Int) (w : World) :
    Calls Tryd.prog 25 #[.int .i64 n, .int .i64 top] w fun e w' => e = .returned (.int .i64 (wrapI n top)) ∧ w = w' := by
  have h1 := within_bd top 0 1099511627776 (by omega)
  have he := clamp_word top
  have h2 := tmod_neg_fix n (clamp top 1099511627776 + 1) (by omega)
  have h3 := tmod_pos_fix n (clamp top 1099511627776 + 1) (by omega)
  have h4 := Int.emod_lt_of_pos n (b := clamp top 1099511627776 + 1) (by omega)
  have h5 := Int.emod_nonneg n (b := clamp top 1099511627776 + 1) (by omega)
  rw [he] at h2 h3 h4 h5
  have H : Hid ((n.tmod (within top 0 1099511627776 + 1) < 0 → wrap64 (n.tmod (within top 0 1099511627776 + 1) + (within top 0 1099511627776 + 1)) = wrapI n top) ∧ (0 ≤ n.tmod (within top 0 1099511627776 + 1) → n.tmod (within top 0 1099511627776 + 1) = wrapI n top)) := by
    unfold wrapI
    rw [he]
    refine ⟨fun h => ?_, fun h => ?_⟩
    · rw [h2 h, w64 _ (by omega) (by omega)]
    · rw [h3 h]
  clear h2 h3 h4 h5 he
  go_enter Tryd.func25, Tryd.ntmps25
  go_wp2_with (go_at_call 79; refine (within_any _ _ _ _).mono ?_; rintro e w' ⟨rfl, rfl⟩)
  all_goals go_ret
  · exact ⟨ret_int (H.out.1 ‹_›), rfl⟩
  · exact ⟨ret_int (H.out.2 ‹_›), rfl⟩
theorem pack_p (hi lo top : Int) (w : World) :
    Calls Tryd.prog 26 #[.int .i64 hi, .int .i64 lo, .int .i64 top] w fun e w' => e = .returned (.int .i64 (packI hi lo top)) ∧ w = w' := by
  go_enter Tryd.func26, Tryd.ntmps26
  go_wp2_with fail
  refine (clamp_p _ _ _).mono ?_
  rintro e w' ⟨rfl, rfl⟩
  rw [clamp_room]
  have h1 := room_bd hi
  have h2 := room_bd top
  have h3 := within_bd lo 0 (room top) h2.1
  have h4 : 0 ≤ room hi * (room top + 1) := Int.mul_nonneg h1.1 (by omega)
  have h5 : room hi * (room top + 1) ≤ 1048576 * 1048577 := Int.mul_le_mul h1.2 (by omega) (by omega) (by omega)
  go_wp2_with fail
  refine (clamp_p _ _ _).mono ?_
  rintro e w' ⟨rfl, rfl⟩
  rw [clamp_room]
  go_wp2_with fail
  refine (clamp_p _ _ _).mono ?_
  rintro e w' ⟨rfl, rfl⟩
  rw [clamp_of_room]
  go_wp2
  go_ret
  exact ⟨rfl, rfl⟩
theorem pack_r (hi lo top : Int) (w : World) :
    Calls Tryd.prog 27 #[.int .i64 hi, .int .i64 lo, .int .i64 top] w fun e w' => e = .returned (.int .i64 (packI hi lo top)) ∧ w = w' := by
  have h1 := room_bd hi
  have h2 := room_bd top
  have h3 := within_bd lo 0 (room top) h2.1
  have h4 : 0 ≤ room hi * (room top + 1) := Int.mul_nonneg h1.1 (by omega)
  have h5 : room hi * (room top + 1) ≤ 1048576 * 1048577 := Int.mul_le_mul h1.2 (by omega) (by omega) (by omega)
  go_enter Tryd.func27, Tryd.ntmps27
  go_wp2_with fail
  refine (within_any _ _ _ _).mono ?_
  rintro e w' ⟨rfl, rfl⟩
  rw [show within top 0 1048576 = room top from rfl]
  go_wp2_with fail
  refine (within_any _ _ _ _).mono ?_
  rintro e w' ⟨rfl, rfl⟩
  rw [show within hi 0 1048576 = room hi from rfl]
  go_wp2_with fail
  refine (within_any _ _ _ _).mono ?_
  rintro e w' ⟨rfl, rfl⟩
  go_wp2
  go_ret
  exact ⟨rfl, rfl⟩
theorem unpack_p (x top : Int) (w : World) :
    Calls Tryd.prog 20 #[.int .i64 x, .int .i64 top] w fun e w' => e = .returned (.tuple #[.int .i64 (unHi x top), .int .i64 (unLo x top)]) ∧ Drew w w' := by
  have h2 := room_bd top
  have h3 := unX_bd x
  have hx : Hid (max 0 (min x 4398046511104) = unX x) := by unfold unX within; show max 0 (min x 4398046511104) = _; omega
  go_enter Tryd.func20, Tryd.ntmps20
  go_wp2_with fail
  refine (clamp_p _ _ _).mono ?_
  rintro e w' ⟨rfl, rfl⟩
  rw [clamp_room]
  go_wp2
  rw [hx.out]
  go_quiet (fail)
  go_wp2
  go_ret2
  exact ⟨rfl, Drew.mk' _ _⟩
theorem unpack_r (x top : Int) (w : World) :
    Calls Tryd.prog 21 #[.int .i64 x, .int .i64 top] w fun e w' => e = .returned (.tuple #[.int .i64 (unHi x top), .int .i64 (unLo x top)]) ∧ Drew w w' := by
  have h2 := room_bd top
  have h3 := unX_bd x
  have hm1 := Int.mul_ediv_self_le (x := unX x) (k := room top + 1) (by omega)
  have hm2 := Int.ediv_nonneg h3.1 (b := room top + 1) (by omega)
  have hm3 : (room top + 1) * (unX x / (room top + 1)) = unX x / (room top + 1) * (room top + 1) := Int.mul_comm _ _
  have hm4 := Int.mul_nonneg hm2 (show 0 ≤ room top + 1 by omega)
  have e1 : IntKind.i64.wrap (unX x / (room top + 1) * (room top + 1)) = unX x / (room top + 1) * (room top + 1) := IntWalk.i64_in _ (by omega)
  have e2 : IntKind.i64.wrap (unX x - unX x / (room top + 1) * (room top + 1)) = unX x - unX x / (room top + 1) * (room top + 1) := IntWalk.i64_in _ (by omega)
  have H : Hid (unX x - unX x / (room top + 1) * (room top + 1) = unLo x top) := by
    have := Int.mul_ediv_add_emod (unX x) (room top + 1)
    unfold unLo
    show _ = _
    omega
  clear hm1 hm3
  go_enter Tryd.func21, Tryd.ntmps21
  go_wp2_with fail
  refine (within_any _ _ _ _).mono ?_
  rintro e w' ⟨rfl, rfl⟩
  rw [show within top 0 1048576 = room top from rfl]
  go_wp2_with fail
  refine (within_any _ _ _ _).mono ?_
  rintro e w' ⟨rfl, rfl⟩
  rw [show within x 0 4398046511104 = unX x from rfl]
  go_wp2
  go_quiet (fail)
  go_wp2
  go_ret2
  exact ⟨ret_int2 rfl H.out, Drew.mk' _ _⟩
/-- The document's levels: a loop that doubles. -/
theorem levels_r (n : Int) (hn : n ≤ 9223372036854775807) (w : World) :
    Calls Tryd.prog 29 #[.int .i64 n] w fun e w' => e = .returned (.int .i64 (levels n)) ∧ w = w' := by
  go_enter Tryd.func29, Tryd.ntmps29
  go_wp2
  go_loop [3, 4] (fun k p => ∃ j q : Nat, k = .int .i64 j ∧ p = .int .u64 q ∧ j ≤ 63 ∧ 1 ≤ q ∧ Hid (q = 2 ^ j ∧ levels n = j + levelsFrom n.toNat (64 - j) q)) (fun k _ => 64 - (intOf k).toNat)
  case atStart => exact ⟨0, 1, rfl, rfl, by omega, by omega, by unfold Hid; exact ⟨rfl, by unfold levels; simp⟩⟩
  case round =>
    obtain ⟨j, q, rfl, rfl, hj, hq, H⟩ := hrel
    have hp : q ≤ 2 ^ 63 := by rw [H.out.1]; exact Nat.pow_le_pow_right (by omega) hj
    by_cases hpos : 0 < n
    · by_cases hlt : (q : Int) < n
      · have hj2 : j < 63 := by
          rcases Nat.lt_or_ge j 63 with h | h
          · exact h
          · have : j = 63 := by omega
            have h2 := H.out.1
            rw [this] at h2
            omega
        have hs := levelsFrom_step n.toNat (64 - (j + 1)) q (by omega)
        have H2 : Hid (2 * q = 2 ^ (j + 1) ∧ levels n = (j + 1 : Nat) + levelsFrom n.toNat (64 - (j + 1)) (2 * q)) := by
          refine ⟨by rw [H.out.1, Nat.pow_succ]; omega, ?_⟩
          rw [H.out.2, show 64 - j = (64 - (j + 1)) + 1 from by omega, hs]
          omega
        clear hs
        go_wp2
        go_round
        case rel => exact ⟨j + 1, 2 * q, by go_num, by go_num, by omega, by omega, H2⟩
        case measure => simp [intOf]; omega
      · have H2 : Hid ((levels n : Int) = j) := by
          have : levelsFrom n.toNat (64 - j) q = 0 := by
            rw [show 64 - j = (63 - j) + 1 from by omega]
            simp only [levelsFrom]
            rw [if_neg (by omega)]
          unfold Hid
          rw [H.out.2, this]
          omega
        go_wp2
        go_ret
        exact ⟨ret_int (by rw [H2.out]), rfl⟩
    · have H2 : Hid ((levels n : Int) = j) := by
        have hl := levels_small n (by omega)
        have h2 := H.out.2
        rw [hl] at h2
        unfold Hid
        omega
      go_wp2
      go_ret
      exact ⟨ret_int (by rw [H2.out]), rfl⟩

def strLen : Value → Nat | .string s => s.size | _ => 0
theorem bytes_cat (a b : List UInt8) : (⟨a.toArray⟩ : ByteArray) ++ ⟨b.toArray⟩ = ⟨(a ++ b).toArray⟩ := by
  apply ByteArray.ext
  simp
theorem digit_cut : ∀ d : Fin 10, (⟨#[48, 49, 50, 51, 52, 53, 54, 55, 56, 57]⟩ : ByteArray).extract d.val (d.val + 1) = ⟨[UInt8.ofNat (48 + d.val)].toArray⟩ := by
  decide +kernel
theorem digit_cat (d : Nat) (h : d < 10) (l : List UInt8) : (⟨#[48, 49, 50, 51, 52, 53, 54, 55, 56, 57]⟩ : ByteArray).extract d (d + 1) ++ ⟨l.toArray⟩ = ⟨(UInt8.ofNat (48 + d) :: l).toArray⟩ := by
  have := digit_cut ⟨d, h⟩
  simp only at this
  rw [this, bytes_cat]
  rfl
theorem digits_keep (M m : Nat) (l : List UInt8) (hm : 0 < m ∨ l = []) (h : Go.Lib.decDigits M = (if m = 0 ∧ l ≠ [] then [] else Go.Lib.decDigits m) ++ l) :
    Go.Lib.decDigits M = (if m / 10 = 0 ∧ UInt8.ofNat (48 + m % 10) :: l ≠ [] then [] else Go.Lib.decDigits (m / 10)) ++ (UInt8.ofNat (48 + m % 10) :: l) := by
  rw [if_neg (fun hh => hm.elim (fun h3 => by omega) (fun h3 => hh.2 h3))] at h
  rw [h]
  by_cases h10 : 10 ≤ m
  · rw [decDigits_step m h10, if_neg (by omega)]
    simp
  · rw [decDigits_one m (by omega), if_pos (by simp; omega), show m % 10 = m from by omega]
    rfl
theorem digits_room (M m k : Nat) (hM : M ≤ 9223372036854775808) (h : 10 ^ k * m ≤ M) (hm : 0 < m) : k ≤ 18 := by
  rcases Nat.lt_or_ge 18 k with hk | hk
  · have h1 : 10 ^ 19 ≤ 10 ^ k := Nat.pow_le_pow_right (by omega) hk
    have h2 : 10 ^ k * 1 ≤ 10 ^ k * m := Nat.mul_le_mul_left _ hm
    omega
  · exact hk
theorem digits_room' (M m k : Nat) (h : 10 ^ k * m ≤ M) : 10 ^ (k + 1) * (m / 10) ≤ M := by
  have h2 : 10 ^ k * (10 * (m / 10)) ≤ 10 ^ k * m := Nat.mul_le_mul_left _ (Nat.mul_div_le m 10)
  rw [Nat.pow_succ, Nat.mul_assoc]
  omega
/-- What a round of the document's digits keeps. -/
def DigitsRel (M : Nat) (x s : Value) : Prop := ∃ (m : Nat) (l : List UInt8), x = .int .i64 (-(m : Int)) ∧ s = .string ⟨l.toArray⟩ ∧ m ≤ M ∧ l.length ≤ 20 ∧
  Hid (Go.Lib.decDigits M = (if m = 0 ∧ l ≠ [] then [] else Go.Lib.decDigits m) ++ l) ∧ 10 ^ l.length * m ≤ M
theorem digits_r (n0 : Int) (h0 : -9223372036854775808 ≤ n0) (h1 : n0 ≤ 9223372036854775807) (w : World) :
    Calls Tryd.prog 31 #[.int .i64 n0] w fun e w' => e = .returned (.string ⟨(digits n0).toArray⟩) ∧ w = w' := by
  obtain ⟨M, hM, hMn⟩ : ∃ M : Nat, M ≤ 9223372036854775808 ∧ M = n0.natAbs := ⟨n0.natAbs, by omega, rfl⟩
  have Hd : Hid (digits n0 = (if n0 < 0 then [45] else []) ++ Go.Lib.decDigits M) := by
    unfold Hid digits Go.Lib.itoa
    subst hMn
    by_cases hneg : n0 < 0
    · rw [if_pos hneg, if_pos hneg]; rfl
    · rw [if_neg hneg, if_neg hneg, show n0.natAbs = n0.toNat from by omega]; rfl
  by_cases hneg : n0 < 0
  · obtain rfl : n0 = -(M : Int) := by omega
    clear hMn
    rw [if_pos hneg] at Hd
    go_enter Tryd.func31, Tryd.ntmps31
    go_wp2
    go_loop [0, 4] (fun x s => DigitsRel M x s) (fun x s => (-(intOf x)).toNat + (1 - min 1 (strLen s)))
    case atStart => exact ⟨M, [], rfl, rfl, by omega, by simp, by unfold Hid; simp, by simp⟩
    case round =>
      obtain ⟨m, l, rfl, rfl, hm, hl, H, hr⟩ := hrel
      by_cases hlt : 0 < m
      · have hlt' : (-(m : Int) < 0) := by omega
        have hd : decide (-(m : Int) < 0) = true := by simp; omega
        have hk := digits_room M m l.length hM hr hlt
        have hc := Lib.hid (digit_cat (m % 10) (by omega) l)
        have hr2 := digits_room' M m l.length hr
        have H2 := Lib.hid (digits_keep M m l (.inl hlt) H.out)
        clear H
        go_wp2
        all_goals (rw [hc.out])
        all_goals refine ⟨⟨m / 10, UInt8.ofNat (48 + m % 10) :: l, by simp, rfl, by omega, by simp; omega, H2.out, by simpa using hr2⟩, ?_⟩
        all_goals simp [intOf, strLen, ByteArray.size]
        all_goals omega
      · obtain rfl : m = 0 := by omega
        cases l with
        | nil =>
          have hc := Lib.hid (digit_cat 0 (by omega) [])
          have hr2 := digits_room' M 0 0 hr
          have H2 := Lib.hid (digits_keep M 0 [] (.inr rfl) H.out)
          clear H
          go_wp2
          all_goals (rw [show (⟨#[]⟩ : ByteArray) = ⟨([] : List UInt8).toArray⟩ from rfl, hc.out])
          all_goals refine ⟨⟨0, [UInt8.ofNat (48 + 0)], rfl, rfl, by omega, by simp, H2.out, by simp⟩, ?_⟩
          all_goals simp [intOf, strLen, ByteArray.size]
        | cons x l =>
          have H2 : Hid (Go.Lib.decDigits M = x :: l) := by
            have := H.out
            rw [if_pos (by simp)] at this
            exact this
          have hl2 : l.length ≤ 19 := by simpa using hl
          clear H hl hr
          go_wp2
          go_ret
          refine ⟨?_, rfl⟩
          rw [Hd.out, H2.out]
          exact congrArg (fun b => Ending.returned (.string b)) (bytes_cat [45] (x :: l))
  · obtain rfl : n0 = (M : Int) := by omega
    clear hMn
    rw [if_neg hneg] at Hd
    go_enter Tryd.func31, Tryd.ntmps31
    go_wp2
    go_loop [0, 4] (fun x s => DigitsRel M x s) (fun x s => (-(intOf x)).toNat + (1 - min 1 (strLen s)))
    case atStart => exact ⟨M, [], rfl, rfl, by omega, by simp, by unfold Hid; simp, by simp⟩
    case round =>
      obtain ⟨m, l, rfl, rfl, hm, hl, H, hr⟩ := hrel
      by_cases hlt : 0 < m
      · have hlt' : (-(m : Int) < 0) := by omega
        have hd : decide (-(m : Int) < 0) = true := by simp; omega
        have hk := digits_room M m l.length hM hr hlt
        have hc := Lib.hid (digit_cat (m % 10) (by omega) l)
        have hr2 := digits_room' M m l.length hr
        have H2 := Lib.hid (digits_keep M m l (.inl hlt) H.out)
        clear H
        go_wp2
        all_goals (rw [hc.out])
        all_goals refine ⟨⟨m / 10, UInt8.ofNat (48 + m % 10) :: l, by simp, rfl, by omega, by simp; omega, H2.out, by simpa using hr2⟩, ?_⟩
        all_goals simp [intOf, strLen, ByteArray.size]
        all_goals omega
      · obtain rfl : m = 0 := by omega
        cases l with
        | nil =>
          have hc := Lib.hid (digit_cat 0 (by omega) [])
          have hr2 := digits_room' M 0 0 hr
          have H2 := Lib.hid (digits_keep M 0 [] (.inr rfl) H.out)
          clear H
          go_wp2
          all_goals (rw [show (⟨#[]⟩ : ByteArray) = ⟨([] : List UInt8).toArray⟩ from rfl, hc.out])
          all_goals refine ⟨⟨0, [UInt8.ofNat (48 + 0)], rfl, rfl, by omega, by simp, H2.out, by simp⟩, ?_⟩
          all_goals simp [intOf, strLen, ByteArray.size]
        | cons x l =>
          have H2 : Hid (Go.Lib.decDigits M = x :: l) := by
            have := H.out
            rw [if_pos (by simp)] at this
            exact this
          have hl2 : l.length ≤ 19 := by simpa using hl
          clear H hl hr
          go_wp2
          go_ret
          refine ⟨?_, rfl⟩
          rw [Hd.out, H2.out]
          exact congrArg (fun b => Ending.returned (.string b)) (bytes_cat [] (x :: l))
end Go.Proofs.YtbmbgbmgldjmoaaDoor
