/-
  Layer 2 goes on: comparing lists, counting, sets of threads that are handed in.
-/
import Derived.Test.YtbmbgbmgldjmoaaDoorMask
import Derived.Test.YtbmbgbmgldjmoaaDoorPop
namespace Go.Proofs.YtbmbgbmgldjmoaaDoor
open Go.RowKit Kv
theorem take_snoc_eq {a b : List Int} {k : Nat} (ha : k < a.length) (hb : k < b.length) (h : a.take k = b.take k) : (a.take (k + 1) = b.take (k + 1)) ↔ a.getD k 0 = b.getD k 0 := by
  rw [List.take_succ_eq_append_getElem ha, List.take_succ_eq_append_getElem hb, h]
  rw [List.append_cancel_left_eq]
  simp [List.getD, List.getElem?_eq_getElem ha, List.getElem?_eq_getElem hb]
theorem ints_r (v1 v2 : Value) (a b : List Int) (w : World) (h1 : Ints w v1 a) (h2 : Ints w v2 b) :
    Calls Tryd.prog 48 #[v1, v2] w fun e w' => e = .returned (.bool (decide (a = b))) ∧ Drew w w' := by
  obtain ⟨A, c, rfl, q1, q2⟩ := h1.slice
  obtain ⟨B, d, rfl, q3, q4⟩ := h2.slice
  by_cases hl : a.length = b.length
  · have H : Hid (a.length = b.length) := hl
    rw [← hl] at h2 q3 ⊢
    have l1 : a.length ≤ 9223372036854775807 := by omega
    clear hl
    go_enter Tryd.func48, Tryd.ntmps48
    go_wp2_with fail
    go_loopw [5] (fun i wr => ∃ j : Nat, i = .int .i64 j ∧ j ≤ a.length ∧ Hid (a.take j = b.take j) ∧ Drew w wr) (fun i _ => a.length - (intOf i).toNat)
    case atStart => exact ⟨0, rfl, by omega, by simp [Hid], Drew.rfl' _⟩
    case round =>
      obtain ⟨j, rfl, hj, ht, hd⟩ := hrel
      by_cases hlt : j < a.length
      · obtain ⟨b1, o1, rfl, hb1, hc1⟩ := h1.at_ hlt
        obtain ⟨b2, o2, rfl, hb2, hc2⟩ := h2.at_ hlt
        obtain ⟨n, rfl⟩ := hd
        have hlt2 : j < b.length := by rw [← H.out]; exact hlt
        have T := Lib.hid (take_snoc_eq hlt hlt2 ht.out)
        rw [List.getD_eq_getElem?_getD, List.getElem?_eq_getElem hlt, Option.getD_some] at hc1
        rw [List.getD_eq_getElem?_getD, List.getElem?_eq_getElem hlt2, Option.getD_some] at hc2
        clear h1 h2
        by_cases hx : a[j] = b[j]
        · have d1 : (a[j] == b[j]) = true := by rw [beq_iff_eq]; exact hx
          have d2 : (a[j] != b[j]) = false := by rw [bne_eq_false_iff_eq]; exact hx
          have HX := Lib.hid hx
          clear hx
          go_wp2_with fail
          go_quiet (fail)
          go_wp2_with fail
          refine ⟨⟨j + 1, by go_num, by omega, T.out.2 (by simpa [List.getD, hlt, hlt2] using HX.out), Drew.mk' _ _⟩, ?_⟩
          simp [intOf]; omega
        · have d1 : (a[j] == b[j]) = false := by rw [beq_eq_false_iff_ne]; exact hx
          have d2 : (a[j] != b[j]) = true := by rw [bne_iff_ne]; exact hx
          have HX := Lib.hid hx
          clear hx
          go_wp2_with fail
          go_quiet (fail)
          go_wp2_with fail
          go_ret
          refine ⟨ret_bool ?_, (Drew.mk' _ _).trans (Drew.mk' _ _)⟩
          symm
          rw [decide_eq_false_iff_not]
          rintro rfl
          exact HX.out rfl
      · obtain rfl : j = a.length := by omega
        have E : Hid (a = b) := by
          have := ht.out
          rw [List.take_length, H.out, List.take_length] at this
          exact this
        go_wp2_with fail
        go_ret
        refine ⟨ret_bool ?_, hd⟩
        simp [E.out]
  · have d1 : ((a.length : Int) != (b.length : Int)) = true := by rw [bne_iff_ne]; omega
    have H : Hid (decide (a = b) = false) := by
      unfold Hid
      rw [decide_eq_false_iff_not]
      intro he
      exact hl (by rw [he])
    clear hl
    go_enter Tryd.func48, Tryd.ntmps48
    go_wp2_with fail
    go_ret
    exact ⟨ret_bool H.out.symm, Drew.rfl' _⟩
theorem of_p (v : Value) (l : List Int) (w : World) (h : Ints w v l) :
    Calls Tryd.prog 36 #[v] w fun e w' => e = .returned (.int .u64 (ofM l)) ∧ w = w' := by
  obtain ⟨A, c, rfl, q1, q2⟩ := h.slice
  go_enter Tryd.func36, Tryd.ntmps36
  go_wp2_with fail
  go_loop [3, 8] (fun s i => ∃ j : Nat, i = .int .i64 j ∧ j ≤ l.length ∧ s = .int .u64 (ofM (l.take j))) (fun _ i => l.length - (intOf i).toNat)
  case atStart => exact ⟨0, rfl, by omega, by simp [ofM]⟩
  case round =>
    obtain ⟨j, rfl, hj, rfl⟩ := hrel
    have hs : ofM (l.take j) < 18446744073709551616 := ofM_lt _ (by omega)
    by_cases hlt : j < l.length
    · obtain ⟨b1, o1, rfl, hb1, hc1⟩ := h.at_ hlt
      rw [List.getD_eq_getElem?_getD, List.getElem?_eq_getElem hlt, Option.getD_some] at hc1
      have H : Hid (ofM (l.take (j + 1)) = withM (ofM (l.take j)) l[j]) := by
        unfold Hid ofM
        rw [List.take_succ_eq_append_getElem hlt, List.foldl_append]
        rfl
      clear h
      go_wp2_with (go_at_call 41; refine (with_p _ hs _ _).mono ?_; rintro e w' ⟨rfl, rfl⟩)
      go_round
      case rel => exact ⟨j + 1, by go_num, by omega, by rw [H.out]⟩
      case measure => simp [intOf]; omega
    · obtain rfl : j = l.length := by omega
      have H : Hid (ofM (l.take l.length) = ofM l) := by unfold Hid; rw [List.take_length]
      go_wp2_with fail
      go_ret
      exact ⟨rfl, rfl⟩
theorem ofInt_i64 (a : Nat) (ha : a < 9223372036854775808) : (BitVec.ofInt 64 (a : Int)).toNat = a := by
  rw [BitVec.ofInt_natCast, BitVec.toNat_ofNat]; exact Nat.mod_eq_of_lt (by omega)
theorem i64_and_nat (a b : Nat) (ha : a < 9223372036854775808) (hb : b < 9223372036854775808) : bits .and .i64 (a : Int) (b : Int) = ((a &&& b : Nat) : Int) := by
  have hx : a &&& b < 2 ^ 63 := Nat.and_lt_two_pow _ (by omega)
  show IntKind.i64.wrap ((BitVec.ofInt 64 (a : Int) &&& BitVec.ofInt 64 (b : Int)).toNat : Int) = _
  rw [BitVec.toNat_and, ofInt_i64 a ha, ofInt_i64 b hb, IntKind.wrap_i64]
  omega
theorem u64w (x : Nat) (h : x < 18446744073709551616) : IntKind.u64.wrap ((x : Nat) : Int) = (x : Int) := by rw [IntKind.wrap_u64]; omega
theorem pop1 (s : Nat) (hs : s < 18446744073709551616) : IntKind.u64.wrap (bits .and .u64 ((s : Int) / 2) 6148914691236517205 + bits .and .u64 (s : Int) 6148914691236517205) = ((st1 (rep 85 8) s : Nat) : Int) := by
  have e : ((s / 2 : Nat) : Int) = (s : Int) / 2 := by omega
  have h1 := u64_and_nat (s / 2) 6148914691236517205 (by omega) (by omega)
  have h2 := u64_and_nat s 6148914691236517205 hs (by omega)
  rw [e] at h1
  rw [show ((6148914691236517205 : Nat) : Int) = 6148914691236517205 from rfl] at h1 h2
  rw [h1, h2]
  have hm : rep 85 8 = 6148914691236517205 := by decide
  unfold st1
  rw [hm, ← Int.natCast_add]
  refine u64w _ ?_
  have a1 : s / 2 &&& 6148914691236517205 ≤ 6148914691236517205 := Nat.and_le_right
  have a2 : s &&& 6148914691236517205 ≤ 6148914691236517205 := Nat.and_le_right
  omega
theorem pop2 (s : Nat) (hs : s < 18446744073709551616) : IntKind.u64.wrap (bits .and .u64 ((s : Int) / 4) 3689348814741910323 + bits .and .u64 (s : Int) 3689348814741910323) = ((st2 (rep 51 8) s : Nat) : Int) := by
  have e : ((s / 4 : Nat) : Int) = (s : Int) / 4 := by omega
  have h1 := u64_and_nat (s / 4) 3689348814741910323 (by omega) (by omega)
  have h2 := u64_and_nat s 3689348814741910323 hs (by omega)
  rw [e] at h1
  rw [show ((3689348814741910323 : Nat) : Int) = 3689348814741910323 from rfl] at h1 h2
  rw [h1, h2]
  have hm : rep 51 8 = 3689348814741910323 := by decide
  unfold st2
  rw [hm, ← Int.natCast_add]
  refine u64w _ ?_
  have a1 : s / 4 &&& 3689348814741910323 ≤ 3689348814741910323 := Nat.and_le_right
  have a2 : s &&& 3689348814741910323 ≤ 3689348814741910323 := Nat.and_le_right
  omega
theorem st1_lt (s : Nat) : st1 (rep 85 8) s < 18446744073709551616 := by
  have hm : rep 85 8 = 6148914691236517205 := by decide
  have a1 : s / 2 &&& 6148914691236517205 ≤ 6148914691236517205 := Nat.and_le_right
  have a2 : s &&& 6148914691236517205 ≤ 6148914691236517205 := Nat.and_le_right
  unfold st1
  rw [hm]
  omega
theorem st2_lt (s : Nat) : st2 (rep 51 8) s ≤ 7378697629483820646 := by
  have hm : rep 51 8 = 3689348814741910323 := by decide
  have a1 : s / 4 &&& 3689348814741910323 ≤ 3689348814741910323 := Nat.and_le_right
  have a2 : s &&& 3689348814741910323 ≤ 3689348814741910323 := Nat.and_le_right
  unfold st2
  rw [hm]
  omega
theorem pop3 (s : Nat) (hs : s ≤ 7378697629483820646) : bits .and .u64 (IntKind.u64.wrap ((s : Int) / 16 + (s : Int))) 1085102592571150095 = ((st3 (rep 15 8) s : Nat) : Int) := by
  have e : (s : Int) / 16 + (s : Int) = ((s / 16 + s : Nat) : Int) := by omega
  have hm : rep 15 8 = 1085102592571150095 := by decide
  rw [e, u64w _ (by omega)]
  have h1 := u64_and_nat (s / 16 + s) 1085102592571150095 (by omega) (by omega)
  rw [show ((1085102592571150095 : Nat) : Int) = 1085102592571150095 from rfl] at h1
  rw [h1]
  unfold st3
  rw [hm]
theorem count_l (s : Nat) (hs : s < 18446744073709551616) (w : World) :
    Calls Tryd.prog 84 #[.int .u64 s] w fun e w' => e = .returned (.int .i64 (listM s).length) ∧ w = w' := by
  have H : Hid (fold8 (par 8 s) = (listM s).length) := count_par s
  go_enter Tryd.func84, Tryd.ntmps84
  go_wp2_with fail
  all_goals go_ret
  refine ⟨?_, rfl⟩
  rw [← H.out]
  have P1 := pop1 s hs
  have P2 := pop2 _ (st1_lt s)
  have P3 := pop3 _ (st2_lt (st1 (rep 85 8) s))
  rw [show st3 (rep 15 8) (st2 (rep 51 8) (st1 (rep 85 8) s)) = par 8 s from rfl] at P3
  have hp := par_lt s
  simp only [Array.getD_eq_getD_getElem?, List.getElem?_toArray, List.getElem?_cons_succ, List.getElem?_cons_zero, Option.getD_some, P1, P2, P3]
  generalize par 8 s = y at *
  clear H P1 P2 P3
  let y1 := y + y / 256
  let y2 := y1 + y1 / 65536
  have b1 : IntKind.u64.wrap ((y : Int) + (y : Int) / 256) = ((y1 : Nat) : Int) := by
    rw [IntKind.wrap_u64]; show _ = ((y + y / 256 : Nat) : Int); omega
  have b2 : IntKind.u64.wrap ((y1 : Nat) + (y1 : Nat) / 65536 : Int) = ((y2 : Nat) : Int) := by
    have : y1 = y + y / 256 := rfl
    rw [IntKind.wrap_u64]; show _ = ((y1 + y1 / 65536 : Nat) : Int); omega
  have b3 : IntKind.u64.wrap ((y2 : Nat) + (y2 : Nat) / 4294967296 : Int) = ((y2 + y2 / 4294967296 : Nat) : Int) := by
    have : y1 = y + y / 256 := rfl
    have : y2 = y1 + y1 / 65536 := rfl
    rw [IntKind.wrap_u64]; omega
  have b4 : y2 + y2 / 4294967296 < 9223372036854775808 := by
    have : y1 = y + y / 256 := rfl
    have : y2 = y1 + y1 / 65536 := rfl
    omega
  rw [b1, b2, b3, w64 _ (by omega) (by omega), show (127 : Int) = ((127 : Nat) : Int) from rfl, i64_and_nat _ _ b4 (by omega), show 127 = 2 ^ 7 - 1 from rfl, Nat.and_two_pow_sub_one_eq_mod]
  rfl
theorem count_p (s : Nat) (hs : s < 18446744073709551616) (w : World) :
    Calls Tryd.prog 35 #[.int .u64 s] w fun e w' => e = .returned (.int .i64 (listM s).length) ∧ w = w' := by
  go_enter Tryd.func35, Tryd.ntmps35
  go_wp2_with (go_at_call 84; refine (count_l _ hs _).mono ?_; rintro e w' ⟨rfl, rfl⟩)
  go_ret
  exact ⟨rfl, rfl⟩
end Go.Proofs.YtbmbgbmgldjmoaaDoor
