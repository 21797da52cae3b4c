/-
  Plain mathematics: counting the bits of a number below 2^64 in parallel (as the library does), byte by byte.
-/
import Derived.Test.YtbmbgbmgldjmoaaDoorMaskPure
namespace Kv
def st1 (m x : Nat) : Nat := (x / 2 &&& m) + (x &&& m)
def st2 (m x : Nat) : Nat := (x / 4 &&& m) + (x &&& m)
def st3 (m x : Nat) : Nat := (x / 16 + x) &&& m
/-- A mask of n bytes that are all alike. -/
def rep (c : Nat) : Nat → Nat
  | 0 => 0
  | n + 1 => c + 256 * rep c n
def pop8 (b : Nat) : Nat := st3 15 (st2 51 (st1 85 b))

theorem and_split (lo hi ml mh : Nat) (h1 : lo < 256) (h2 : ml < 256) : (lo + 256 * hi) &&& (ml + 256 * mh) = (lo &&& ml) + 256 * (hi &&& mh) := by
  have hl : lo &&& ml < 2 ^ 8 := Nat.and_lt_two_pow _ h2
  have e : ∀ a b : Nat, a < 256 → a + 256 * b = 2 ^ 8 * b + a := fun a b _ => by omega
  rw [e lo hi h1, e ml mh h2, e (lo &&& ml) _ hl]
  refine Nat.eq_of_testBit_eq fun i => ?_
  rw [Nat.testBit_and, Nat.testBit_two_pow_mul_add hi h1, Nat.testBit_two_pow_mul_add mh h2, Nat.testBit_two_pow_mul_add _ hl]
  split <;> simp
theorem low1 : ∀ b : Fin 256, ∀ c : Fin 2, (b.val / 2 + 128 * c.val) &&& 85 = b.val / 2 &&& 85 := by decide +kernel
theorem low2 : ∀ b : Fin 256, ∀ c : Fin 4, (b.val / 4 + 64 * c.val) &&& 51 = b.val / 4 &&& 51 := by decide +kernel
theorem byte1 : ∀ b : Fin 256, st1 85 b.val < 256 := by decide +kernel
theorem byte2 : ∀ b : Fin 256, st2 51 (st1 85 b.val) % 16 ≤ 4 ∧ st2 51 (st1 85 b.val) / 16 ≤ 4 := by decide +kernel
theorem low3 : ∀ b : Fin 256, ∀ c : Fin 5, ((st2 51 (st1 85 b.val)) / 16 + 16 * c.val + st2 51 (st1 85 b.val)) &&& 15 = pop8 b.val := by decide +kernel
theorem pop8_le : ∀ b : Fin 256, pop8 b.val ≤ 8 := by decide +kernel
theorem pop8_bits : ∀ b : Fin 256, pop8 b.val = (List.range 8).countP b.val.testBit := by decide +kernel

theorem st1_split (b r n : Nat) (hb : b < 256) : st1 (rep 85 (n + 1)) (b + 256 * r) = st1 85 b + 256 * st1 (rep 85 n) r := by
  unfold st1
  rw [show rep 85 (n + 1) = 85 + 256 * rep 85 n from rfl]
  have l1 : (b / 2 + 128 * (r % 2)) &&& 85 = b / 2 &&& 85 := low1 ⟨b, hb⟩ ⟨r % 2, by omega⟩
  have e : (b + 256 * r) / 2 = (b / 2 + 128 * (r % 2)) + 256 * (r / 2) := by omega
  rw [e, and_split _ _ _ _ (by omega) (by omega), and_split _ _ _ _ hb (by omega), l1, Nat.mul_add]
  omega
theorem st2_split (b r n : Nat) (hb : b < 256) : st2 (rep 51 (n + 1)) (b + 256 * r) = st2 51 b + 256 * st2 (rep 51 n) r := by
  unfold st2
  rw [show rep 51 (n + 1) = 51 + 256 * rep 51 n from rfl]
  have l1 : (b / 4 + 64 * (r % 4)) &&& 51 = b / 4 &&& 51 := low2 ⟨b, hb⟩ ⟨r % 4, by omega⟩
  have e : (b + 256 * r) / 4 = (b / 4 + 64 * (r % 4)) + 256 * (r / 4) := by omega
  rw [e, and_split _ _ _ _ (by omega) (by omega), and_split _ _ _ _ hb (by omega), l1, Nat.mul_add]
  omega
def par (n s : Nat) : Nat := st3 (rep 15 n) (st2 (rep 51 n) (st1 (rep 85 n) s))
theorem low_nibble (n r : Nat) : st2 (rep 51 n) (st1 (rep 85 n) r) % 16 ≤ 4 := by
  cases n with
  | zero => simp [rep, st2]
  | succ n =>
    have hr : r = r % 256 + 256 * (r / 256) := by omega
    have hb : r % 256 < 256 := by omega
    have b1 : st1 85 (r % 256) < 256 := byte1 ⟨r % 256, hb⟩
    have b2 : st2 51 (st1 85 (r % 256)) % 16 ≤ 4 := (byte2 ⟨r % 256, hb⟩).1
    rw [hr, st1_split _ _ _ hb, st2_split _ _ _ b1]
    omega
theorem par_split (b r n : Nat) (hb : b < 256) : par (n + 1) (b + 256 * r) = pop8 b + 256 * par n r := by
  unfold par
  have b1 : st1 85 b < 256 := byte1 ⟨b, hb⟩
  rw [st1_split _ _ _ hb, st2_split _ _ _ b1]
  have h2 := byte2 ⟨b, hb⟩
  have h3 := low_nibble n r
  have h4 := low3 ⟨b, hb⟩
  simp only at h2 h4
  generalize st2 (rep 51 n) (st1 (rep 85 n) r) = v at *
  generalize hu : st2 51 (st1 85 b) = u at *
  unfold st3
  rw [show rep 15 (n + 1) = 15 + 256 * rep 15 n from rfl]
  have e : (u + 256 * v) / 16 + (u + 256 * v) = (u / 16 + 16 * (v % 16) + u) + 256 * (v / 16 + v) := by omega
  rw [e, and_split _ _ _ _ (by omega) (by omega), h4 ⟨v % 16, by omega⟩]
/-- How many bits a number of n bytes has. -/
def bits8 : Nat → Nat → List Nat
  | 0, _ => []
  | n + 1, s => pop8 (s % 256) :: bits8 n (s / 256)
def sum8 : List Nat → Nat
  | [] => 0
  | p :: l => p + 256 * sum8 l
theorem par_sum : ∀ n s, par n s = sum8 (bits8 n s)
  | 0, s => by simp [par, bits8, sum8, rep, st3]
  | n + 1, s => by
    have hs : s = s % 256 + 256 * (s / 256) := by omega
    conv => lhs; rw [hs]
    rw [par_split _ _ _ (by omega), par_sum n (s / 256)]
    rfl
theorem bits8_sum : ∀ n s, (bits8 n s).sum = (List.range (8 * n)).countP s.testBit
  | 0, s => by simp [bits8]
  | n + 1, s => by
    have hb : s % 256 < 256 := by omega
    have hs : s = 2 ^ 8 * (s / 256) + s % 256 := by omega
    rw [show 8 * (n + 1) = 8 + 8 * n from by omega, List.range_add, List.countP_append, List.countP_map]
    simp only [bits8, List.sum_cons]
    rw [bits8_sum n (s / 256), pop8_bits ⟨s % 256, hb⟩]
    congr 1
    · refine List.countP_congr fun i hi => ?_
      have : i < 8 := by simpa using hi
      rw [← Bool.eq_iff_iff]
      conv => rhs; rw [hs]
      rw [Nat.testBit_two_pow_mul_add _ hb, if_pos this]
    · refine List.countP_congr fun i _ => ?_
      rw [← Bool.eq_iff_iff]
      simp only [Function.comp]
      conv => rhs; rw [hs]
      rw [Nat.testBit_two_pow_mul_add _ hb, if_neg (by omega), Nat.add_sub_cancel_left]
theorem bits8_le : ∀ n s p, p ∈ bits8 n s → p ≤ 8
  | 0, s, p, h => by simp [bits8] at h
  | n + 1, s, p, h => by
    simp only [bits8, List.mem_cons] at h
    rcases h with rfl | h
    · exact pop8_le ⟨s % 256, by omega⟩
    · exact bits8_le n _ p h
/-- The sums of the counts, by shifts. -/
def fold8 (y : Nat) : Nat :=
  let y1 := y + y / 256
  let y2 := y1 + y1 / 65536
  (y2 + y2 / 4294967296) % 128
theorem fold8_sum (p0 p1 p2 p3 p4 p5 p6 p7 : Nat) (h0 : p0 ≤ 8) (h1 : p1 ≤ 8) (h2 : p2 ≤ 8) (h3 : p3 ≤ 8) (h4 : p4 ≤ 8) (h5 : p5 ≤ 8) (h6 : p6 ≤ 8) (h7 : p7 ≤ 8) :
    fold8 (sum8 [p0, p1, p2, p3, p4, p5, p6, p7]) = p0 + p1 + p2 + p3 + p4 + p5 + p6 + p7 := by
  have e1 : sum8 [p0, p1, p2, p3, p4, p5, p6, p7] / 256 = sum8 [p1, p2, p3, p4, p5, p6, p7] := by simp only [sum8]; omega
  have e2 : sum8 [p0, p1, p2, p3, p4, p5, p6, p7] + sum8 [p1, p2, p3, p4, p5, p6, p7] = sum8 [p0 + p1, p1 + p2, p2 + p3, p3 + p4, p4 + p5, p5 + p6, p6 + p7, p7] := by simp only [sum8]; omega
  have e3 : sum8 [p0 + p1, p1 + p2, p2 + p3, p3 + p4, p4 + p5, p5 + p6, p6 + p7, p7] / 65536 = sum8 [p2 + p3, p3 + p4, p4 + p5, p5 + p6, p6 + p7, p7] := by
    generalize hx : sum8 [p2 + p3, p3 + p4, p4 + p5, p5 + p6, p6 + p7, p7] = x
    have : sum8 [p0 + p1, p1 + p2, p2 + p3, p3 + p4, p4 + p5, p5 + p6, p6 + p7, p7] = (p0 + p1) + 256 * (p1 + p2) + 65536 * x := by rw [← hx]; simp only [sum8]; omega
    rw [this]
    omega
  have e4 : sum8 [p0 + p1, p1 + p2, p2 + p3, p3 + p4, p4 + p5, p5 + p6, p6 + p7, p7] + sum8 [p2 + p3, p3 + p4, p4 + p5, p5 + p6, p6 + p7, p7] =
      (p0 + p1 + p2 + p3) + 256 * (p1 + p2 + p3 + p4) + 65536 * (p2 + p3 + p4 + p5) + 16777216 * (p3 + p4 + p5 + p6) + 4294967296 * sum8 [p4 + p5 + p6 + p7, p5 + p6 + p7, p6 + p7, p7] := by simp only [sum8]; omega
  have e5 : ((p0 + p1 + p2 + p3) + 256 * (p1 + p2 + p3 + p4) + 65536 * (p2 + p3 + p4 + p5) + 16777216 * (p3 + p4 + p5 + p6) + 4294967296 * sum8 [p4 + p5 + p6 + p7, p5 + p6 + p7, p6 + p7, p7]) / 4294967296 = sum8 [p4 + p5 + p6 + p7, p5 + p6 + p7, p6 + p7, p7] := by
    generalize sum8 [p4 + p5 + p6 + p7, p5 + p6 + p7, p6 + p7, p7] = x
    omega
  unfold fold8
  simp only
  rw [e1, e2, e3, e4, e5]
  simp only [sum8]
  omega
theorem eight (s : Nat) : ∃ p0 p1 p2 p3 p4 p5 p6 p7, bits8 8 s = [p0, p1, p2, p3, p4, p5, p6, p7] := ⟨_, _, _, _, _, _, _, _, rfl⟩
theorem count_par (s : Nat) : fold8 (par 8 s) = (listM s).length := by
  rw [par_sum]
  have hs := bits8_sum 8 s
  have hl := bits8_le 8 s
  obtain ⟨p0, p1, p2, p3, p4, p5, p6, p7, e⟩ := eight s
  rw [e] at hs hl ⊢
  rw [fold8_sum _ _ _ _ _ _ _ _ (hl _ (by simp)) (hl _ (by simp)) (hl _ (by simp)) (hl _ (by simp)) (hl _ (by simp)) (hl _ (by simp)) (hl _ (by simp)) (hl _ (by simp))]
  simp only [List.sum_cons, List.sum_nil] at hs
  have hc : (listM s).length = (List.range (8 * 8)).countP s.testBit := by unfold listM; rw [List.countP_eq_length_filter]
  rw [hc, ← hs]
  omega
theorem par_lt (s : Nat) : par 8 s ≤ 8 * 72340172838076673 := by
  rw [par_sum]
  have hl := bits8_le 8 s
  obtain ⟨p0, p1, p2, p3, p4, p5, p6, p7, e⟩ := eight s
  rw [e] at hl ⊢
  simp only [List.mem_cons, List.not_mem_nil, or_false, forall_eq_or_imp, forall_eq] at hl
  simp only [sum8]
  omega
end Kv
