/-
  Plain mathematics of float64: what a word stands for, in units of 2^-1074; whole numbers below 2^53 are added, taken away and multiplied exactly.
-/
import Derived.Test.YtbaajjkopdjbgaaGreatJB6
import Derived.Laws.FloatArith
import Derived.Laws.ComplexArith
import Derived.Shelf.Strconv.Itoa0
import Derived.Shelf.Slices.Reverse
import Derived.Ground.Names2Prog
import Derived.Shelf.Slices.Clone
import Derived.Shelf.Slices.Cells
import Derived.Ground.SlgnProg
import Derived.Shelf.SlicesE.Reverse
import Derived.Shelf.SlicesE.Clone
import Derived.Test.YtbaajjkopdjbgaaGreatProg
import Derived.Lib.LaidTab
import Derived.ScopeJumps
import Derived.WalkMore
/-
  Plain mathematics of float64: what a word stands for, in units of 2^-1074; whole numbers below 2^53 are added, taken away and multiplied exactly.
-/
namespace Kv
open Ieee
def eU : Nat := 1074
theorem eU_eq : eU = 1074 := rfl
def U : Nat := 2 ^ eU
theorem U_split (a b : Nat) (h : a + b = 1074) : 2 ^ a * 2 ^ b = U := by
  unfold U; rw [eU_eq, ← h, Nat.pow_add]
theorem U_pos : 0 < U := Nat.two_pow_pos eU
abbrev D : Format := Ieee.double
theorem D_binade : D.binade = 4503599627370496 := rfl
theorem D_sign : D.signWeight = 9223372036854775808 := rfl
theorem D_least : D.leastPlace = -1074 := rfl
theorem D_inf : D.infRung = 9218868437227405312 := rfl
theorem D_frac : D.fractionBits = 52 := rfl

theorem signed_pow (s : Bool) (m u k : Nat) : signed s m (u + k) = signed s m u * (2 ^ k : Nat) := by
  unfold signed
  rw [Nat.shiftLeft_eq, Nat.shiftLeft_eq, Nat.pow_add, ← Nat.mul_assoc]
  split
  · rw [Int.natCast_mul, Int.neg_mul]
  · rw [Int.natCast_mul]
/-- The word stands for v units of 2^-1074. -/
def Num (x : Nat) (v : Int) : Prop := ∃ s m p, D.read x = .number s m p ∧ -1074 ≤ p ∧ m < 9007199254740992 ∧ signed s m (p + 1074).toNat = v
theorem read_number {x : Nat} {s : Bool} {m : Nat} {p : Int} (h : D.read x = .number s m p) : -1074 ≤ p ∧ m < 9007199254740992 := by
  unfold Format.read at h
  rw [D_binade, D_sign, D_least, D_inf] at h
  dsimp only at h
  split at h
  · injection h with h1 h2 h3
    omega
  · split at h
    · injection h with h1 h2 h3
      omega
    · split at h <;> cases h
theorem num_of {x : Nat} {s : Bool} {m : Nat} {p : Int} (h : D.read x = .number s m p) : Num x (signed s m (p + 1074).toNat) :=
  ⟨s, m, p, h, (read_number h).1, (read_number h).2, rfl⟩
theorem compare_mul (a b k : Int) (hk : 0 < k) : compare (a * k) (b * k) = compare a b := by
  rcases Int.lt_trichotomy a b with h | h | h
  · rw [Int.compare_eq_lt.2 h, Int.compare_eq_lt.2 (Int.mul_lt_mul_of_pos_right h hk)]
  · subst h; rw [Int.compare_eq_eq.2 rfl, Int.compare_eq_eq.2 rfl]
  · rw [Int.compare_eq_gt.2 h, Int.compare_eq_gt.2 (Int.mul_lt_mul_of_pos_right h hk)]
theorem order_num {x y : Nat} {a b : Int} (hx : Num x a) (hy : Num y b) : D.order x y = some (compare a b) := by
  obtain ⟨s, m, p, h1, h2, _, rfl⟩ := hx
  obtain ⟨t, n, q, k1, k2, _, rfl⟩ := hy
  unfold Format.order
  rw [h1, k1]
  show some (compare (signed s m (p - min p q).toNat) (signed t n (q - min p q).toNat)) = _
  have e1 : (p + 1074).toNat = (p - min p q).toNat + (min p q + 1074).toNat := by omega
  have e2 : (q + 1074).toNat = (q - min p q).toNat + (min p q + 1074).toNat := by omega
  rw [e1, e2, signed_pow, signed_pow, compare_mul]
  have := Nat.two_pow_pos (min p q + 1074).toNat
  omega

theorem log2_mul_pow (m k : Nat) (hm : m ≠ 0) : (m * 2 ^ k).log2 = m.log2 + k := by
  have hp := Nat.two_pow_pos k
  have h1 := Nat.log2_self_le hm
  have h2 := Nat.lt_log2_self (n := m)
  rw [Nat.log2_eq_iff (by have := Nat.mul_pos (Nat.pos_of_ne_zero hm) hp; omega)]
  constructor
  · rw [Nat.pow_add]; exact Nat.mul_le_mul_right _ h1
  · rw [show m.log2 + k + 1 = (m.log2 + 1) + k from by omega, Nat.pow_add 2 (m.log2 + 1) k]
    exact Nat.mul_lt_mul_of_pos_right h2 hp
/-- The rung of a whole number. -/
def rungOf (N : Nat) : Nat := (N.log2 + 1022) * 4503599627370496 + N * 2 ^ (52 - N.log2)
theorem log2_le52 {N : Nat} (h0 : N ≠ 0) (h : N < 9007199254740992) : N.log2 ≤ 52 := by
  have : N.log2 < 53 := (Nat.log2_lt h0).2 (by simpa using h)
  omega
theorem kept_bounds {N : Nat} (h0 : N ≠ 0) (h : N < 9007199254740992) : 4503599627370496 ≤ N * 2 ^ (52 - N.log2) ∧ N * 2 ^ (52 - N.log2) < 9007199254740992 := by
  have hL := log2_le52 h0 h
  have h1 := Nat.log2_self_le h0
  have h2 := Nat.lt_log2_self (n := N)
  have hp := Nat.two_pow_pos (52 - N.log2)
  constructor
  · have : 2 ^ N.log2 * 2 ^ (52 - N.log2) ≤ N * 2 ^ (52 - N.log2) := Nat.mul_le_mul_right _ h1
    rw [← Nat.pow_add, show N.log2 + (52 - N.log2) = 52 from by omega] at this
    simpa using this
  · have : N * 2 ^ (52 - N.log2) < 2 ^ (N.log2 + 1) * 2 ^ (52 - N.log2) := Nat.mul_lt_mul_of_pos_right h2 hp
    rw [← Nat.pow_add, show N.log2 + 1 + (52 - N.log2) = 53 from by omega] at this
    simpa using this
theorem cut_zero (neg : Bool) (n : Nat) : Toward.even.cut neg n 0 = n := by
  unfold Toward.cut
  simp [Nat.mod_one]
theorem cut_exact (neg : Bool) (K drop : Nat) (hK : K ≠ 0) : Toward.even.cut neg (K * 2 ^ drop) drop = K := by
  unfold Toward.cut
  have hm : min drop ((K * 2 ^ drop).log2 + 2) = drop := by rw [log2_mul_pow _ _ hK]; omega
  have hp := Nat.two_pow_pos drop
  simp only [hm, Nat.one_shiftLeft, Nat.mul_div_cancel _ hp, Nat.mul_mod_left]
  have h1 : decide (2 ^ drop < 2 * 0) = false := by simp
  have h2 : (2 ^ drop == 2 * 0) = false := by rw [beq_eq_false_iff_ne]; omega
  rw [h1, h2]
  rfl
theorem nearest_whole (neg : Bool) (mag : Nat) (place : Int) (N : Nat) (hp : -1074 ≤ place) (h0 : N ≠ 0) (hN : N < 9007199254740992) (h : mag * 2 ^ (place + 1074).toNat = N * U) :
    D.nearest neg mag place = D.word neg (rungOf N) := by
  have hL := log2_le52 h0 hN
  have hm0 : mag ≠ 0 := by
    rintro rfl
    rw [Nat.zero_mul] at h
    have := Nat.mul_pos (Nat.pos_of_ne_zero h0) U_pos
    omega
  have hlog : (mag.log2 : Int) + place = N.log2 := by
    have e1 := log2_mul_pow mag (place + 1074).toNat hm0
    have e2 := log2_mul_pow N eU h0
    rw [h] at e1
    have e3 : N * U = N * 2 ^ eU := rfl
    rw [e3, e2, eU_eq] at e1
    omega
  have hlast : max (place + mag.log2 - (D.fractionBits : Int)) D.leastPlace = (N.log2 : Int) - 52 := by rw [D_frac, D_least]; omega
  have hkept : Toward.even.cut neg (mag <<< (place - ((N.log2 : Int) - 52)).toNat) (((N.log2 : Int) - 52) - place).toNat = N * 2 ^ (52 - N.log2) := by
    rw [Nat.shiftLeft_eq]
    by_cases hc : (N.log2 : Int) - 52 ≤ place
    · rw [show (((N.log2 : Int) - 52) - place).toNat = 0 from by omega, cut_zero]
      have hq := Nat.two_pow_pos (N.log2 + 1022)
      refine Nat.eq_of_mul_eq_mul_right hq ?_
      rw [Nat.mul_assoc, ← Nat.pow_add, Nat.mul_assoc, U_split _ _ (by omega), ← h]
      congr 2
      omega
    · rw [show (place - ((N.log2 : Int) - 52)).toNat = 0 from by omega, Nat.pow_zero, Nat.mul_one]
      have hmag : mag = N * 2 ^ (52 - N.log2) * 2 ^ (((N.log2 : Int) - 52) - place).toNat := by
        have hq := Nat.two_pow_pos (place + 1074).toNat
        refine Nat.eq_of_mul_eq_mul_right hq ?_
        rw [Nat.mul_assoc, Nat.mul_assoc, ← Nat.pow_add, U_split _ _ (by omega), h]
      have hK : N * 2 ^ (52 - N.log2) ≠ 0 := by have := (kept_bounds h0 hN).1; omega
      rw [hmag, cut_exact _ _ _ hK]
  unfold Format.nearest
  rw [if_neg hm0]
  simp only [hlast]
  rw [hkept]
  congr 1
  have hb := (kept_bounds h0 hN).2
  rw [D_least, D_binade, D_inf, show ((N.log2 : Int) - 52 - -1074).toNat = N.log2 + 1022 from by omega]
  unfold rungOf
  have : (N.log2 + 1022) * 4503599627370496 ≤ 1074 * 4503599627370496 := Nat.mul_le_mul_right _ (by omega)
  omega
theorem word_sign (neg : Bool) (r : Nat) (h : r < 9223372036854775808) : (D.word neg r / 9223372036854775808 % 2 == 1) = neg ∧ D.word neg r % 9223372036854775808 = r := by
  unfold Format.word
  rw [D_sign]
  cases neg
  · simp
    omega
  · simp
    omega
theorem num_word (neg : Bool) (N : Nat) (h0 : N ≠ 0) (hN : N < 9007199254740992) : Num (D.word neg (rungOf N)) (signed neg N 0 * U) := by
  have hL := log2_le52 h0 hN
  obtain ⟨hb1, hb2⟩ := kept_bounds h0 hN
  have hr : D.read (D.word neg (rungOf N)) = .number neg (N * 2 ^ (52 - N.log2)) ((N.log2 : Int) - 52) := by
    have hlt : rungOf N < 9218868437227405312 := by
      unfold rungOf
      have : (N.log2 + 1022) * 4503599627370496 ≤ 1074 * 4503599627370496 := Nat.mul_le_mul_right _ (by omega)
      omega
    obtain ⟨w1, w2⟩ := word_sign neg (rungOf N) (by omega)
    unfold Format.read
    rw [D_sign, D_binade, D_inf, D_least]
    simp only [w1, w2]
    have hge : 4503599627370496 ≤ rungOf N := by unfold rungOf; omega
    rw [if_neg (by omega), if_pos hlt]
    have hdiv : rungOf N / 4503599627370496 = N.log2 + 1023 := by unfold rungOf; omega
    have hmod : rungOf N % 4503599627370496 = N * 2 ^ (52 - N.log2) - 4503599627370496 := by unfold rungOf; omega
    rw [hdiv, hmod]
    rw [show 4503599627370496 + (N * 2 ^ (52 - N.log2) - 4503599627370496) = N * 2 ^ (52 - N.log2) from by omega, show (-1074 : Int) + ((N.log2 + 1023 - 1 : Nat) : Int) = (N.log2 : Int) - 52 from by omega]
  refine ⟨neg, _, _, hr, by omega, hb2, ?_⟩
  unfold signed
  have e : (N * 2 ^ (52 - N.log2)) <<< ((N.log2 : Int) - 52 + 1074).toNat = N * U := by
    rw [Nat.shiftLeft_eq, Nat.mul_assoc, U_split _ _ (by omega)]
  rw [e, Nat.shiftLeft_zero]
  split
  · rw [Int.natCast_mul, Int.neg_mul]
  · rw [Int.natCast_mul]
theorem num_zero (neg : Bool) : Num (D.word neg 0) 0 := by
  obtain ⟨w1, w2⟩ := word_sign neg 0 (by omega)
  have hr : D.read (D.word neg 0) = .number neg 0 (-1074) := by
    unfold Format.read
    rw [D_sign, D_binade, D_inf, D_least]
    dsimp only
    rw [w1, w2, if_pos (by omega)]
  refine ⟨neg, 0, -1074, hr, by omega, by omega, ?_⟩
  unfold signed
  simp
/-- What is written of an exact whole number stands for it. -/
theorem num_nearest (neg : Bool) (mag : Nat) (place : Int) (v : Int) (hp : -1074 ≤ place) (h1 : -9007199254740992 < v) (h2 : v < 9007199254740992) (h : signed neg mag (place + 1074).toNat = v * U) :
    Num (D.nearest neg mag place) (v * U) := by
  have hU := U_pos
  by_cases hm : mag = 0
  · subst hm
    have hv : v * U = 0 := by rw [← h]; unfold signed; simp
    rw [hv]
    unfold Format.nearest
    rw [if_pos rfl]
    exact num_zero neg
  · unfold signed at h
    rw [Nat.shiftLeft_eq] at h
    have hmp := Nat.mul_pos (Nat.pos_of_ne_zero hm) (Nat.two_pow_pos (place + 1074).toNat)
    have hN : mag * 2 ^ (place + 1074).toNat = v.natAbs * U ∧ signed neg v.natAbs 0 = v := by
      cases neg
      · simp only [Bool.false_eq_true, if_false] at h
        have hv : 0 < v := by
          refine Decidable.byContradiction fun hn => ?_
          have := Int.mul_le_mul_of_nonneg_right (show v ≤ 0 from by omega) (show (0 : Int) ≤ (U : Int) from by omega)
          omega
        have e : v = (v.natAbs : Int) := by omega
        refine ⟨?_, ?_⟩
        · rw [e, ← Int.natCast_mul] at h
          simpa using Int.ofNat.inj h
        · unfold signed; simp; omega
      · simp only [if_true] at h
        have hv : v < 0 := by
          refine Decidable.byContradiction fun hn => ?_
          have := Int.mul_nonneg (show 0 ≤ v from by omega) (show (0 : Int) ≤ (U : Int) from by omega)
          omega
        have e : v = -(v.natAbs : Int) := by omega
        refine ⟨?_, ?_⟩
        · rw [e, Int.neg_mul, ← Int.natCast_mul] at h
          have h' := Int.neg_inj.1 h
          simpa using Int.ofNat.inj h'
        · unfold signed; simp; omega
    have h0 : v.natAbs ≠ 0 := by
      intro e
      rw [e, Nat.zero_mul] at hN
      omega
    rw [nearest_whole neg mag place v.natAbs hp h0 (by omega) hN.1]
    have := num_word neg v.natAbs h0 (by omega)
    rw [hN.2] at this
    exact this
end Kv
/-
  Plain mathematics of float64: exact operations on whole numbers; cutting to an integer; comparing with a whole number.
-/
namespace Kv
open Ieee
def DNum (d : Datum) (v : Int) : Prop := ∃ s m p, d = .number s m p ∧ -1074 ≤ p ∧ m < 9007199254740992 ∧ signed s m (p + 1074).toNat = v
theorem Num.d {x : Nat} {v : Int} (h : Num x v) : DNum (D.read x) v := h
theorem DNum.opposite {d : Datum} {v : Int} (h : DNum d v) : DNum d.opposite (-v) := by
  obtain ⟨s, m, p, rfl, h1, h2, rfl⟩ := h
  refine ⟨!s, m, p, rfl, h1, h2, ?_⟩
  unfold signed
  cases s <;> simp
theorem signed_zero_mag (s : Bool) (k : Nat) : signed s 0 k = 0 := by unfold signed; simp
theorem signed_abs (t : Int) (s : Bool) (hs : t ≠ 0 → s = decide (t < 0)) (k : Nat) : signed s t.natAbs k = t * (2 ^ k : Nat) := by
  by_cases h0 : t = 0
  · subst h0; rw [Int.natAbs_zero, signed_zero_mag, Int.zero_mul]
  · rw [hs h0]
    unfold signed
    rw [Nat.shiftLeft_eq, Int.natCast_mul]
    by_cases h : t < 0
    · rw [decide_eq_true h, if_pos rfl, ← Int.neg_mul]
      congr 1
      omega
    · rw [decide_eq_false h, if_neg (by simp)]
      congr 1
      omega
theorem sum_dnum {d e : Datum} {u v : Int} (hd : DNum d (u * U)) (he : DNum e (v * U)) (h1 : -9007199254740992 < u + v) (h2 : u + v < 9007199254740992) :
    ∃ r, (d.sum e).map D.write = some r ∧ Num r ((u + v) * U) := by
  obtain ⟨s, m, p, rfl, a1, a2, a3⟩ := hd
  obtain ⟨t, n, q, rfl, b1, b2, b3⟩ := he
  refine ⟨_, rfl, ?_⟩
  show Num (D.nearest (if signed s m (p - min p q).toNat + signed t n (q - min p q).toNat = 0 then s && t else decide (signed s m (p - min p q).toNat + signed t n (q - min p q).toNat < 0)) (signed s m (p - min p q).toNat + signed t n (q - min p q).toNat).natAbs (min p q)) _
  refine num_nearest _ _ _ _ (by omega) h1 h2 ?_
  have e1 : (p + 1074).toNat = (p - min p q).toNat + (min p q + 1074).toNat := by omega
  have e2 : (q + 1074).toNat = (q - min p q).toNat + (min p q + 1074).toNat := by omega
  rw [e1, signed_pow] at a3
  rw [e2, signed_pow] at b3
  rw [signed_abs _ _ (fun h => by rw [if_neg h]), Int.add_mul, Int.add_mul, a3, b3]
theorem add_num {x y : Nat} {u v : Int} (hx : Num x (u * U)) (hy : Num y (v * U)) (h1 : -9007199254740992 < u + v) (h2 : u + v < 9007199254740992) :
    ∃ r, D.add x y = some r ∧ Num r ((u + v) * U) := sum_dnum hx.d hy.d h1 h2
theorem sub_num {x y : Nat} {u v : Int} (hx : Num x (u * U)) (hy : Num y (v * U)) (h1 : -9007199254740992 < u - v) (h2 : u - v < 9007199254740992) :
    ∃ r, D.sub x y = some r ∧ Num r ((u - v) * U) := by
  have := sum_dnum (u := u) (v := -v) hx.d (by have := hy.d.opposite; rwa [← Int.neg_mul] at this) (by omega) (by omega)
  rwa [← Int.sub_eq_add_neg] at this
def sg (s : Bool) : Int := if s then -1 else 1
theorem signed_sg (s : Bool) (m k : Nat) : signed s m k = sg s * ((m * 2 ^ k : Nat) : Int) := by
  unfold signed sg
  rw [Nat.shiftLeft_eq]
  cases s <;> simp
theorem sg_xor (s t : Bool) : sg (s ^^ t) = sg s * sg t := by cases s <;> cases t <;> rfl
theorem signed_natAbs (s : Bool) (m k : Nat) : (signed s m k).natAbs = m * 2 ^ k := by
  unfold signed
  rw [Nat.shiftLeft_eq]
  cases s
  · rw [if_neg (by simp), Int.natAbs_natCast]
  · rw [if_pos rfl, Int.natAbs_neg, Int.natAbs_natCast]
theorem imul4 (a b c d : Int) : a * b * (c * d) = a * c * (b * d) := by
  rw [Int.mul_assoc, Int.mul_assoc, Int.mul_left_comm b c d]
theorem place_ge {s : Bool} {m : Nat} {p u : Int} (hp : -1074 ≤ p) (hm : m < 9007199254740992) (hu : u ≠ 0) (h : signed s m (p + 1074).toNat = u * U) : -53 ≤ p := by
  refine Decidable.byContradiction fun hn => ?_
  have h1 : m * 2 ^ (p + 1074).toNat = u.natAbs * U := by rw [← signed_natAbs s, h, Int.natAbs_mul, Int.natAbs_natCast]
  have h2 : U ≤ u.natAbs * U := Nat.le_mul_of_pos_left _ (by omega)
  have h3 : m * 2 ^ (p + 1074).toNat < 9007199254740992 * 2 ^ (p + 1074).toNat := Nat.mul_lt_mul_of_pos_right hm (Nat.two_pow_pos _)
  have h4 : (9007199254740992 : Nat) = 2 ^ 53 := rfl
  have h5 : 2 ^ 53 * 2 ^ (p + 1074).toNat ≤ U := by
    rw [← U_split 53 (eU - 53) (by rw [eU_eq])]
    exact Nat.mul_le_mul_left _ (Nat.pow_le_pow_right (by omega) (by rw [eU_eq]; omega))
  rw [h4] at h3
  omega
theorem mul_num {x y : Nat} {u v : Int} (hx : Num x (u * U)) (hy : Num y (v * U)) (h1 : -9007199254740992 < u * v) (h2 : u * v < 9007199254740992) :
    ∃ r, D.mul x y = some r ∧ Num r ((u * v) * U) := by
  obtain ⟨s, m, p, k1, a1, a2, a3⟩ := hx
  obtain ⟨t, n, q, l1, b1, b2, b3⟩ := hy
  refine ⟨D.nearest (s ^^ t) (m * n) (p + q), ?_, ?_⟩
  · unfold Format.mul
    rw [k1, l1]
    rfl
  · have hU := U_pos
    by_cases hz : u = 0 ∨ v = 0
    · have hmn : m * n = 0 := by
        rcases hz with rfl | rfl
        · have e := signed_natAbs s m (p + 1074).toNat
          rw [a3, Int.zero_mul] at e
          have := Nat.two_pow_pos (p + 1074).toNat
          have : m = 0 := by
            rcases Nat.mul_eq_zero.1 e.symm with h | h
            · exact h
            · omega
          rw [this, Nat.zero_mul]
        · have e := signed_natAbs t n (q + 1074).toNat
          rw [b3, Int.zero_mul] at e
          have := Nat.two_pow_pos (q + 1074).toNat
          have : n = 0 := by
            rcases Nat.mul_eq_zero.1 e.symm with h | h
            · exact h
            · omega
          rw [this, Nat.mul_zero]
      have huv : u * v = 0 := by rcases hz with rfl | rfl <;> simp
      rw [hmn, huv, Int.zero_mul]
      unfold Format.nearest
      rw [if_pos rfl]
      exact num_zero _
    · have p1 := place_ge a1 a2 (fun h => hz (.inl h)) a3
      have p2 := place_ge b1 b2 (fun h => hz (.inr h)) b3
      refine num_nearest _ _ _ _ (by omega) h1 h2 ?_
      have hUi : ((U : Nat) : Int) ≠ 0 := by omega
      refine Int.eq_of_mul_eq_mul_right hUi ?_
      rw [signed_sg] at a3 b3
      rw [signed_sg, sg_xor]
      have e : ((m * n * 2 ^ (p + q + 1074).toNat : Nat) : Int) * ((U : Nat) : Int) = ((m * 2 ^ (p + 1074).toNat : Nat) : Int) * ((n * 2 ^ (q + 1074).toNat : Nat) : Int) := by
        have hu : U = 2 ^ eU := rfl
        have e0 : 2 ^ (p + q + 1074).toNat * U = 2 ^ (p + 1074).toNat * 2 ^ (q + 1074).toNat := by
          have ee : (p + q + 1074).toNat + eU = (p + 1074).toNat + (q + 1074).toNat := by rw [eU_eq]; omega
          rw [hu, ← Nat.pow_add, ← Nat.pow_add, ee]
        rw [← Int.natCast_mul, ← Int.natCast_mul, Nat.mul_assoc (m * n), e0, Nat.mul_mul_mul_comm]
      rw [Int.mul_assoc, e, Int.mul_assoc u v, ← Int.mul_assoc u v]
      rw [show u * v * ((U : Nat) : Int) * ((U : Nat) : Int) = (u * ((U : Nat) : Int)) * (v * ((U : Nat) : Int)) from by
        rw [Int.mul_assoc (u * v), imul4], ← a3, ← b3, imul4]
/-- The word of a whole number. -/
theorem floatOfInt_eq (n : Int) : Go.floatOfInt .f64 n = D.nearest (decide (n < 0)) n.natAbs 0 := rfl
theorem num_F (n : Int) (h1 : -9007199254740992 < n) (h2 : n < 9007199254740992) : Num (Go.floatOfInt .f64 n) (n * U) := by
  rw [floatOfInt_eq]
  refine num_nearest (decide (n < 0)) n.natAbs 0 n (by omega) h1 h2 ?_
  rw [signed_abs _ _ (fun _ => rfl), show ((0 : Int) + 1074).toNat = eU from rfl]
  rfl
theorem toInt_num {x : Nat} {v : Int} (h : Num x v) : (D.read x).toInt .zero = some (v.tdiv (U : Int)) := by
  obtain ⟨s, m, p, h1, h2, h3, rfl⟩ := h
  rw [h1]
  show some (signed s (Toward.zero.cut s (m <<< p.toNat) (-p).toNat) 0) = _
  congr 1
  have hcut : Toward.zero.cut s (m <<< p.toNat) (-p).toNat = m * 2 ^ (p + 1074).toNat / U := by
    unfold Toward.cut
    simp only [Bool.toNat_false, Nat.add_zero]
    rw [Nat.one_shiftLeft, Nat.shiftLeft_eq]
    by_cases hp : 0 ≤ p
    · rw [show (-p).toNat = 0 from by omega, Nat.zero_min, Nat.pow_zero, Nat.div_one]
      have e : 2 ^ (p + 1074).toNat = 2 ^ p.toNat * U := by
        rw [show (p + 1074).toNat = p.toNat + eU from by rw [eU_eq]; omega, Nat.pow_add]
        rfl
      rw [e, ← Nat.mul_assoc, Nat.mul_div_cancel _ U_pos]
    · rw [show p.toNat = 0 from by omega, Nat.pow_zero, Nat.mul_one]
      have e := U_split (-p).toNat (p + 1074).toNat (by omega)
      rw [← e, Nat.mul_div_mul_right _ _ (Nat.two_pow_pos _)]
      by_cases hd : (-p).toNat ≤ m.log2 + 2
      · rw [Nat.min_eq_left hd]
      · rw [Nat.min_eq_right (by omega)]
        have hm := Nat.lt_log2_self (n := m)
        have q1 : m < 2 ^ (m.log2 + 2) := Nat.lt_of_lt_of_le hm (Nat.pow_le_pow_right (by omega) (by omega))
        have q2 : m < 2 ^ (-p).toNat := Nat.lt_of_lt_of_le hm (Nat.pow_le_pow_right (by omega) (by omega))
        rw [Nat.div_eq_of_lt q1, Nat.div_eq_of_lt q2]
  rw [hcut]
  unfold signed
  rw [Nat.shiftLeft_zero, Nat.shiftLeft_eq]
  cases s
  · simp only [Bool.false_eq_true, if_false]
    rw [Int.ofNat_tdiv]
  · simp only [if_true]
    rw [Int.neg_tdiv, Int.ofNat_tdiv]
end Kv
/-
  Plain mathematics of float64: which words are parts (whole numbers from -2^20 to 2^20), and how they compare.
-/
namespace Kv
open Ieee
theorem num_uniq {x : Nat} {a b : Int} (h : Num x a) (k : Num x b) : a = b := by
  obtain ⟨s, m, p, h1, _, _, rfl⟩ := h
  obtain ⟨t, n, q, k1, _, _, rfl⟩ := k
  rw [h1] at k1
  injection k1 with e1 e2 e3
  subst e1 e2 e3
  rfl
theorem leqB {x y : Nat} {a b : Int} (hx : Num x a) (hy : Num y b) : (Go.FloatKind.f64.format.order x y == some Ordering.lt || Go.FloatKind.f64.format.order x y == some Ordering.eq) = decide (a ≤ b) := by
  have h : Go.FloatKind.f64.format.order x y = some (compare a b) := order_num hx hy
  rw [h]
  rcases Int.lt_trichotomy a b with h | h | h
  · rw [Int.compare_eq_lt.2 h, decide_eq_true (by omega)]; rfl
  · subst h; rw [Int.compare_eq_eq.2 rfl, decide_eq_true (by omega)]; rfl
  · rw [Int.compare_eq_gt.2 h, decide_eq_false (by omega)]; rfl
theorem geqB {x y : Nat} {a b : Int} (hx : Num x a) (hy : Num y b) : (Go.FloatKind.f64.format.order x y == some Ordering.gt || Go.FloatKind.f64.format.order x y == some Ordering.eq) = decide (b ≤ a) := by
  have h : Go.FloatKind.f64.format.order x y = some (compare a b) := order_num hx hy
  rw [h]
  rcases Int.lt_trichotomy a b with h | h | h
  · rw [Int.compare_eq_lt.2 h, decide_eq_false (by omega)]; rfl
  · subst h; rw [Int.compare_eq_eq.2 rfl, decide_eq_true (by omega)]; rfl
  · rw [Int.compare_eq_gt.2 h, decide_eq_true (by omega)]; rfl
theorem ltB {x y : Nat} {a b : Int} (hx : Num x a) (hy : Num y b) : (Go.FloatKind.f64.format.order x y == some Ordering.lt) = decide (a < b) := by
  have h : Go.FloatKind.f64.format.order x y = some (compare a b) := order_num hx hy
  rw [h]
  rcases Int.lt_trichotomy a b with h | h | h
  · rw [Int.compare_eq_lt.2 h, decide_eq_true (by omega)]; rfl
  · subst h; rw [Int.compare_eq_eq.2 rfl, decide_eq_false (by omega)]; rfl
  · rw [Int.compare_eq_gt.2 h, decide_eq_false (by omega)]; rfl
theorem gtB {x y : Nat} {a b : Int} (hx : Num x a) (hy : Num y b) : (Go.FloatKind.f64.format.order x y == some Ordering.gt) = decide (b < a) := by
  have h : Go.FloatKind.f64.format.order x y = some (compare a b) := order_num hx hy
  rw [h]
  rcases Int.lt_trichotomy a b with h | h | h
  · rw [Int.compare_eq_lt.2 h, decide_eq_false (by omega)]; rfl
  · subst h; rw [Int.compare_eq_eq.2 rfl, decide_eq_false (by omega)]; rfl
  · rw [Int.compare_eq_gt.2 h, decide_eq_true (by omega)]; rfl
theorem eqB {x y : Nat} {a b : Int} (hx : Num x a) (hy : Num y b) : (Go.FloatKind.f64.format.order x y == some Ordering.eq) = decide (a = b) := by
  have h : Go.FloatKind.f64.format.order x y = some (compare a b) := order_num hx hy
  rw [h]
  rcases Int.lt_trichotomy a b with h | h | h
  · rw [Int.compare_eq_lt.2 h, decide_eq_false (by omega)]; rfl
  · subst h; rw [Int.compare_eq_eq.2 rfl, decide_eq_true (by omega)]; rfl
  · rw [Int.compare_eq_gt.2 h, decide_eq_false (by omega)]; rfl
theorem neB {x y : Nat} {a b : Int} (hx : Num x a) (hy : Num y b) : (Go.FloatKind.f64.format.order x y != some Ordering.eq) = decide (a ≠ b) := by
  have h := eqB hx hy
  unfold bne
  rw [h]
  simp
theorem cLo : Go.floatOfInt .f64 (-1048576) = 13920626448202203136 := by decide +kernel
theorem cHi : Go.floatOfInt .f64 1048576 = 4697254411347427328 := by decide +kernel
theorem num_lo : Num 13920626448202203136 (-1048576 * U) := by rw [← cLo]; exact num_F _ (by omega) (by omega)
theorem num_hi : Num 4697254411347427328 (1048576 * U) := by rw [← cHi]; exact num_F _ (by omega) (by omega)
/-- The part that a word is. -/
def partOf (x : Nat) : Option Int :=
  match D.read x with
  | .number s m p => if signed s m (p + 1074).toNat % (U : Int) = 0 ∧ -1048576 * (U : Int) ≤ signed s m (p + 1074).toNat ∧ signed s m (p + 1074).toNat ≤ 1048576 * (U : Int) then some (signed s m (p + 1074).toNat / (U : Int)) else none
  | _ => none
theorem partOf_num {x : Nat} {v : Int} (h : Num x v) : partOf x = if v % (U : Int) = 0 ∧ -1048576 * (U : Int) ≤ v ∧ v ≤ 1048576 * (U : Int) then some (v / (U : Int)) else none := by
  obtain ⟨s, m, p, h1, _, _, rfl⟩ := h
  unfold partOf
  rw [h1]
theorem Ui_pos : (0 : Int) < (U : Int) := by have := U_pos; omega
theorem le_of_mulU {a b : Int} (h : a * (U : Int) ≤ b * (U : Int)) : a ≤ b := Int.le_of_mul_le_mul_right h Ui_pos
theorem lt_of_mulU {a b : Int} (h : a * (U : Int) < b * (U : Int)) : a < b := Int.lt_of_mul_lt_mul_right h (by have := Ui_pos; omega)
theorem mulU_le {a b : Int} (h : a ≤ b) : a * (U : Int) ≤ b * (U : Int) := Int.mul_le_mul_of_nonneg_right h (by have := Ui_pos; omega)
theorem mulU_lt {a b : Int} (h : a < b) : a * (U : Int) < b * (U : Int) := Int.mul_lt_mul_of_pos_right h Ui_pos
theorem mulU_inj {a b : Int} (h : a * (U : Int) = b * (U : Int)) : a = b := Int.eq_of_mul_eq_mul_right (by have := Ui_pos; omega) h
theorem decU_le (a b : Int) : decide (a * (U : Int) ≤ b * (U : Int)) = decide (a ≤ b) := by
  rw [decide_eq_decide]; exact ⟨le_of_mulU, mulU_le⟩
theorem decU_lt (a b : Int) : decide (a * (U : Int) < b * (U : Int)) = decide (a < b) := by
  rw [decide_eq_decide]; exact ⟨lt_of_mulU, mulU_lt⟩
theorem decU_eq (a b : Int) : decide (a * (U : Int) = b * (U : Int)) = decide (a = b) := by
  rw [decide_eq_decide]; exact ⟨mulU_inj, fun h => by rw [h]⟩
theorem partOf_whole {x : Nat} {n : Int} (h : Num x (n * U)) (h1 : -1048576 ≤ n) (h2 : n ≤ 1048576) : partOf x = some n := by
  rw [partOf_num h, if_pos ⟨Int.mul_emod_left _ _, mulU_le h1, mulU_le h2⟩, Int.mul_ediv_cancel _ (by have := Ui_pos; omega)]
theorem partOf_F {n : Int} (h1 : -1048576 ≤ n) (h2 : n ≤ 1048576) : partOf (Go.floatOfInt .f64 n) = some n :=
  partOf_whole (num_F n (by omega) (by omega)) h1 h2
/-- What a word may be. -/
inductive Cls (x : Nat) : Prop
  | whole (n : Int) (h : Num x (n * U)) (h1 : -1048576 ≤ n) (h2 : n ≤ 1048576) (hp : partOf x = some n)
  | broken (v : Int) (h : Num x v) (h1 : -1048576 * (U : Int) ≤ v) (h2 : v ≤ 1048576 * (U : Int)) (h3 : v % (U : Int) ≠ 0) (hp : partOf x = none)
  | low (h : Go.FloatKind.f64.format.order x 13920626448202203136 = some Ordering.lt) (h2 : Go.FloatKind.f64.format.order x x = some Ordering.eq) (hp : partOf x = none)
  | high (h : Go.FloatKind.f64.format.order x 13920626448202203136 = some Ordering.gt) (h1 : Go.FloatKind.f64.format.order x 4697254411347427328 = some Ordering.gt) (h2 : Go.FloatKind.f64.format.order x x = some Ordering.eq) (hp : partOf x = none)
  | nan (h : ∀ y, Go.FloatKind.f64.format.order x y = none) (hp : partOf x = none)
theorem cls_of (x : Nat) : Cls x := by
  have hU := Ui_pos
  cases hr : D.read x with
  | number s m p =>
    have hn := num_of hr
    generalize signed s m (p + 1074).toNat = v at hn
    by_cases h1 : v < -1048576 * (U : Int)
    · refine .low ?_ ?_ ?_
      · show D.order _ _ = _
        rw [order_num hn num_lo, Int.compare_eq_lt.2 h1]
      · show D.order _ _ = _
        rw [order_num hn hn, Int.compare_eq_eq.2 rfl]
      · rw [partOf_num hn, if_neg (by omega)]
    · by_cases h2 : 1048576 * (U : Int) < v
      · refine .high ?_ ?_ ?_ ?_
        · show D.order _ _ = _
          rw [order_num hn num_lo, Int.compare_eq_gt.2 (by omega)]
        · show D.order _ _ = _
          rw [order_num hn num_hi, Int.compare_eq_gt.2 h2]
        · show D.order _ _ = _
          rw [order_num hn hn, Int.compare_eq_eq.2 rfl]
        · rw [partOf_num hn, if_neg (by omega)]
      · by_cases h3 : v % (U : Int) = 0
        · have e : v = v / (U : Int) * (U : Int) := by
            have := Int.mul_ediv_add_emod v U
            rw [h3, Int.add_zero, Int.mul_comm] at this
            exact this.symm
          rw [e] at hn h1 h2
          have q1 : -1048576 ≤ v / (U : Int) := le_of_mulU (by omega)
          have q2 : v / (U : Int) ≤ 1048576 := le_of_mulU (by omega)
          exact .whole _ hn q1 q2 (partOf_whole hn q1 q2)
        · exact .broken v hn (by omega) (by omega) h3 (by rw [partOf_num hn, if_neg (by omega)])
  | infinity s =>
    have hl : D.read 13920626448202203136 = .number true 4503599627370496 (-32) := by decide +kernel
    have hh : D.read 4697254411347427328 = .number false 4503599627370496 (-32) := by decide +kernel
    have hp : partOf x = none := by unfold partOf; rw [hr]
    have hxx : Go.FloatKind.f64.format.order x x = some Ordering.eq := by
      show (D.read x).order (D.read x) = _
      rw [hr]
      cases s <;> rfl
    cases s
    · refine .high ?_ ?_ hxx hp
      · show (D.read x).order (D.read _) = _
        rw [hr, hl]; rfl
      · show (D.read x).order (D.read _) = _
        rw [hr, hh]; rfl
    · refine .low ?_ hxx hp
      show (D.read x).order (D.read _) = _
      rw [hr, hl]; rfl
  | nan s t =>
    refine .nan (fun y => ?_) (by unfold partOf; rw [hr])
    show (D.read x).order (D.read y) = _
    rw [hr]; rfl
theorem partOf_some {x : Nat} {n : Int} (h : partOf x = some n) : Num x (n * U) ∧ -1048576 ≤ n ∧ n ≤ 1048576 := by
  cases cls_of x with
  | whole m hm h1 h2 hp => rw [hp] at h; cases h; exact ⟨hm, h1, h2⟩
  | broken _ _ _ _ _ hp => rw [hp] at h; cases h
  | low _ _ hp => rw [hp] at h; cases h
  | high _ _ _ hp => rw [hp] at h; cases h
  | nan _ hp => rw [hp] at h; cases h
/-- A broken number is cut to a whole one in the range, which it is not. -/
theorem broken_cut {v : Int} (h1 : -1048576 * (U : Int) ≤ v) (h2 : v ≤ 1048576 * (U : Int)) : -1048576 ≤ v.tdiv U ∧ v.tdiv U ≤ 1048576 := by
  have hU := Ui_pos
  have a1 := Int.mul_tdiv_add_tmod v U
  have a2 : -(U : Int) < v.tmod U := Int.lt_tmod_of_pos _ hU
  have a3 : v.tmod U < (U : Int) := Int.tmod_lt_of_pos _ hU
  rw [Int.mul_comm] at a1
  constructor
  · have : -1048577 * (U : Int) < v.tdiv U * (U : Int) := by omega
    have := lt_of_mulU this
    omega
  · have : v.tdiv U * (U : Int) < 1048577 * (U : Int) := by omega
    have := lt_of_mulU this
    omega
theorem broken_ne {v : Int} (n : Int) (h3 : v % (U : Int) ≠ 0) : n * (U : Int) ≠ v := by
  rintro rfl
  exact h3 (Int.mul_emod_left _ _)
theorem toInt_whole {x : Nat} {n : Int} (h : Num x (n * U)) (h1 : -1048576 ≤ n) (h2 : n ≤ 1048576) : Go.floatToIntVal .f64 x .i64 = some n := by
  have e : Go.FloatKind.f64.decode x = D.read x := rfl
  unfold Go.floatToIntVal
  rw [e, toInt_num h, Int.mul_tdiv_cancel _ (by have := Ui_pos; omega)]
  have : Go.IntKind.i64.min = -9223372036854775808 := rfl
  have : Go.IntKind.i64.max = 9223372036854775807 := rfl
  dsimp only
  rw [if_pos (by omega)]
theorem toInt_broken {x : Nat} {v : Int} (h : Num x v) (h1 : -1048576 * (U : Int) ≤ v) (h2 : v ≤ 1048576 * (U : Int)) : Go.floatToIntVal .f64 x .i64 = some (v.tdiv U) := by
  have e : Go.FloatKind.f64.decode x = D.read x := rfl
  obtain ⟨q1, q2⟩ := broken_cut h1 h2
  unfold Go.floatToIntVal
  rw [e, toInt_num h]
  have : Go.IntKind.i64.min = -9223372036854775808 := rfl
  have : Go.IntKind.i64.max = 9223372036854775807 := rfl
  dsimp only
  rw [if_pos (by omega)]
end Kv
/-
  Contracts of the library at this translation, as the shelf lays them.
-/
namespace Go.Proofs
open Go.Shelf
def Tryz.lays129_ren : Go.Shelf.Ren := ⟨fun | 129 => 219 | n => n, fun | 53 => 88 | 3 => 3 | 4 => 4 | 46 => 204 | 5 => 5 | 9 => 9 | n => n, fun | n => n⟩
theorem Tryz.lays129 : Go.Proofs.Lays.n129 Tryz.prog Tryz.lays129_ren := {
  mixed := by kernel_rfl
  f129 := Tryz.func219.trans (congrArg some (by kernel_rfl))
  t3 := Tryz.underlying3
  a3 := Tryz.isAgg3
  z3 := Tryz.sizeOf3
  v3 := Tryz.zeroValue3
  t4 := Tryz.underlying4
  a4 := Tryz.isAgg4
  z4 := Tryz.sizeOf4
  v4 := Tryz.zeroValue4
  t5 := Tryz.underlying5
  a5 := Tryz.isAgg5
  z5 := Tryz.sizeOf5
  v5 := Tryz.zeroValue5
  t9 := Tryz.underlying9
  a9 := Tryz.isAgg9
  z9 := Tryz.sizeOf9
  v9 := Tryz.zeroValue9
  t46 := Tryz.underlying204
  a46 := Tryz.isAgg204
  z46 := Tryz.sizeOf204
  v46 := Tryz.zeroValue204
  t53 := Tryz.underlying88
  a53 := Tryz.isAgg88
  z53 := Tryz.sizeOf88
  v53 := Tryz.zeroValue88 }
theorem Tryz.bits_Len64 (x : Int) (w : World) (h0 : 0 ≤ x) (h1 : x ≤ 18446744073709551615) :
    Calls Tryz.prog 219 #[.int .u64 x] w fun e w' => e = .returned (.int .i64 (Lib.bitLen x.toNat)) ∧ w' = w := Any.bits_Len64 Tryz.lays129 x w h0 h1
def Tryz.lays112_ren : Go.Shelf.Ren := ⟨fun | 112 => 174 | n => n, fun | 28 => 25 | 3 => 3 | 4 => 4 | 0 => 0 | n => n, fun | n => n⟩
theorem Tryz.lays112 : Go.Proofs.Lays.n112 Tryz.prog Tryz.lays112_ren := {
  mixed := by kernel_rfl
  f112 := Tryz.func174.trans (congrArg some (by kernel_rfl))
  t0 := Tryz.underlying0
  a0 := Tryz.isAgg0
  z0 := Tryz.sizeOf0
  v0 := Tryz.zeroValue0
  t3 := Tryz.underlying3
  a3 := Tryz.isAgg3
  z3 := Tryz.sizeOf3
  v3 := Tryz.zeroValue3
  t4 := Tryz.underlying4
  a4 := Tryz.isAgg4
  z4 := Tryz.sizeOf4
  v4 := Tryz.zeroValue4
  t28 := Tryz.underlying25
  a28 := Tryz.isAgg25
  z28 := Tryz.sizeOf25
  v28 := Tryz.zeroValue25 }
open Go.RowKit Go.Lib Go.Sort in
theorem Tryz.slices_Reverse_int_arr (blk off cap : Nat) (d : Array Int) (w : World) (hH : Holds encI w blk off d) (hsz : d.size ≤ 9223372036854775807) :
    Calls Tryz.prog 174 #[.slice (some ⟨blk, off, none⟩) d.size cap] w fun e w' => e = .returned (.tuple #[]) ∧ ∃ n, w' = putRow encI (Sort.ahead w n) blk off d.reverse := Any.slices_Reverse_int_arr Tryz.lays112 blk off cap d w hH hsz
open Go.RowKit Go.Lib Go.Sort in
theorem Tryz.slices_Reverse_int (blk off cap : Nat) (zs : List Int) (w : World) (hH : Holds (Value.int .i64) w blk off zs.toArray) (hsz : zs.length ≤ 9223372036854775807) :
    Calls Tryz.prog 174 #[.slice (some ⟨blk, off, none⟩) zs.length cap] w fun e w' => e = .returned (.tuple #[]) ∧ ∃ n, w' = putRow (Value.int .i64) (Sort.ahead w n) blk off zs.reverse.toArray := Any.slices_Reverse_int Tryz.lays112 blk off cap zs w hH hsz
open Go.RowKit Go.Lib Go.Sort in
theorem Tryz.slices_Reverse_int_empty (a : Option Addr) (cap : Nat) (w : World) :
    Calls Tryz.prog 174 #[.slice a 0 cap] w fun e w' => e = .returned (.tuple #[]) ∧ w' = w := Any.slices_Reverse_int_empty Tryz.lays112 a cap w
def Tryz.laysNm215_ren : Go.Shelf.Ren := ⟨fun | 15 => 85 | n => n, fun | 22 => 25 | 3 => 3 | 4 => 4 | n => n, fun | n => n⟩
theorem Tryz.laysNm215 : Go.Proofs.Lays2.n15 Tryz.prog Tryz.laysNm215_ren := {
  mixed := by kernel_rfl
  f15 := Tryz.func85.trans (congrArg some (by kernel_rfl))
  t3 := Tryz.underlying3
  a3 := Tryz.isAgg3
  z3 := Tryz.sizeOf3
  v3 := Tryz.zeroValue3
  t4 := Tryz.underlying4
  a4 := Tryz.isAgg4
  z4 := Tryz.sizeOf4
  v4 := Tryz.zeroValue4
  t22 := Tryz.underlying25
  a22 := Tryz.isAgg25
  z22 := Tryz.sizeOf25
  v22 := Tryz.zeroValue25
  i3 := by kernel_rfl }
open Go.RowKit Go.Lib in
theorem Tryz.slices_Clone_int (b off n c : Nat) (zs : List Int) (w : World) (hz : n ≤ zs.length) (hbig : n * 8 ≤ 140737488355328) (hc : ∀ j, j < zs.length → w.cell? ⟨b, off + j, none⟩ = some (.int .i64 (zs.getD j 0))) :
    Calls Tryz.prog 85 #[.slice (some ⟨b, off, none⟩) n c] w fun e w' => ∃ v', e = .returned v' ∧ w'.ownsRow w.heap.size 3 1 v' n ((zs.take n).map (Value.int .i64)) ∧ v' ≠ .slice none 0 0 ∧ Below w.heap.size w w' := Any.slices_Clone_int Tryz.laysNm215 b off n c zs w hz hbig hc
open Go.RowKit Go.Lib in
theorem Tryz.slices_Clone_int_nil (n c : Nat) (w : World) :
    Calls Tryz.prog 85 #[.slice none n c] w fun e w' => e = .returned (.slice none 0 0) ∧ w' = w := Any.slices_Clone_int_nil Tryz.laysNm215 n c w
open Go.RowKit Go.Lib in
theorem Tryz.slices_Clone_int_zero (a : Addr) (c : Nat) (w : World) :
    Calls Tryz.prog 85 #[.slice (some a) 0 c] w fun e w' => ∃ v', e = .returned v' ∧ w'.ownsRow w.heap.size 3 1 v' 0 [] ∧ v' ≠ .slice none 0 0 ∧ Below w.heap.size w w' := Any.slices_Clone_int_zero Tryz.laysNm215 a c w
open Go.RowKit Go.Lib Go.Sort in
theorem Tryz.slices_Reverse_int_cells (b off n c : Nat) (zs : List Int) (w : World) (hz : n ≤ zs.length) (hbig : n ≤ 9223372036854775807) (hc : ∀ j, j < zs.length → w.cell? ⟨b, off + j, none⟩ = some (.int .i64 (zs.getD j 0))) (hf : ∀ j, j < n → w.frozen? ⟨b, off + j, none⟩ = false) :
    Calls Tryz.prog 174 #[.slice (some ⟨b, off, none⟩) n c] w fun e w' => e = .returned (.tuple #[]) ∧ ∃ q, w' = (w.drewN q).setCells b off ((zs.take n).reverse.map (Value.int .i64)) := Any.slices_Reverse_int_cells Tryz.lays112 b off n c zs w hz hbig hc hf
def Tryz.laysSlE35_f174_ren : Go.Shelf.Ren := ⟨fun | 35 => 174 | n => n, fun | 22 => 25 | 23 => 3 | 3 => 3 | 4 => 4 | 0 => 0 | n => n, fun | n => n⟩
theorem Tryz.laysSlE35_f174 : Go.Proofs.SlLaysE.n35 Tryz.prog Tryz.laysSlE35_f174_ren := {
  mixed := by kernel_rfl
  f35 := ⟨Tryz.f174.name, by decide, Tryz.func174.trans (congrArg some (by kernel_rfl))⟩
  t0 := Tryz.underlying0
  a0 := Tryz.isAgg0
  z0 := Tryz.sizeOf0
  v0 := Tryz.zeroValue0
  t3 := Tryz.underlying3
  a3 := Tryz.isAgg3
  z3 := Tryz.sizeOf3
  v3 := Tryz.zeroValue3
  t4 := Tryz.underlying4
  a4 := Tryz.isAgg4
  z4 := Tryz.sizeOf4
  v4 := Tryz.zeroValue4
  t22 := Tryz.underlying25
  a22 := Tryz.isAgg25
  z22 := Tryz.sizeOf25
  v22 := Tryz.zeroValue25
  a23 := Tryz.isAgg3
  z23 := Tryz.sizeOf3 }
open Go.RowKit Go.Lib Go.Sort in
theorem Tryz.slices_Reverse_arr {α : Type} [Inhabited α] (enc : α → Value) (h1 : OneCell enc) (blk off cap : Nat) (d : Array α) (w : World) (hH : Holds enc w blk off d) (hsz : d.size ≤ 9223372036854775807) :
    Calls Tryz.prog 174 #[.slice (some ⟨blk, off, none⟩) d.size cap] w fun e w' => e = .returned (.tuple #[]) ∧ ∃ n, w' = putRow enc (Sort.ahead w n) blk off d.reverse := AnyE.slices_Reverse_arr Tryz.laysSlE35_f174 enc h1 blk off cap d w hH hsz
open Go.RowKit Go.Lib Go.Sort in
theorem Tryz.slices_Reverse {α : Type} [Inhabited α] (enc : α → Value) (h1 : OneCell enc) (blk off cap : Nat) (zs : List α) (w : World) (hH : Holds enc w blk off zs.toArray) (hsz : zs.length ≤ 9223372036854775807) :
    Calls Tryz.prog 174 #[.slice (some ⟨blk, off, none⟩) zs.length cap] w fun e w' => e = .returned (.tuple #[]) ∧ ∃ n, w' = putRow enc (Sort.ahead w n) blk off zs.reverse.toArray := AnyE.slices_Reverse Tryz.laysSlE35_f174 enc h1 blk off cap zs w hH hsz
open Go.RowKit Go.Lib Go.Sort in
theorem Tryz.slices_Reverse_empty {α : Type} [Inhabited α] (a : Option Addr) (cap : Nat) (w : World) :
    Calls Tryz.prog 174 #[.slice a 0 cap] w fun e w' => e = .returned (.tuple #[]) ∧ w' = w := AnyE.slices_Reverse_empty Tryz.laysSlE35_f174 a cap w
def Tryz.laysSlE041_f85_ren : Go.Shelf.Ren := ⟨fun | 41 => 85 | n => n, fun | 22 => 25 | 23 => 3 | 4 => 4 | n => n, fun | n => n⟩
theorem Tryz.laysSlE041_f85 : Go.Proofs.SlLaysE0.n41 Tryz.prog Tryz.laysSlE041_f85_ren := {
  mixed := by kernel_rfl
  f41 := ⟨Tryz.f85.name, by decide, Tryz.func85.trans (congrArg some (by kernel_rfl))⟩
  t4 := Tryz.underlying4
  a4 := Tryz.isAgg4
  z4 := Tryz.sizeOf4
  v4 := Tryz.zeroValue4
  t22 := Tryz.underlying25
  a22 := Tryz.isAgg25
  z22 := Tryz.sizeOf25
  v22 := Tryz.zeroValue25 }
open Go.RowKit Go.Lib in
theorem Tryz.slices_Clone (i0 : TypeInfo) (z : Value) (size bytes : Nat) (hi : Tryz.prog.info? 3 = some i0) (hz0 : i0.zero = some z) (hz1 : i0.size = size) (hz2 : i0.bytes = bytes) (hzs : z.cells.size = size) (hsz : 0 < size) (z23 : ∀ w, (Go.sizeOf 3).run Tryz.prog w = .ok size w) (b off n c : Nat) (news : List Value) (w : World) (hl : news.length = n * size) (hn : n ≤ maxLen) (hbig : n * bytes ≤ 140737488355328) (hc : ∀ j u, news[j]? = some u → w.cell? ⟨b, off + j, none⟩ = some u) (h1 : ∀ u ∈ news, u.oneCell' = true) :
    Calls Tryz.prog 85 #[.slice (some ⟨b, off, none⟩) n c] w fun e w' => ∃ v', e = .returned v' ∧ w'.ownsRow w.heap.size 3 size v' n news ∧ v' ≠ .slice none 0 0 ∧ Below w.heap.size w w' := AnyE.slices_Clone Tryz.laysSlE041_f85 i0 z size bytes hi hz0 hz1 hz2 hzs hsz z23 b off n c news w hl hn hbig hc h1
open Go.RowKit Go.Lib in
theorem Tryz.slices_Clone_nil (n c : Nat) (w : World) :
    Calls Tryz.prog 85 #[.slice none n c] w fun e w' => e = .returned (.slice none 0 0) ∧ w' = w := AnyE.slices_Clone_nil Tryz.laysSlE041_f85 n c w
end Go.Proofs
/-
  The library's tables that stay through whatever only makes memory of its own.
-/
namespace Go.Proofs.YtbaajjkopdjbgaaGreat
open Go.RowKit Kv
def deBruijn64 : List Int := [0, 1, 56, 2, 57, 49, 28, 3, 61, 58, 42, 50, 38, 29, 17, 4, 62, 47, 59, 36, 45, 43, 51, 22, 53, 39, 33, 30, 24, 18, 12, 5, 63, 55, 48, 27, 60, 41, 37, 16, 46, 35, 44, 21, 52, 32, 23, 11, 54, 26, 40, 15, 34, 20, 31, 10, 25, 14, 19, 9, 13, 8, 7, 6]
/-- The tables that the library reads. -/
structure Tabs (w : World) : Prop where
  pow10 : Lib.TabIs Tryz.prog w "internal/strconv.uint64pow10" .u64 Lib.pow10Tab
  bruijn : Lib.TabIs Tryz.prog w "math/bits.deBruijn64tab" .u8 deBruijn64
theorem Tabs.ext {w w' : World} (h : Tabs w) (hx : Ext w w') : Tabs w' :=
  ⟨Lib.tabBelow_of_tabIs h.pow10 _ hx, Lib.tabBelow_of_tabIs h.bruijn _ hx⟩
end Go.Proofs.YtbaajjkopdjbgaaGreat
/-
  Layer 4 (plane): parts and points: program and document.
-/
namespace Go.Proofs.YtbaajjkopdjbgaaGreat
open Go.RowKit Kv
theorem whole_p (x : Nat) (w : World) :
    Calls Tryz.prog 293 #[.float .f64 x] w fun e w' => (∃ n : Int, e = .returned (.tuple #[.int .i64 n, .bool (partOf x).isSome]) ∧ ∀ m, partOf x = some m → n = m) ∧ w = w' := by
  cases cls_of x with
  | whole n hn h1 h2 hp =>
    have c1 := geqB hn num_lo
    have c2 := leqB hn num_hi
    have c3 := eqB (num_F n (by omega) (by omega)) hn
    rw [decU_le, decide_eq_true h1] at c1
    rw [decU_le, decide_eq_true h2] at c2
    rw [decide_eq_true rfl] at c3
    have hcv := fun W => run_convert_float_int (P := Tryz.prog) W 182 3 .f64 .i64 x n (by kernel_rfl) (by kernel_rfl) (toInt_whole hn h1 h2)
    rw [hp]
    clear hp hn h1 h2
    go_enter Tryz.func293, Tryz.ntmps293
    go_wp2_with fail
    go_ret2
    exact ⟨⟨n, rfl, fun m hm => by injection hm⟩, rfl⟩
  | broken v hv h1 h2 h3 hp =>
    have c1 := geqB hv num_lo
    have c2 := leqB hv num_hi
    obtain ⟨q1, q2⟩ := broken_cut h1 h2
    have c3 := eqB (num_F (v.tdiv U) (by omega) (by omega)) hv
    rw [decide_eq_true h1] at c1
    rw [decide_eq_true h2] at c2
    rw [decide_eq_false (broken_ne _ h3)] at c3
    have hcv := fun W => run_convert_float_int (P := Tryz.prog) W 182 3 .f64 .i64 x (v.tdiv U) (by kernel_rfl) (by kernel_rfl) (toInt_broken hv h1 h2)
    rw [hp]
    generalize v.tdiv U = n at *
    clear hp hv h1 h2 h3 q1 q2
    go_enter Tryz.func293, Tryz.ntmps293
    go_wp2_with fail
    go_ret2
    exact ⟨⟨n, rfl, fun m hm => by cases hm⟩, rfl⟩
  | low h h2 hp =>
    have c1 : (FloatKind.f64.format.order x 13920626448202203136 == some Ordering.gt || FloatKind.f64.format.order x 13920626448202203136 == some Ordering.eq) = false := by rw [h]; rfl
    rw [hp]
    clear hp h h2
    go_enter Tryz.func293, Tryz.ntmps293
    go_wp2_with fail
    go_ret2
    exact ⟨⟨0, rfl, fun m hm => by cases hm⟩, rfl⟩
  | high h h1 h2 hp =>
    have c1 : (FloatKind.f64.format.order x 13920626448202203136 == some Ordering.gt || FloatKind.f64.format.order x 13920626448202203136 == some Ordering.eq) = true := by rw [h]; rfl
    have c2 : (FloatKind.f64.format.order x 4697254411347427328 == some Ordering.lt || FloatKind.f64.format.order x 4697254411347427328 == some Ordering.eq) = false := by rw [h1]; rfl
    rw [hp]
    clear hp h h1 h2
    go_enter Tryz.func293, Tryz.ntmps293
    go_wp2_with fail
    go_ret2
    exact ⟨⟨0, rfl, fun m hm => by cases hm⟩, rfl⟩
  | nan h hp =>
    have c1 : (FloatKind.f64.format.order x 13920626448202203136 == some Ordering.gt || FloatKind.f64.format.order x 13920626448202203136 == some Ordering.eq) = false := by rw [h]; rfl
    rw [hp]
    clear hp h
    go_enter Tryz.func293, Tryz.ntmps293
    go_wp2_with fail
    go_ret2
    exact ⟨⟨0, rfl, fun m hm => by cases hm⟩, rfl⟩
/-- The point that two words are. -/
def ptOf (a b : Nat) : Option (Int × Int) :=
  match partOf a, partOf b with
  | some x, some y => some (x, y)
  | _, _ => none
def ptX (p : Option (Int × Int)) : Int := match p with | some (x, _) => x | none => 0
def ptY (p : Option (Int × Int)) : Int := match p with | some (_, y) => y | none => 0
theorem parts_p (a b : Nat) (w : World) :
    Calls Tryz.prog 231 #[.complex .f64 a b] w fun e w' => e = .returned (.tuple #[.int .i64 (ptX (ptOf a b)), .int .i64 (ptY (ptOf a b)), .bool (ptOf a b).isSome]) ∧ w = w' := by
  have hA := whole_p a
  have hB := whole_p b
  unfold ptOf
  cases ha : partOf a with
  | none =>
    rw [ha] at hA
    cases hb : partOf b with
    | none =>
      rw [hb] at hB
      go_enter Tryz.func231, Tryz.ntmps231
      go_wp2_with fail
      refine (hA _).mono ?_
      rintro e w' ⟨⟨n, rfl, hn⟩, rfl⟩
      go_wp2_with fail
      refine (hB _).mono ?_
      rintro e w' ⟨⟨m, rfl, hm⟩, rfl⟩
      go_wp2_with fail
      go_ret3
      exact ⟨rfl, rfl⟩
    | some y =>
      rw [hb] at hB
      go_enter Tryz.func231, Tryz.ntmps231
      go_wp2_with fail
      refine (hA _).mono ?_
      rintro e w' ⟨⟨n, rfl, hn⟩, rfl⟩
      go_wp2_with fail
      refine (hB _).mono ?_
      rintro e w' ⟨⟨m, rfl, hm⟩, rfl⟩
      go_wp2_with fail
      go_ret3
      exact ⟨rfl, rfl⟩
  | some x =>
    rw [ha] at hA
    cases hb : partOf b with
    | none =>
      rw [hb] at hB
      go_enter Tryz.func231, Tryz.ntmps231
      go_wp2_with fail
      refine (hA _).mono ?_
      rintro e w' ⟨⟨n, rfl, hn⟩, rfl⟩
      go_wp2_with fail
      refine (hB _).mono ?_
      rintro e w' ⟨⟨m, rfl, hm⟩, rfl⟩
      go_wp2_with fail
      go_ret3
      exact ⟨rfl, rfl⟩
    | some y =>
      rw [hb] at hB
      go_enter Tryz.func231, Tryz.ntmps231
      go_wp2_with fail
      refine (hA _).mono ?_
      rintro e w' ⟨⟨n, rfl, hn⟩, rfl⟩
      obtain rfl := hn x rfl
      go_wp2_with fail
      refine (hB _).mono ?_
      rintro e w' ⟨⟨m, rfl, hm⟩, rfl⟩
      obtain rfl := hm y rfl
      go_wp2_with fail
      go_ret3
      exact ⟨rfl, rfl⟩
def clampR (x : Int) : Int := max (-1048576) (min x 1048576)
theorem at_p (x y : Int) (w : World) :
    Calls Tryz.prog 166 #[.int .i64 x, .int .i64 y] w fun e w' => e = .returned (.complex .f64 (floatOfInt .f64 (clampR x)) (floatOfInt .f64 (clampR y))) ∧ w = w' := by
  go_enter Tryz.func166, Tryz.ntmps166
  go_wp2_with fail
  go_ret
  exact ⟨rfl, rfl⟩
end Go.Proofs.YtbaajjkopdjbgaaGreat
/-
  Layer 4 (plane): points, tidied, compared, multiplied; their norms.
-/
namespace Go.Proofs.YtbaajjkopdjbgaaGreat
open Go.RowKit Kv
theorem pt_bd (a b : Nat) : -1048576 ≤ ptX (ptOf a b) ∧ ptX (ptOf a b) ≤ 1048576 ∧ -1048576 ≤ ptY (ptOf a b) ∧ ptY (ptOf a b) ≤ 1048576 := by
  unfold ptOf
  cases ha : partOf a with
  | none => simp [ptX, ptY]
  | some x =>
    cases hb : partOf b with
    | none => simp [ptX, ptY]
    | some y =>
      have h1 := partOf_some ha
      have h2 := partOf_some hb
      exact ⟨h1.2.1, h1.2.2, h2.2.1, h2.2.2⟩
theorem clampR_id {x : Int} (h1 : -1048576 ≤ x) (h2 : x ≤ 1048576) : clampR x = x := by unfold clampR; omega
theorem clampR_bd (x : Int) : -1048576 ≤ clampR x ∧ clampR x ≤ 1048576 := by unfold clampR; omega
def inR (x : Int) : Bool := decide (clampR x = x)
def inR2 (x y : Int) : Bool := inR x && inR y
theorem w0 : floatOfInt .f64 0 = 0 := by decide +kernel
def normM (p : Option (Int × Int)) : Int := match p with | some (x, y) => x * x + y * y | none => -1
theorem psq_bd {x : Int} (h1 : -1048576 ≤ x) (h2 : x ≤ 1048576) : 0 ≤ x * x ∧ x * x ≤ 1099511627776 := by
  constructor
  · have := Int.natAbs_mul_self (a := x)
    omega
  · have := Int.mul_le_mul (a := (x.natAbs : Int)) (b := x.natAbs) (c := 1048576) (d := 1048576) (by omega) (by omega) (by omega) (by omega)
    rw [← Int.natCast_mul, Int.natAbs_mul_self] at this
    omega
end Go.Proofs.YtbaajjkopdjbgaaGreat
/-
  Layer 4 (plane): points multiplied and turned.
-/
namespace Go.Proofs.YtbaajjkopdjbgaaGreat
open Go.RowKit Kv
/-- Products of points. -/
def timesM (p q : Option (Int × Int)) : Option (Int × Int) :=
  match p, q with
  | some (x, y), some (v, w) => if inR2 (x * v - y * w) (x * w + y * v) then some (x * v - y * w, x * w + y * v) else none
  | _, _ => none
theorem pmul_bd {x y : Int} (h1 : -1048576 ≤ x) (h2 : x ≤ 1048576) (h3 : -1048576 ≤ y) (h4 : y ≤ 1048576) : -1099511627776 ≤ x * y ∧ x * y ≤ 1099511627776 := by
  have h := Int.mul_le_mul (a := (x.natAbs : Int)) (b := y.natAbs) (c := 1048576) (d := 1048576) (by omega) (by omega) (by omega) (by omega)
  rw [← Int.natCast_mul, ← Int.natAbs_mul] at h
  omega
theorem inR_iff (x : Int) : inR x = true ↔ -1048576 ≤ x ∧ x ≤ 1048576 := by
  unfold inR clampR
  rw [decide_eq_true_iff]
  omega
theorem partOf_wide {x : Nat} {n : Int} (h : Num x (n * U)) : partOf x = if inR n then some n else none := by
  by_cases hn : inR n = true
  · rw [if_pos hn]
    exact partOf_whole h ((inR_iff n).1 hn).1 ((inR_iff n).1 hn).2
  · rw [if_neg hn, partOf_num h, if_neg]
    rintro ⟨_, a, b⟩
    exact hn ((inR_iff n).2 ⟨le_of_mulU a, le_of_mulU b⟩)
theorem cmul {a b c d : Nat} {x y v w : Int} (ha : Num a (x * U)) (hb : Num b (y * U)) (hc : Num c (v * U)) (hd : Num d (w * U))
    (h1 : -1048576 ≤ x) (h2 : x ≤ 1048576) (h3 : -1048576 ≤ y) (h4 : y ≤ 1048576) (h5 : -1048576 ≤ v) (h6 : v ≤ 1048576) (h7 : -1048576 ≤ w) (h8 : w ≤ 1048576) :
    ∃ re im, cMulBits a b c d = some (re, im) ∧ Num re ((x * v - y * w) * U) ∧ Num im ((x * w + y * v) * U) := by
  have e1 := pmul_bd h1 h2 h5 h6
  have e2 := pmul_bd h3 h4 h7 h8
  have e3 := pmul_bd h1 h2 h7 h8
  have e4 := pmul_bd h3 h4 h5 h6
  obtain ⟨r1, f1, n1⟩ := mul_num ha hc (by omega) (by omega)
  obtain ⟨r2, f2, n2⟩ := mul_num hb hd (by omega) (by omega)
  obtain ⟨r3, f3, n3⟩ := sub_num n1 n2 (by omega) (by omega)
  obtain ⟨r4, f4, n4⟩ := mul_num ha hd (by omega) (by omega)
  obtain ⟨r5, f5, n5⟩ := mul_num hb hc (by omega) (by omega)
  obtain ⟨r6, f6, n6⟩ := add_num n4 n5 (by omega) (by omega)
  refine ⟨r3, r6, ?_, n3, n6⟩
  have g1 : floatBits .mul .f64 a c = some r1 := f1
  have g2 : floatBits .mul .f64 b d = some r2 := f2
  have g3 : floatBits .sub .f64 r1 r2 = some r3 := f3
  have g4 : floatBits .mul .f64 a d = some r4 := f4
  have g5 : floatBits .mul .f64 b c = some r5 := f5
  have g6 : floatBits .add .f64 r4 r5 = some r6 := f6
  unfold cMulBits
  rw [g1, Option.bind_some, g2, Option.bind_some, g3, Option.bind_some, g4, Option.bind_some, g5, Option.bind_some, g6]
  rfl
theorem ptOf_some {a b : Nat} {x y : Int} (h : ptOf a b = some (x, y)) : Num a (x * U) ∧ Num b (y * U) := by
  unfold ptOf at h
  cases ha : partOf a with
  | none => rw [ha] at h; cases h
  | some x' =>
    cases hb : partOf b with
    | none => rw [ha, hb] at h; cases h
    | some y' =>
      rw [ha, hb] at h
      cases h
      exact ⟨(partOf_some ha).1, (partOf_some hb).1⟩
end Go.Proofs.YtbaajjkopdjbgaaGreat
/-
  Layer 4 (plane): points turned.
-/
namespace Go.Proofs.YtbaajjkopdjbgaaGreat
open Go.RowKit Kv
def rot (p : Int × Int) : Int × Int := (-p.2, p.1)
def rotN : Nat → Int × Int → Int × Int
  | 0, p => p
  | n + 1, p => rot (rotN n p)
def bdP (p : Int × Int) : Prop := -1048576 ≤ p.1 ∧ p.1 ≤ 1048576 ∧ -1048576 ≤ p.2 ∧ p.2 ≤ 1048576
theorem rotN_bd (n : Nat) {p : Int × Int} (h : bdP p) : bdP (rotN n p) := by
  induction n with
  | zero => exact h
  | succ n ih =>
    obtain ⟨a, b, c, d⟩ := ih
    show bdP (rot (rotN n p))
    unfold rot bdP
    refine ⟨?_, ?_, a, b⟩
    · show _ ≤ -(rotN n p).2; omega
    · show -(rotN n p).2 ≤ _; omega
def turnM (p : Option (Int × Int)) (k : Int) : Int × Int := match p with | some p => rotN (k % 4).toNat p | none => (0, 0)
theorem turnM_bd {a b : Nat} (k : Int) : bdP (turnM (ptOf a b) k) := by
  have h := pt_bd a b
  cases hp : ptOf a b with
  | none => simp [turnM, bdP]
  | some p => rw [hp] at h; exact rotN_bd _ h
theorem k4 (k : Int) : (k.tmod 4 + 4).tmod 4 = (((k % 4).toNat : Nat) : Int) ∧ -4 < k.tmod 4 ∧ k.tmod 4 < 4 := by
  have h1 := Int.tmod_lt_of_pos k (show (0 : Int) < 4 from by omega)
  have h2 := Int.lt_tmod_of_pos k (show (0 : Int) < 4 from by omega)
  have h3 := Int.tmod_eq_emod_of_nonneg (a := k.tmod 4 + 4) (b := 4) (by omega)
  have h4 := Int.mul_tdiv_add_tmod k 4
  refine ⟨?_, h2, h1⟩
  rw [h3]
  omega
theorem num_one : Num 4607182418800017408 (1 * U) := by
  rw [← show floatOfInt .f64 1 = 4607182418800017408 from by decide +kernel]
  exact num_F 1 (by omega) (by omega)
theorem num_nil : Num 0 (0 * U) := by rw [← w0]; exact num_F 0 (by omega) (by omega)
theorem turn_mul {a b : Nat} {p : Int × Int} (ha : Num a (p.1 * U)) (hb : Num b (p.2 * U)) (h : bdP p) :
    ∃ re im, cMulBits a b 0 4607182418800017408 = some (re, im) ∧ Num re ((rot p).1 * U) ∧ Num im ((rot p).2 * U) := by
  obtain ⟨h1, h2, h3, h4⟩ := h
  obtain ⟨re, im, e, n1, n2⟩ := cmul ha hb num_nil num_one h1 h2 h3 h4 (by omega) (by omega) (by omega) (by omega)
  refine ⟨re, im, e, ?_, ?_⟩
  · rw [show p.1 * 0 - p.2 * 1 = (rot p).1 from by show _ = -p.2; omega] at n1; exact n1
  · rw [show p.1 * 1 + p.2 * 0 = (rot p).2 from by show _ = p.1; omega] at n2; exact n2
theorem ptOf_of {a b : Nat} {p : Int × Int} (ha : Num a (p.1 * U)) (hb : Num b (p.2 * U)) (h : bdP p) : ptOf a b = some p := by
  unfold ptOf
  rw [partOf_whole ha h.1 h.2.1, partOf_whole hb h.2.2.1 h.2.2.2]
theorem wrap3 (k : Int) : wrapI k 3 = (((k % 4).toNat : Nat) : Int) := by
  unfold wrapI clamp within
  simp
  omega
end Go.Proofs.YtbaajjkopdjbgaaGreat
/-
  Names in a triangle of points, by the program.
-/
namespace Kv
/-- So many points has a triangle. -/
def triN (d : Nat) : Nat := d * (d + 1) / 2
theorem triN_succ (d : Nat) : triN (d + 1) = triN d + (d + 1) := by
  unfold triN
  have : (d + 1) * (d + 1 + 1) = d * (d + 1) + 2 * (d + 1) := by grind
  rw [this]
  omega
theorem triN_mono {a b : Nat} (h : a ≤ b) : triN a ≤ triN b := by
  induction b with
  | zero => rw [show a = 0 from by omega]; exact Nat.le_refl _
  | succ b ih =>
    by_cases hb : a = b + 1
    · rw [hb]; exact Nat.le_refl _
    · have := ih (by omega)
      rw [triN_succ]
      omega
/-- The name of a point. -/
def triName (x y : Nat) : Nat := triN (x + y) + y
theorem triName_lt {x y N : Nat} (h : x + y < N) : triName x y < triN N := by
  have h1 := triN_mono (show x + y + 1 ≤ N from h)
  rw [triN_succ] at h1
  unfold triName
  omega
theorem triN_64 {d : Nat} (h : d ≤ 64) : triN d ≤ 2080 := by
  have := triN_mono h
  rw [show triN 64 = 2080 from by decide] at this
  exact this
end Kv
namespace Go.Proofs.YtbaajjkopdjbgaaGreat
open Go.RowKit Kv
theorem ptOf_bd {a b : Nat} {p : Int × Int} (h : ptOf a b = some p) : bdP p := by
  have := pt_bd a b
  rw [h] at this
  exact this
theorem padd {a b c d : Nat} {p q : Int × Int} (hp : ptOf a b = some p) (hq : ptOf c d = some q) (h : bdP (p.1 + q.1, p.2 + q.2)) :
    ∃ re im, cSumBits .add .f64 a b c d = some (re, im) ∧ ptOf re im = some (p.1 + q.1, p.2 + q.2) := by
  obtain ⟨n1, n2⟩ := ptOf_some (x := p.1) (y := p.2) hp
  obtain ⟨n3, n4⟩ := ptOf_some (x := q.1) (y := q.2) hq
  obtain ⟨a1, a2, a3, a4⟩ := ptOf_bd hp
  obtain ⟨a5, a6, a7, a8⟩ := ptOf_bd hq
  obtain ⟨r1, g1, m1⟩ := add_num n1 n3 (by omega) (by omega)
  obtain ⟨r2, g2, m2⟩ := add_num n2 n4 (by omega) (by omega)
  have e1 : floatBits .add .f64 a c = some r1 := g1
  have e2 : floatBits .add .f64 b d = some r2 := g2
  refine ⟨r1, r2, ?_, ?_⟩
  · unfold cSumBits
    rw [e1, e2]
    rfl
  · exact ptOf_of (p := (p.1 + q.1, p.2 + q.2)) m1 m2 h
theorem pt_nat (x y : Nat) (h : x ≤ 1000) (h' : y ≤ 1000) : ptOf (floatOfInt .f64 x) (floatOfInt .f64 y) = some ((x : Int), (y : Int)) :=
  ptOf_of (p := ((x : Int), (y : Int))) (num_F x (by omega) (by omega)) (num_F y (by omega) (by omega)) ⟨by show -1048576 ≤ (x : Int); omega, by show (x : Int) ≤ 1048576; omega, by show -1048576 ≤ (y : Int); omega, by show (y : Int) ≤ 1048576; omega⟩
theorem gsize_p (d : Nat) (h : d ≤ 64) (w : World) : Calls Tryz.prog 92 #[.int .i64 d] w fun e w' => e = .returned (.int .i64 (triN d)) ∧ w = w' := by
  have hm : d * (d + 1) ≤ 64 * 65 := Nat.mul_le_mul h (by omega)
  have e1 : max 0 (min (d : Int) 64) = d := by omega
  have e2 := IntWalk.i64_in ((d : Int) + 1) (by omega)
  have e3 : IntKind.i64.wrap ((d : Int) * ((d : Int) + 1)) = ((d * (d + 1) : Nat) : Int) := by
    rw [IntWalk.i64_in _ (by have : (d : Int) * ((d : Int) + 1) = ((d * (d + 1) : Nat) : Int) := by simp
                             rw [this]; omega)]
    simp
  have e4 : IntKind.i64.wrap ((((d * (d + 1) : Nat) : Int)) / 2) = (triN d : Int) := by
    unfold triN
    rw [IntWalk.i64_in _ (by omega)]
    omega
  clear hm
  generalize triN d = t at *
  generalize d * (d + 1) = s at *
  go_enter Tryz.func92, Tryz.ntmps92
  go_wp2_with fail
  go_ret
  exact ⟨rfl, rfl⟩
theorem gdiag_p (a b x y : Nat) (h : ptOf a b = some ((x : Int), (y : Int))) (hs : x + y < 64) (w : World) : Calls Tryz.prog 228 #[.complex .f64 a b] w fun e w' => e = .returned (.int .i64 ((x + y : Nat) : Int)) ∧ w = w' := by
  have hp := parts_p a b
  rw [h] at hp
  simp only [ptX, ptY, Option.isSome_some] at hp
  have e1 := IntWalk.i64_in ((x : Int) + (y : Int)) (by omega)
  have e2 : decide ((x : Int) < 0) = false := by rw [decide_eq_false_iff_not]; omega
  have e3 : decide ((y : Int) < 0) = false := by rw [decide_eq_false_iff_not]; omega
  have e4 : decide ((64 : Int) ≤ (x : Int) + (y : Int)) = false := by rw [decide_eq_false_iff_not]; omega
  clear h
  go_enter Tryz.func228, Tryz.ntmps228
  go_wp2_with fail
  refine (hp _).mono ?_
  rintro e w' ⟨rfl, rfl⟩
  go_wp2_with fail
  go_ret
  exact ⟨by simp, rfl⟩
theorem gon_p (n a b x y : Nat) (h : ptOf a b = some ((x : Int), (y : Int))) (hs : x + y < 64) (w : World) : Calls Tryz.prog 167 #[.int .i64 n, .complex .f64 a b] w fun e w' => e = .returned (.bool (decide (x + y < n))) ∧ w = w' := by
  have hp := gdiag_p a b x y h hs
  generalize x + y = d at *
  have e2 : decide ((0 : Int) ≤ (d : Int)) = true := by rw [decide_eq_true_eq]; omega
  have e3 : decide ((d : Int) < (n : Int)) = decide (d < n) := by simp
  clear h
  go_enter Tryz.func167, Tryz.ntmps167
  go_wp2_with fail
  refine (hp _).mono ?_
  rintro e w' ⟨rfl, rfl⟩
  go_wp2_with fail
  go_ret
  exact ⟨by first | rfl | simp, rfl⟩
theorem gname_p (a b x y : Nat) (h : ptOf a b = some ((x : Int), (y : Int))) (hs : x + y < 64) (w : World) : Calls Tryz.prog 170 #[.complex .f64 a b] w fun e w' => e = .returned (.int .i64 (triName x y)) ∧ w = w' := by
  have hd := gdiag_p a b x y h hs
  have hp := parts_p a b
  rw [h] at hp
  simp only [ptX, ptY, Option.isSome_some] at hp
  have hz := gsize_p (x + y) (by omega)
  have hb := triN_64 (show x + y ≤ 64 by omega)
  have hn : (triName x y : Int) = (triN (x + y) : Int) + (y : Int) := by unfold triName; simp
  rw [hn]
  generalize triN (x + y) = t at *
  have e1 := IntWalk.i64_in ((t : Int) + (y : Int)) (by omega)
  have e2 : decide (((x + y : Nat) : Int) < 0) = false := by rw [decide_eq_false_iff_not]; omega
  generalize x + y = d at *
  clear h hn
  go_enter Tryz.func170, Tryz.ntmps170
  go_wp2_with fail
  refine (hd _).mono ?_
  rintro e w' ⟨rfl, rfl⟩
  go_wp2_with fail
  refine (hp _).mono ?_
  rintro e w' ⟨rfl, rfl⟩
  go_wp2_with fail
  refine (hz _).mono ?_
  rintro e w' ⟨rfl, rfl⟩
  go_wp2_with fail
  go_ret
  exact ⟨rfl, rfl⟩
end Go.Proofs.YtbaajjkopdjbgaaGreat
/-
  The splitter: passing it, by the program.
-/
namespace Go.Proofs.YtbaajjkopdjbgaaGreat
open Go.RowKit Kv
theorem RegsAt.ext {ix : List Nat} {p b : Nat} {w w' : World} {l : List Reg} (h : RegsAt ix w p b l) (hx : Ext w w') (hp : p < w.heap.size) : RegsAt ix w' p b l := h.keep (B := 0) (Keep.of_ext hx hp (Nat.zero_le _))
theorem two_boxes {B p : Nat} {w : World} {S : TS} (h : Plays B w p S) (o1 o2 : Obj) :
    HeldP ((w.alloc o1).alloc o2).drew p w.heap.size o1 ∧ HeldP ((w.alloc o1).alloc o2).drew p (w.heap.size + 1) o2 ∧ Plays B ((w.alloc o1).alloc o2).drew p S ∧ KeepP B p w ((w.alloc o1).alloc o2).drew := by
  have h2 := (h.alloc o1).held o2
  rw [World.size_alloc] at h2
  exact ⟨((h.held o1).alloc o2 (h.alloc o1).lt).drew, h2.drew, ((h.alloc o1).alloc o2).drew, ((Keep.alloc o1 h.lt h.le).trans (Keep.alloc o2 (h.alloc o1).lt (h.alloc o1).le)).drew⟩
set_option maxRecDepth 100000 in
set_option maxHeartbeats 4000000 in
theorem pass_p (B p : Nat) (S : TS) (x y : Reg) (me : Int) (b c : Nat) (w : World) (h : Plays B w p S) (hl : RegsAt [2, 3, 4] w p b [x, y]) (hx : x.ok) (hy : y.ok) (hm : 0 ≤ me) (hmx : me < x.n) (hmy : me < y.n) :
    Calls Tryz.prog 168 #[.pointer (some ⟨p, 0, none⟩), .slice (some ⟨b, 0, none⟩) 2 c, .int .i64 me] w (Post encI B p w ((passM x y me).run S)) := by
  generalize hR : Post encI B p w ((passM x y me).run S) = R
  have hO : Owes R encI B p w ((passM x y me).run S) := hR ▸ owes _ _ _ _ _
  clear hR
  have hmw := IntWalk.i64_in (me + 1) (by have := hx.n; omega)
  obtain ⟨⟨c0, c1, c2, c3, c4, c5, c6⟩, ⟨c7, c8, c9, c10, c11, c12, c13⟩⟩ := hl.two
  have hn := hx.n
  have hK := Keep.refl [2, 3, 4] B p w
  have hP := h
  clear h
  unfold passM at hO
  go_enter Tryz.func168, Tryz.ntmps168
  go_wp2_with fail
  go_region_held2 (fun w' => (w'.cell? ⟨b, 0, none⟩ = some (.int .i64 x.kind) ∧ w'.cell? ⟨b, 1, none⟩ = some (.int .i64 x.base) ∧ w'.cell? ⟨b, 2, none⟩ = some (.int .i64 x.loc) ∧ w'.cell? ⟨b, 3, none⟩ = some (.int .i64 x.n) ∧ w'.cell? ⟨b, 4, none⟩ = some (.int .i64 x.wr) ∧ w'.cell? ⟨b, 5, none⟩ = some (.int .i64 x.rd) ∧ w'.cell? ⟨b, 6, none⟩ = some (.int .i64 x.top)) ∧
      (w'.cell? ⟨b, 7, none⟩ = some (.int .i64 y.kind) ∧ w'.cell? ⟨b, 8, none⟩ = some (.int .i64 y.base) ∧ w'.cell? ⟨b, 9, none⟩ = some (.int .i64 y.loc) ∧ w'.cell? ⟨b, 10, none⟩ = some (.int .i64 y.n) ∧ w'.cell? ⟨b, 11, none⟩ = some (.int .i64 y.wr) ∧ w'.cell? ⟨b, 12, none⟩ = some (.int .i64 y.rd) ∧ w'.cell? ⟨b, 13, none⟩ = some (.int .i64 y.top))) (first | with_reducible exact hl.two | go_keep) (fail)
  · rename_i hh
    clear hh
    obtain ⟨b1, b2, hP2, hK2⟩ := two_boxes hP (.cells #[.int .i64 x.kind, .int .i64 x.base, .int .i64 x.loc, .int .i64 x.n, .int .i64 x.wr, .int .i64 x.rd, .int .i64 x.top] 67) (.cells #[.int .i64 y.kind, .int .i64 y.base, .int .i64 y.loc, .int .i64 y.n, .int .i64 y.wr, .int .i64 y.rd, .int .i64 y.top] 67)
    clear hP hK hl
    have hP := hP2
    have hK := hK2
    clear hP2 hK2
    have c_b1 := b1.cells
    have c_b2 := b2.cells
    clear c0 c1 c2 c3 c4 c5 c6 c7 c8 c9 c10 c11 c12 c13
    go_wp2_with fail
    refine tstep hO hK (reg_write_p B p S x me (me + 1) _ hP hx ⟨hm, hmx⟩) (fun _ h => ⟨rfl, h⟩) ?_
    clear hO hK hP c_b1 c_b2
    intro u S w1 hr hP hk hK hO
    replace b1 := b1.keep hk
    have c_b1 := b1.cells
    replace b2 := b2.keep hk
    have c_b2 := b2.cells
    clear hk hr
    go_wp2_with fail
    refine tstep hO hK (reg_read_p B p S y me _ hP hy ⟨hm, hmy⟩) (fun _ h => ⟨rfl, h⟩) ?_
    clear hO hK hP c_b1 c_b2
    intro v S w1 hr hP hk hK hO
    replace b1 := b1.keep hk
    have c_b1 := b1.cells
    replace b2 := b2.keep hk
    have c_b2 := b2.cells
    clear hk hr
    by_cases hv : v = 0
    · rw [if_neg (by simpa using hv)] at hO
      have hv2 : (v != 0) = false := by simp [hv]
      clear hv
      go_wp2_with fail
      refine tstep hO hK (reg_write_p B p S y me 1 _ hP hy ⟨hm, hmy⟩) (fun _ h => ⟨rfl, h⟩) ?_
      clear hO hK hP c_b1 c_b2
      intro u S w1 hr hP hk hK hO
      replace b1 := b1.keep hk
      have c_b1 := b1.cells
      replace b2 := b2.keep hk
      have c_b2 := b2.cells
      clear hk hr
      go_wp2_with fail
      refine tstep hO hK (reg_read_p B p S x me _ hP hx ⟨hm, hmx⟩) (fun _ h => ⟨rfl, h⟩) ?_
      clear hO hK hP c_b1 c_b2
      intro z S w1 hr hP hk hK hO
      replace b1 := b1.keep hk
      have c_b1 := b1.cells
      replace b2 := b2.keep hk
      have c_b2 := b2.cells
      clear hk hr
      by_cases hz : z = me + 1
      · rw [if_pos hz] at hO
        have hz2 : (z == me + 1) = true := by simp [hz]
        clear hz
        have hf : R (.returned (.int .i64 0)) w1 := hO.done hP hK
        clear hO hP hK
        go_wp2_with fail
        exact hf
      · rw [if_neg hz] at hO
        have hz2 : (z == me + 1) = false := by rw [beq_eq_false_iff_ne]; exact hz
        clear hz
        have hf : R (.returned (.int .i64 2)) w1 := hO.done hP hK
        clear hO hP hK
        go_wp2_with fail
        exact hf
    · rw [if_pos hv] at hO
      have hv2 : (v != 0) = true := by rw [bne_iff_ne]; exact hv
      have hf : R (.returned (.int .i64 1)) w1 := hO.done hP hK
      clear hO hP hK hv
      go_wp2_with fail
      exact hf
  · rename_i hh
    clear hh
    obtain ⟨b2, b1, hP2, hK2⟩ := two_boxes hP (.cells #[.int .i64 y.kind, .int .i64 y.base, .int .i64 y.loc, .int .i64 y.n, .int .i64 y.wr, .int .i64 y.rd, .int .i64 y.top] 67) (.cells #[.int .i64 x.kind, .int .i64 x.base, .int .i64 x.loc, .int .i64 x.n, .int .i64 x.wr, .int .i64 x.rd, .int .i64 x.top] 67)
    clear hP hK hl
    have hP := hP2
    have hK := hK2
    clear hP2 hK2
    have c_b1 := b1.cells
    have c_b2 := b2.cells
    clear c0 c1 c2 c3 c4 c5 c6 c7 c8 c9 c10 c11 c12 c13
    go_wp2_with fail
    refine tstep hO hK (reg_write_p B p S x me (me + 1) _ hP hx ⟨hm, hmx⟩) (fun _ h => ⟨rfl, h⟩) ?_
    clear hO hK hP c_b1 c_b2
    intro u S w1 hr hP hk hK hO
    replace b1 := b1.keep hk
    have c_b1 := b1.cells
    replace b2 := b2.keep hk
    have c_b2 := b2.cells
    clear hk hr
    go_wp2_with fail
    refine tstep hO hK (reg_read_p B p S y me _ hP hy ⟨hm, hmy⟩) (fun _ h => ⟨rfl, h⟩) ?_
    clear hO hK hP c_b1 c_b2
    intro v S w1 hr hP hk hK hO
    replace b1 := b1.keep hk
    have c_b1 := b1.cells
    replace b2 := b2.keep hk
    have c_b2 := b2.cells
    clear hk hr
    by_cases hv : v = 0
    · rw [if_neg (by simpa using hv)] at hO
      have hv2 : (v != 0) = false := by simp [hv]
      clear hv
      go_wp2_with fail
      refine tstep hO hK (reg_write_p B p S y me 1 _ hP hy ⟨hm, hmy⟩) (fun _ h => ⟨rfl, h⟩) ?_
      clear hO hK hP c_b1 c_b2
      intro u S w1 hr hP hk hK hO
      replace b1 := b1.keep hk
      have c_b1 := b1.cells
      replace b2 := b2.keep hk
      have c_b2 := b2.cells
      clear hk hr
      go_wp2_with fail
      refine tstep hO hK (reg_read_p B p S x me _ hP hx ⟨hm, hmx⟩) (fun _ h => ⟨rfl, h⟩) ?_
      clear hO hK hP c_b1 c_b2
      intro z S w1 hr hP hk hK hO
      replace b1 := b1.keep hk
      have c_b1 := b1.cells
      replace b2 := b2.keep hk
      have c_b2 := b2.cells
      clear hk hr
      by_cases hz : z = me + 1
      · rw [if_pos hz] at hO
        have hz2 : (z == me + 1) = true := by simp [hz]
        clear hz
        have hf : R (.returned (.int .i64 0)) w1 := hO.done hP hK
        clear hO hP hK
        go_wp2_with fail
        exact hf
      · rw [if_neg hz] at hO
        have hz2 : (z == me + 1) = false := by rw [beq_eq_false_iff_ne]; exact hz
        clear hz
        have hf : R (.returned (.int .i64 2)) w1 := hO.done hP hK
        clear hO hP hK
        go_wp2_with fail
        exact hf
    · rw [if_pos hv] at hO
      have hv2 : (v != 0) = true := by rw [bne_iff_ne]; exact hv
      have hf : R (.returned (.int .i64 1)) w1 := hO.done hP hK
      clear hO hP hK hv
      go_wp2_with fail
      exact hf
end Go.Proofs.YtbaajjkopdjbgaaGreat
/-
  Plain mathematics: registers leave no notes.
-/
namespace Kv
theorem notes_ret {α : Type} (a : α) (n : Nat) : (Prog.ret a).Notes n := .ret a n
theorem notes_forP {σ : Type} {T : Int → σ → Prog σ} (h : ∀ a x, (T a x).Notes 0) : ∀ (l : List Int) (x : σ), (forP T l x).Notes 0
  | [], x => .ret x 0
  | a :: l, x => (h a x).bind0 fun y => notes_forP h l y
theorem notes_trompW (b l v : Int) : (trompW b l v).Notes 0 := by
  refine (notes_gt _).bind0 fun x => ?_
  split
  · exact .ret _ _
  · refine (notes_wr _ _).bind0 fun _ => (notes_st _ _).bind0 fun _ => (notes_gt _).bind0 fun _ => (notes_rd _).bind0 fun _ => ?_
    split
    · exact (notes_wr _ _).bind0 fun _ => notes_st _ _
    · exact .ret _ _
theorem notes_trompR3 (b l x : Int) : (trompR3 b l x).Notes 0 := by
  refine (notes_rd _).bind0 fun _ => (notes_st _ _).bind0 fun _ => (notes_rd _).bind0 fun _ => (notes_gt _).bind0 fun _ => ?_
  split
  · exact notes_gt _
  · exact (notes_rd _).bind0 fun _ => (notes_st _ _).bind0 fun _ => .ret _ _
theorem notes_trompR2 (b l x : Int) : (trompR2 b l x).Notes 0 := by
  refine (notes_rd _).bind0 fun _ => (notes_gt _).bind0 fun _ => ?_
  split
  · exact notes_trompR3 _ _ _
  · exact (notes_gt _).bind0 fun _ => (notes_wr _ _).bind0 fun _ => (notes_st _ _).bind0 fun _ => notes_trompR3 _ _ _
theorem notes_trompR (b l : Int) : (trompR b l).Notes 0 := by
  refine (notes_rd _).bind0 fun _ => (notes_gt _).bind0 fun _ => ?_
  split
  · exact notes_gt _
  · exact (notes_rd _).bind0 fun _ => notes_trompR2 _ _ _
theorem notes_slotsW (b l v : Int) : (slotsW b l v).Notes 0 :=
  (notes_trompR _ _).bind0 fun _ => (notes_gt _).bind0 fun _ => (notes_wr _ _).bind0 fun _ => (notes_st _ _).bind0 fun _ => (notes_trompW _ _ _).bind0 fun _ => notes_trompW _ _ _
theorem notes_slotsR (b l : Int) : (slotsR b l).Notes 0 :=
  (notes_trompR _ _).bind0 fun _ => (notes_trompW _ _ _).bind0 fun _ => (notes_trompR _ _).bind0 fun _ => notes_rd _
theorem notes_tableW (b l n w top me v : Int) : (tableW b l n w top me v).Notes 0 := by
  unfold tableW
  split
  · exact .ret _ _
  · exact (notes_gt _).bind0 fun _ => (notes_st _ _).bind0 fun _ => (notes_forP (fun _ _ => notes_slotsW _ _ _) _ _).bind0 fun _ => notes_st _ _
theorem notes_tableR (b l n w top me : Int) : (tableR b l n w top me).Notes 0 := by
  unfold tableR
  split
  · exact notes_gt _
  · exact (notes_slotsR _ _).bind0 fun _ => (notes_forP (fun _ _ => (notes_slotsR _ _).bind0 fun _ => .ret _ _) _ _).bind0 fun _ => (notes_forP (fun _ _ => notes_slotsW _ _ _) _ _).bind0 fun _ => .ret _ _
theorem notes_manyRs (b l n top me : Int) : ∀ (k : Nat) (j s v : Int), (manyRs b l n top me k j s v).Notes 0
  | 0, _, _, _ => .ret _ _
  | k + 1, j, s, v => by
    unfold manyRs
    refine (notes_tableR _ _ _ _ _ _).bind0 fun y => ?_
    split
    · exact notes_manyRs b l n top me k _ _ _
    · exact notes_manyRs b l n top me k _ _ _
theorem notes_regR (r : Reg) (me : Int) : (regR r me).Notes 0 := by
  unfold regR
  split
  · exact notes_rd _
  · split
    · exact notes_tableR _ _ _ _ _ _
    · exact (notes_manyRs _ _ _ _ _ _ _ _ _).bind0 fun _ => .ret _ _
theorem notes_regW (r : Reg) (me v : Int) : (regW r me v).Notes 0 := by
  unfold regW
  split
  · exact notes_wr _ _
  · split
    · exact notes_tableW _ _ _ _ _ _ _
    · exact (notes_manyRs _ _ _ _ _ _ _ _ _).bind0 fun _ => notes_tableW _ _ _ _ _ _ _
/-- What leaves no notes keeps their number. -/
theorem Prog.Notes.keep {α : Type} {p : Prog α} {n : Nat} (h : p.Notes 0) {S S1 : TS} {a : Option α} (hr : p.run S = (a, S1)) (hn : S.nts.length ≤ n) : S1.nts.length ≤ n := by
  have := h.run S
  rw [hr] at this
  simp only at this
  omega
end Kv
/-
  The program's Mem: a note left.
-/
namespace Go.Proofs.YtbaajjkopdjbgaaGreat
open Go.RowKit Kv
set_option maxRecDepth 100000 in
theorem note_p (B p : Nat) (S : TS) (n : Int) (w : World) (h : Plays B w p S) (hl : S.nts.length < maxAns) :
    Calls Tryz.prog 89 #[.pointer (some ⟨p, 0, none⟩), .int .i64 n] w fun e w' => e = .returned (.tuple #[]) ∧ Plays B w' p (S.noted n) ∧ KeepP B p w w' := by
  obtain ⟨h1, vA, vL, vC, vN, L, h⟩ := h
  have hc := cell_of_heap h.heap
  have hbo := h.ansN
  have hbn := h.ntsN
  unfold maxAns at hbo hbn hl
  have hle := h.lt
  have hge := h.ge
  obtain ⟨An, cn, hvN⟩ : ∃ A c, vN = .slice A S.nts.length c := by
    rcases h.rowN.2 with ⟨rfl, h0⟩ | ⟨g, cap, cur, rfl, _⟩
    · exact ⟨none, 0, by rw [h0]⟩
    · exact ⟨_, _, rfl⟩
  subst hvN
  obtain ⟨Ac, cc, hvC⟩ : ∃ A c, vC = .slice A S.acc.length c := by
    rcases h.rowC.2 with ⟨rfl, h0⟩ | ⟨g, cap, cur, rfl, _⟩
    · exact ⟨none, 0, by rw [h0]⟩
    · exact ⟨_, _, rfl⟩
  subst hvC
  have hL := Lib.hid h
  clear h
  obtain ⟨i0, hi, hz0, hz1, hz2⟩ := info_parts info_note
  go_enter Tryz.func89, Tryz.ntmps89
  go_wp2_with fail
  go_region_law ((refine step_append_lies _ (by rfl) _ _ _ (by rfl) B 114 i0 _ 2 16 Tryz.underlying28 hi hz0 hz1 hz2 rfl (by omega) (Value.slice An S.nts.length cn) S.nts.length (ntVals S.nts) (by rfl) ((World.ownsRow.drew hL.out.rowN).alloc _) ⟨w.heap.size, 0, none⟩ 1 1 [.int .i64 n, .int .i64 S.acc.length] (by rfl) (by rfl) (cells_new1 w _ _) (by simp [Value.oneCell']) (by omega) (by unfold maxLen; omega) (by omega) (by simp; omega) (w.heap.size + 1) (by simp) ?_; intro gg cap w1 hown1 hgrow hat hlt; have hp1 := grown_heap hL.out.heap hL.out.cNe.2.2 (grown1 hgrow); have hq1 := cell_of_heap hp1; have hf1 := frozen_of_heap hp1))
  all_goals
    obtain ⟨HM, HK⟩ := hL.out.grewN n (grown1 hgrow) (hat.imp id (by omega)) hown1 hl
    clear hown1 hgrow hat hlt hp1 hq1 hf1 hc
    generalize hv' : (Value.slice (some ⟨gg, 0, none⟩) (S.nts.length + 1) cap) = v' at *
    generalize w1.setCell ⟨p, 4, none⟩ v' = W at *
    clear hv' w1
    have HMh : Plays B W p (S.noted n) := ⟨h1, _, _, _, _, _, HM⟩
    have HKh := Lib.hid HK
    clear HM HK
    go_wp2_with fail
    first | go_end0 | refine bodyPost_ret (results_none rfl _ _ _) rfl ?_
    exact ⟨rfl, HMh, HKh.out⟩
end Go.Proofs.YtbaajjkopdjbgaaGreat
/-
  The document's Mem: a note left.
-/
namespace Go.Proofs.YtbaajjkopdjbgaaGreat
open Go.RowKit Kv
set_option maxRecDepth 100000 in
theorem note_rf (B p : Nat) (S : TS) (n : Int) (w : World) (h : RAt B w p false S) (hl : S.nts.length < maxAns) :
    Calls Tryz.prog 197 #[.pointer (some ⟨p, 0, none⟩), .int .i64 n] w fun e w' => e = .returned (.tuple #[]) ∧ RAt B w' p false (S.noted n) ∧ KeepR B p w w' := by
  obtain ⟨m, vA, vC, vN, vL, L, h, hn1, hn2⟩ := h
  have hnh := Lib.hid (And.intro hn1 hn2)
  clear hn1 hn2
  have hc := cell_of_heap h.heap
  have hbo := h.ansN
  have hbn := h.ntsN
  unfold maxAns at hbo hbn hl
  have hle := h.lt
  have hge := h.ge
  obtain ⟨An, cn, hvN⟩ : ∃ A c, vN = .slice A S.nts.length c := by
    rcases h.rowN.2 with ⟨rfl, h0⟩ | ⟨g, cap, cur, rfl, _⟩
    · exact ⟨none, 0, by rw [h0]⟩
    · exact ⟨_, _, rfl⟩
  subst hvN
  obtain ⟨Ac, cc, hvC⟩ : ∃ A c, vC = .slice A S.acc.length c := by
    rcases h.rowC.2 with ⟨rfl, h0⟩ | ⟨g, cap, cur, rfl, _⟩
    · exact ⟨none, 0, by rw [h0]⟩
    · exact ⟨_, _, rfl⟩
  subst hvC
  have hL := Lib.hid h
  clear h
  obtain ⟨i0, hi, hz0, hz1, hz2⟩ := info_parts info_note
  go_enter Tryz.func197, Tryz.ntmps197
  go_wp2_with fail
  go_region_law ((refine step_append_lies _ (by rfl) _ _ _ (by rfl) B 114 i0 _ 2 16 Tryz.underlying28 hi hz0 hz1 hz2 rfl (by omega) (Value.slice An S.nts.length cn) S.nts.length (ntVals S.nts) (by rfl) ((World.ownsRow.drew hL.out.rowN).alloc _) ⟨w.heap.size, 0, none⟩ 1 1 [.int .i64 n, .int .i64 S.acc.length] (by rfl) (by rfl) (cells_new1 w _ _) (by simp [Value.oneCell']) (by omega) (by unfold maxLen; omega) (by omega) (by simp; omega) (w.heap.size + 1) (by simp) ?_; intro gg cap w1 hown1 hgrow hat hlt; have hp1 := grown_heap hL.out.heap hL.out.cNe.2.2 (grown1 hgrow); have hq1 := cell_of_heap hp1; have hf1 := frozen_of_heap hp1))
  all_goals
    obtain ⟨HM, HK⟩ := hL.out.grewN n (grown1 hgrow) (hat.imp id (by omega)) hown1 hl
    clear hown1 hgrow hat hlt hp1 hq1 hf1 hc
    generalize hv' : (Value.slice (some ⟨gg, 0, none⟩) (S.nts.length + 1) cap) = v' at *
    generalize w1.setCell ⟨p, 4, none⟩ v' = W at *
    clear hv' w1
    have HMh : RAt B W p false (S.noted n) := ⟨_, _, _, _, _, _, HM, hnh.out.1, hnh.out.2⟩
    have HKh := Lib.hid HK
    clear HM HK
    go_wp2_with fail
    first | go_end0 | refine bodyPost_ret (results_none rfl _ _ _) rfl ?_
    exact ⟨rfl, HMh, HKh.out⟩
theorem note_r (B p : Nat) (o : Bool) (S : TS) (n : Int) (w : World) (h : RAt B w p o S) (hl : S.nts.length < maxAns) :
    Calls Tryz.prog 197 #[.pointer (some ⟨p, 0, none⟩), .int .i64 n] w (RPost encU B p w (nt n) o S) := by
  cases o with
  | false => exact (note_rf B p S n w h hl).mono fun e w' ⟨h1, h2, h3⟩ => ⟨(), false, _, h1, .done rfl, h2, h3⟩
  | true =>
    have hP := Lib.hid h
    have hK := Lib.hid (Keep.refl [3, 4, 5] B p w)
    obtain ⟨vA, m, vC, vN, vL, hc⟩ := h.cell
    clear h
    go_enter Tryz.func197, Tryz.ntmps197
    go_wp2_with fail
    first | go_end0 | refine bodyPost_ret (results_none rfl _ _ _) rfl ?_
    exact ⟨(), true, S, rfl, .over _ _, hP.out, hK.out⟩
theorem noteO {B p : Nat} {S : TS} {n : Int} {w : World} (h : Plays B w p S) (hl : S.nts.length < maxAns) :
    Calls Tryz.prog 89 #[.pointer (some ⟨p, 0, none⟩), .int .i64 n] w (Post encU B p w ((nt n).run S)) :=
  (note_p B p S n w h hl).mono fun _ _ ⟨h1, h2, h3⟩ => ⟨h1, h2, h3⟩
end Go.Proofs.YtbaajjkopdjbgaaGreat
/-
  Steps that tell how many notes there are; loops of plays; rows laid meanwhile.
-/
namespace Kv
theorem forP_consB {σ β : Type} (T : Int → σ → Prog σ) (a : Int) (l : List Int) (x : σ) (k : σ → Prog β) : (forP T (a :: l) x).bind k = (T a x).bind fun y => (forP T l y).bind k := Prog.bind_assoc _ _ _
theorem forP_nilB {σ β : Type} (T : Int → σ → Prog σ) (x : σ) (k : σ → Prog β) : (forP T [] x).bind k = k x := rfl
theorem ranks_cons (but : Int) (n : Nat) (i : Int) (h : i ≠ but) : ranksFrom but (n + 1) i = i :: ranksFrom but n (i + 1) := by
  rw [ranksFrom, if_neg h]
theorem ranks_skip (n : Nat) (i : Int) : ranksFrom i (n + 1) i = ranksFrom i n (i + 1) := by
  rw [ranksFrom, if_pos rfl]
theorem ranks_zero (but i : Int) : ranksFrom but 0 i = [] := rfl
end Kv
namespace Go.Proofs.YtbaajjkopdjbgaaGreat
open Go.RowKit Kv
theorem RegsAt.nth {ix : List Nat} {p b : Nat} {w : World} {l : List Reg} (h : RegsAt ix w p b l) {i : Nat} {r : Reg} (hi : l[i]? = some r) : RegCells w b (i * 7) r := reg_cells h.cells hi
/-- A block laid meanwhile is none of the Mem's. -/
theorem Plays.fresh {B p b : Nat} {w w' : World} {S : TS} (h : Plays B w p S) (hx : Ext w w') (hb : w.heap.size ≤ b) : ¬ ownR [2, 3, 4] w' p b := by
  obtain ⟨_, _, _, _, _, _, h⟩ := h
  intro ho
  have := (h.own ((ownR_same (Below.block hx p h.lt) b).1 ho)).2
  omega
theorem RAt.fresh {B p b : Nat} {w w' : World} {o : Bool} {S : TS} (h : RAt B w p o S) (hx : Ext w w') (hb : w.heap.size ≤ b) : ¬ ownR [3, 4, 5] w' p b := by
  obtain ⟨_, _, _, _, _, _, h, _⟩ := h
  intro ho
  have := (h.own ((ownR_same (Below.block hx p h.lt) b).1 ho)).2
  omega
/-- One call behind what was done: what it takes of the answers, and how many notes it leaves. -/
theorem tstepN {α β : Type} {B p : Nat} {w0 w : World} {S : TS} {R : Ending → World → Prop} {P : Program} {f : FuncId} {args : Array Value} {K : Ending → World → Prop} {enc : α → Value} {enc' : β → Value} {T : Prog α} {g : α → Prog β} {k : Nat} (hN : T.Notes k)
    (hO : Owes R enc' B p w0 ((T.bind g).run S)) (hB : KeepP B p w0 w) (h : Calls P f args w (Post enc B p w (T.run S))) (hp : ∀ w', R (stopE p) w' → K (stopE p) w')
    (hk : ∀ v S1 w1, S1.left ≤ S.left → (T.Asks → S1.left < S.left) → S1.nts.length ≤ S.nts.length + k → Plays B w1 p S1 → KeepP B p w w1 → KeepP B p w0 w1 → Owes R enc' B p w0 ((g v).run S1) → K (.returned (enc v)) w1) : Calls P f args w K := by
  refine tstep hO hB h hp fun v S1 w1 hr hP hk1 hk2 hO1 => hk v S1 w1 ?_ (fun ha => ha.left hr hP.1) ?_ hP hk1 hk2 hO1
  · have := Prog.run_left T S
    rw [hr] at this
    exact this
  · have := hN.run S
    rw [hr] at this
    exact this
theorem ref_notes {α : Type} {T : Prog α} {o o' : Bool} {S S' : TS} {a : α} {k : Nat} (hN : T.Notes k) (h : Ref T o S a o' S') : S'.nts.length ≤ S.nts.length + k := by
  have := hN.run S
  cases h with
  | over => omega
  | done h => rw [h] at this; exact this
  | stop _ h => rw [h] at this; exact this
theorem rstepN {α β : Type} {B p : Nat} {w0 w : World} {o : Bool} {S : TS} {R : Ending → World → Prop} {P : Program} {f : FuncId} {args : Array Value} {K : Ending → World → Prop} {enc : α → Value} {enc' : β → Value} {T : Prog α} {g : α → Prog β} {k : Nat} (hN : T.Notes k)
    (hO : ROwes R enc' B p w0 (T.bind g) o S) (hB : KeepR B p w0 w) (h : Calls P f args w (RPost enc B p w T o S))
    (hk : ∀ v o1 S1 w1, S1.left ≤ S.left → (o1 = false → o = false ∧ (T.Asks → S1.left < S.left)) → S1.nts.length ≤ S.nts.length + k → RAt B w1 p o1 S1 → KeepR B p w w1 → KeepR B p w0 w1 → ROwes R enc' B p w0 (g v) o1 S1 → K (.returned (enc v)) w1) : Calls P f args w K := by
  refine h.mono fun e w1 ⟨v, o1, S1, he, hr, h1, h2⟩ => ?_
  subst he
  refine hk v o1 S1 w1 (ref_lefts hr) (fun ho => ?_) (ref_notes hN hr) h1 h2 (hB.trans h2) (hO.then hr)
  subst ho
  cases hr with
  | done hr => exact ⟨rfl, fun ha => ha.left hr h1.len⟩
end Go.Proofs.YtbaajjkopdjbgaaGreat
/-
  A splitter anywhere in a row of registers, passed by the program.
-/
namespace Go.Proofs.YtbaajjkopdjbgaaGreat
open Go.RowKit Kv
theorem RegsAt.node2 {ix : List Nat} {p b k : Nat} {w : World} {rs : List Reg} {x y : Reg} (h : RegsAt ix w p b rs) (hi : rs[k]? = some x ∧ rs[k + 1]? = some y) :
    RegCells w b (k * 7) x ∧ RegCells w b (k * 7 + 7) y := by
  have h1 := h.nth hi.2
  rw [show (k + 1) * 7 = k * 7 + 7 from by omega] at h1
  exact ⟨h.nth hi.1, h1⟩
set_option maxRecDepth 100000 in
set_option maxHeartbeats 4000000 in
theorem passn_p (B p : Nat) (S : TS) (x y : Reg) (me : Int) (b c k : Nat) (rs : List Reg) (w : World) (h : Plays B w p S) (hl : RegsAt [2, 3, 4] w p b rs) (hi : rs[k]? = some x ∧ rs[k + 1]? = some y) (hx : x.ok) (hy : y.ok) (hm : 0 ≤ me) (hmx : me < x.n) (hmy : me < y.n) :
    Calls Tryz.prog 168 #[.pointer (some ⟨p, 0, none⟩), .slice (some ⟨b, k * 7, none⟩) 2 c, .int .i64 me] w (Post encI B p w ((passM x y me).run S)) := by
  generalize hR : Post encI B p w ((passM x y me).run S) = R
  have hO : Owes R encI B p w ((passM x y me).run S) := hR ▸ owes _ _ _ _ _
  clear hR
  replace hi := Lib.hid hi
  have hmw := IntWalk.i64_in (me + 1) (by have := hx.n; omega)
  obtain ⟨⟨c0, c1, c2, c3, c4, c5, c6⟩, ⟨c7, c8, c9, c10, c11, c12, c13⟩⟩ := hl.node2 hi.out
  have hn := hx.n
  have hK := Keep.refl [2, 3, 4] B p w
  have hP := h
  clear h
  unfold passM at hO
  go_enter Tryz.func168, Tryz.ntmps168
  go_wp2_with fail
  go_region_held2 (fun w' => (w'.cell? ⟨b, k * 7, none⟩ = some (.int .i64 x.kind) ∧ w'.cell? ⟨b, k * 7 + 1, none⟩ = some (.int .i64 x.base) ∧ w'.cell? ⟨b, k * 7 + 2, none⟩ = some (.int .i64 x.loc) ∧ w'.cell? ⟨b, k * 7 + 3, none⟩ = some (.int .i64 x.n) ∧ w'.cell? ⟨b, k * 7 + 4, none⟩ = some (.int .i64 x.wr) ∧ w'.cell? ⟨b, k * 7 + 5, none⟩ = some (.int .i64 x.rd) ∧ w'.cell? ⟨b, k * 7 + 6, none⟩ = some (.int .i64 x.top)) ∧
      (w'.cell? ⟨b, k * 7 + 7, none⟩ = some (.int .i64 y.kind) ∧ w'.cell? ⟨b, k * 7 + 7 + 1, none⟩ = some (.int .i64 y.base) ∧ w'.cell? ⟨b, k * 7 + 7 + 2, none⟩ = some (.int .i64 y.loc) ∧ w'.cell? ⟨b, k * 7 + 7 + 3, none⟩ = some (.int .i64 y.n) ∧ w'.cell? ⟨b, k * 7 + 7 + 4, none⟩ = some (.int .i64 y.wr) ∧ w'.cell? ⟨b, k * 7 + 7 + 5, none⟩ = some (.int .i64 y.rd) ∧ w'.cell? ⟨b, k * 7 + 7 + 6, none⟩ = some (.int .i64 y.top))) (first | with_reducible exact hl.node2 hi.out | go_keep) (fail)
  · rename_i hh
    clear hh
    obtain ⟨b1, b2, hP2, hK2⟩ := two_boxes hP (.cells #[.int .i64 x.kind, .int .i64 x.base, .int .i64 x.loc, .int .i64 x.n, .int .i64 x.wr, .int .i64 x.rd, .int .i64 x.top] 67) (.cells #[.int .i64 y.kind, .int .i64 y.base, .int .i64 y.loc, .int .i64 y.n, .int .i64 y.wr, .int .i64 y.rd, .int .i64 y.top] 67)
    clear hP hK hl
    have hP := hP2
    have hK := hK2
    clear hP2 hK2
    have c_b1 := b1.cells
    have c_b2 := b2.cells
    clear c0 c1 c2 c3 c4 c5 c6 c7 c8 c9 c10 c11 c12 c13
    go_wp2_with fail
    refine tstep hO hK (reg_write_p B p S x me (me + 1) _ hP hx ⟨hm, hmx⟩) (fun _ h => ⟨rfl, h⟩) ?_
    clear hO hK hP c_b1 c_b2
    intro u S w1 hr hP hk hK hO
    replace b1 := b1.keep hk
    have c_b1 := b1.cells
    replace b2 := b2.keep hk
    have c_b2 := b2.cells
    clear hk hr
    go_wp2_with fail
    refine tstep hO hK (reg_read_p B p S y me _ hP hy ⟨hm, hmy⟩) (fun _ h => ⟨rfl, h⟩) ?_
    clear hO hK hP c_b1 c_b2
    intro v S w1 hr hP hk hK hO
    replace b1 := b1.keep hk
    have c_b1 := b1.cells
    replace b2 := b2.keep hk
    have c_b2 := b2.cells
    clear hk hr
    by_cases hv : v = 0
    · rw [if_neg (by simpa using hv)] at hO
      have hv2 : (v != 0) = false := by simp [hv]
      clear hv
      go_wp2_with fail
      refine tstep hO hK (reg_write_p B p S y me 1 _ hP hy ⟨hm, hmy⟩) (fun _ h => ⟨rfl, h⟩) ?_
      clear hO hK hP c_b1 c_b2
      intro u S w1 hr hP hk hK hO
      replace b1 := b1.keep hk
      have c_b1 := b1.cells
      replace b2 := b2.keep hk
      have c_b2 := b2.cells
      clear hk hr
      go_wp2_with fail
      refine tstep hO hK (reg_read_p B p S x me _ hP hx ⟨hm, hmx⟩) (fun _ h => ⟨rfl, h⟩) ?_
      clear hO hK hP c_b1 c_b2
      intro z S w1 hr hP hk hK hO
      replace b1 := b1.keep hk
      have c_b1 := b1.cells
      replace b2 := b2.keep hk
      have c_b2 := b2.cells
      clear hk hr
      by_cases hz : z = me + 1
      · rw [if_pos hz] at hO
        have hz2 : (z == me + 1) = true := by simp [hz]
        clear hz
        have hf : R (.returned (.int .i64 0)) w1 := hO.done hP hK
        clear hO hP hK
        go_wp2_with fail
        exact hf
      · rw [if_neg hz] at hO
        have hz2 : (z == me + 1) = false := by rw [beq_eq_false_iff_ne]; exact hz
        clear hz
        have hf : R (.returned (.int .i64 2)) w1 := hO.done hP hK
        clear hO hP hK
        go_wp2_with fail
        exact hf
    · rw [if_pos hv] at hO
      have hv2 : (v != 0) = true := by rw [bne_iff_ne]; exact hv
      have hf : R (.returned (.int .i64 1)) w1 := hO.done hP hK
      clear hO hP hK hv
      go_wp2_with fail
      exact hf
  · rename_i hh
    clear hh
    obtain ⟨b2, b1, hP2, hK2⟩ := two_boxes hP (.cells #[.int .i64 y.kind, .int .i64 y.base, .int .i64 y.loc, .int .i64 y.n, .int .i64 y.wr, .int .i64 y.rd, .int .i64 y.top] 67) (.cells #[.int .i64 x.kind, .int .i64 x.base, .int .i64 x.loc, .int .i64 x.n, .int .i64 x.wr, .int .i64 x.rd, .int .i64 x.top] 67)
    clear hP hK hl
    have hP := hP2
    have hK := hK2
    clear hP2 hK2
    have c_b1 := b1.cells
    have c_b2 := b2.cells
    clear c0 c1 c2 c3 c4 c5 c6 c7 c8 c9 c10 c11 c12 c13
    go_wp2_with fail
    refine tstep hO hK (reg_write_p B p S x me (me + 1) _ hP hx ⟨hm, hmx⟩) (fun _ h => ⟨rfl, h⟩) ?_
    clear hO hK hP c_b1 c_b2
    intro u S w1 hr hP hk hK hO
    replace b1 := b1.keep hk
    have c_b1 := b1.cells
    replace b2 := b2.keep hk
    have c_b2 := b2.cells
    clear hk hr
    go_wp2_with fail
    refine tstep hO hK (reg_read_p B p S y me _ hP hy ⟨hm, hmy⟩) (fun _ h => ⟨rfl, h⟩) ?_
    clear hO hK hP c_b1 c_b2
    intro v S w1 hr hP hk hK hO
    replace b1 := b1.keep hk
    have c_b1 := b1.cells
    replace b2 := b2.keep hk
    have c_b2 := b2.cells
    clear hk hr
    by_cases hv : v = 0
    · rw [if_neg (by simpa using hv)] at hO
      have hv2 : (v != 0) = false := by simp [hv]
      clear hv
      go_wp2_with fail
      refine tstep hO hK (reg_write_p B p S y me 1 _ hP hy ⟨hm, hmy⟩) (fun _ h => ⟨rfl, h⟩) ?_
      clear hO hK hP c_b1 c_b2
      intro u S w1 hr hP hk hK hO
      replace b1 := b1.keep hk
      have c_b1 := b1.cells
      replace b2 := b2.keep hk
      have c_b2 := b2.cells
      clear hk hr
      go_wp2_with fail
      refine tstep hO hK (reg_read_p B p S x me _ hP hx ⟨hm, hmx⟩) (fun _ h => ⟨rfl, h⟩) ?_
      clear hO hK hP c_b1 c_b2
      intro z S w1 hr hP hk hK hO
      replace b1 := b1.keep hk
      have c_b1 := b1.cells
      replace b2 := b2.keep hk
      have c_b2 := b2.cells
      clear hk hr
      by_cases hz : z = me + 1
      · rw [if_pos hz] at hO
        have hz2 : (z == me + 1) = true := by simp [hz]
        clear hz
        have hf : R (.returned (.int .i64 0)) w1 := hO.done hP hK
        clear hO hP hK
        go_wp2_with fail
        exact hf
      · rw [if_neg hz] at hO
        have hz2 : (z == me + 1) = false := by rw [beq_eq_false_iff_ne]; exact hz
        clear hz
        have hf : R (.returned (.int .i64 2)) w1 := hO.done hP hK
        clear hO hP hK
        go_wp2_with fail
        exact hf
    · rw [if_pos hv] at hO
      have hv2 : (v != 0) = true := by rw [bne_iff_ne]; exact hv
      have hf : R (.returned (.int .i64 1)) w1 := hO.done hP hK
      clear hO hP hK hv
      go_wp2_with fail
      exact hf
end Go.Proofs.YtbaajjkopdjbgaaGreat
/-
  Plain mathematics of three locks (Peterson's filter, Lamport's fast lock, the black-white bakery) as trees.
-/
namespace Kv
/-- The register at a place. -/
def regAt (l : List Reg) (i : Int) : Reg := l.getD i.toNat ⟨1, 0, 0, 1, -1, -1, 1⟩
theorem regAt_of {l : List Reg} {i : Int} {k : Nat} {r : Reg} (hi : i = k) (h : l[k]? = some r) : regAt l i = r := by
  unfold regAt
  rw [hi, Int.toNat_natCast, List.getD_eq_getElem?_getD, h]; rfl
/-- Waiting in the filter: till a thread's level is below one, or another one is the victim. -/
def filWait (r v : Reg) (me level : Int) : Nat → Prog Unit
  | 0 => .ret ()
  | n + 1 => (regR r me).bind fun x => if x < level then .ret () else (regR v me).bind fun y => if y = me + 1 then filWait r v me level n else .ret ()
/-- A level of the filter. -/
def filLevel (N : Nat) (l : List Reg) (n me level : Int) : Prog Unit :=
  (regW (regAt l me) me level).bind fun _ => (regW (regAt l (n - 1 + level)) me (me + 1)).bind fun _ =>
    forP (fun j _ => filWait (regAt l j) (regAt l (n - 1 + level)) me level N) (ranksFrom me n.toNat 0) ()
def filA (N : Nat) (l : List Reg) (n me : Int) : Prog Int :=
  (nt 1).bind fun _ => (forP (fun level _ => filLevel N l n me level) (ranksFrom (-1) (n - 1).toNat 1) ()).bind fun _ => (nt 3).bind fun _ => .ret 0
def filR (l : List Reg) (me : Int) : Prog Unit := (nt 5).bind fun _ => regW (regAt l me) me 0
/-- Reading a register till it tells 0. -/
def zeroP (r : Reg) (me : Int) : Nat → Prog Unit
  | 0 => .ret ()
  | n + 1 => (regR r me).bind fun x => if x = 0 then .ret () else zeroP r me n
/-- The fast lock: so many tries at most. -/
def fastTry (N : Nat) (l : List Reg) (n me : Int) : Nat → Prog Unit
  | 0 => .ret ()
  | k + 1 => (regW (regAt l (2 + me)) me 1).bind fun _ => (regW (regAt l 0) me (me + 1)).bind fun _ => (regR (regAt l 1) me).bind fun y =>
      if y = 0 then
        (regW (regAt l 1) me (me + 1)).bind fun _ => (regR (regAt l 0) me).bind fun x =>
          if x = me + 1 then .ret () else
            (regW (regAt l (2 + me)) me 0).bind fun _ => (forP (fun j _ => zeroP (regAt l (2 + j)) me N) (ranksFrom (-1) n.toNat 0) ()).bind fun _ =>
              (regR (regAt l 1) me).bind fun y => if y = me + 1 then .ret () else (zeroP (regAt l 1) me N).bind fun _ => fastTry N l n me k
      else (regW (regAt l (2 + me)) me 0).bind fun _ => (zeroP (regAt l 1) me N).bind fun _ => fastTry N l n me k
def fastA (N : Nat) (l : List Reg) (n me : Int) : Prog Int := (nt 1).bind fun _ => (fastTry N l n me N).bind fun _ => (nt 3).bind fun _ => .ret 0
def fastR (l : List Reg) (me : Int) : Prog Unit := (nt 5).bind fun _ => (regW (regAt l 1) me 0).bind fun _ => regW (regAt l (2 + me)) me 0
/-- The bakery: the ticket behind all of one's color. -/
def bwMost (l : List Reg) (n me c : Int) (t : Int) : Prog Int :=
  forP (fun j t => (regR (regAt l (1 + n + j)) me).bind fun x => .ret (if x % 2 = c then max t (x / 2) else t)) (ranksFrom me n.toNat 0) t
def bwChoose (r : Reg) (me : Int) : Nat → Prog Unit
  | 0 => .ret ()
  | n + 1 => (regR r me).bind fun x => if x = 0 then .ret () else bwChoose r me n
/-- Waiting till a thread is not ahead any more. -/
def bwWait (l : List Reg) (n me j t c : Int) : Nat → Prog Unit
  | 0 => .ret ()
  | k + 1 => (regR (regAt l (1 + n + j)) me).bind fun x =>
      if x / 2 = 0 then .ret () else if x % 2 = c then (if t < x / 2 ∨ (x / 2 = t ∧ me < j) then .ret () else bwWait l n me j t c k)
      else (regR (regAt l 0) me).bind fun y => if bitM y = c then bwWait l n me j t c k else .ret ()
def bwA (N : Nat) (l : List Reg) (own n me : Int) : Prog Int :=
  (nt 1).bind fun _ => (regW (regAt l (1 + me)) me 1).bind fun _ => (regR (regAt l 0) me).bind fun y => (st own (bitM y)).bind fun _ =>
    (bwMost l n me (bitM y) 0).bind fun t => (regW (regAt l (1 + n + me)) me (2 * (t + 1) + bitM y)).bind fun _ => (regW (regAt l (1 + me)) me 0).bind fun _ => (nt 2).bind fun _ =>
      (forP (fun j _ => (bwChoose (regAt l (1 + j)) me N).bind fun _ => bwWait l n me j (t + 1) (bitM y) N) (ranksFrom me n.toNat 0) ()).bind fun _ => (nt 3).bind fun _ => .ret 0
def bwR (l : List Reg) (own n me : Int) : Prog Unit :=
  (nt 5).bind fun _ => (gt own).bind fun x => (regW (regAt l 0) me (1 - bitM x)).bind fun _ => regW (regAt l (1 + n + me)) me (bitM x)
theorem filLevel_bind {β : Type} (N : Nat) (l : List Reg) (n me level : Int) (f : Unit → Prog β) : (filLevel N l n me level).bind f = (regW (regAt l me) me level).bind fun _ => (regW (regAt l (n - 1 + level)) me (me + 1)).bind fun _ =>
    (forP (fun j _ => filWait (regAt l j) (regAt l (n - 1 + level)) me level N) (ranksFrom me n.toNat 0) ()).bind f := by
  unfold filLevel
  simp only [Prog.bind_assoc]
theorem filWait_bind {β : Type} (r v : Reg) (me level : Int) (n : Nat) (f : Unit → Prog β) : (filWait r v me level (n + 1)).bind f = (regR r me).bind fun x => if x < level then f () else (regR v me).bind fun y => if y = me + 1 then (filWait r v me level n).bind f else f () := by
  rw [show filWait r v me level (n + 1) = (regR r me).bind fun x => if x < level then .ret () else (regR v me).bind fun y => if y = me + 1 then filWait r v me level n else .ret () from rfl, Prog.bind_assoc]
  congr 1
  funext x
  split
  · rfl
  · rw [Prog.bind_assoc]
    congr 1
    funext y
    split <;> rfl
theorem zeroP_bind {β : Type} (r : Reg) (me : Int) (n : Nat) (f : Unit → Prog β) : (zeroP r me (n + 1)).bind f = (regR r me).bind fun x => if x = 0 then f () else (zeroP r me n).bind f := by
  rw [show zeroP r me (n + 1) = (regR r me).bind fun x => if x = 0 then .ret () else zeroP r me n from rfl, Prog.bind_assoc]
  congr 1
  funext x
  split <;> rfl
theorem notes_filWait (r v : Reg) (me level : Int) : ∀ n : Nat, (filWait r v me level n).Notes 0
  | 0 => .ret _ _
  | n + 1 => by
    rw [show filWait r v me level (n + 1) = (regR r me).bind fun x => if x < level then .ret () else (regR v me).bind fun y => if y = me + 1 then filWait r v me level n else .ret () from rfl]
    refine (notes_regR _ _).bind0 fun x => ?_
    split
    · exact .ret _ _
    · refine (notes_regR _ _).bind0 fun y => ?_
      split
      · exact notes_filWait r v me level n
      · exact .ret _ _
theorem notes_zeroP (r : Reg) (me : Int) : ∀ n : Nat, (zeroP r me n).Notes 0
  | 0 => .ret _ _
  | n + 1 => by
    rw [show zeroP r me (n + 1) = (regR r me).bind fun x => if x = 0 then .ret () else zeroP r me n from rfl]
    refine (notes_regR _ _).bind0 fun x => ?_
    split
    · exact .ret _ _
    · exact notes_zeroP r me n
end Kv
/-
  A scope in which the run jumps to several labels.
-/
namespace Kv
open Go
/-- So many values, one behind the other. -/
def Fr : Nat → (List Value → Prop) → Prop
  | 0, G => G []
  | n + 1, G => ∀ u : Value, Fr n fun l => G (u :: l)
theorem fr_list : ∀ (n : Nat) (G : List Value → Prop), Fr n G → ∀ l : List Value, l.length = n → G l
  | 0, G, h, [], _ => h
  | n + 1, G, h, u :: l, hl => fr_list n (fun l => G (u :: l)) (h u) l (by simpa using hl)
/-- A frame of so many slots is its slots. -/
theorem fr_act (n : Nat) (G : Act → Prop) (h : Fr n fun l => G ⟨l.toArray, []⟩) (a : Act) (hd : a.defers = []) (hs : a.tmps.size = n) : G a := by
  obtain ⟨⟨l⟩, d⟩ := a
  obtain rfl : d = [] := hd
  exact fr_list n (fun l => G ⟨l.toArray, []⟩) h l (by simpa using hs)
/-- As Q; by a goto to label l: what J asks there. -/
def Jumps (J : Nat → Act → World → Prop) (Q : Exit → Act → World → Prop) : Exit → Act → World → Prop
  | .goto l, a, w => J l a w
  | e, a, w => Q e a w
section
variable {P : Program} {a : Act} {w : World} {J : Nat → Act → World → Prop} {Q : Exit → Act → World → Prop}
@[go_sem] theorem jumps_normal : Jumps J Q .normal a w = Q .normal a w := rfl
@[go_sem] theorem jumps_exit (id : Nat) : Jumps J Q (.exit id) a w = Q (.exit id) a w := rfl
@[go_sem] theorem jumps_ret : Jumps J Q .ret a w = Q .ret a w := rfl
@[go_sem] theorem jumps_panic (c : List PanicEntry) : Jumps J Q (.panic c) a w = Q (.panic c) a w := rfl
@[go_sem] theorem jumps_goto (l : Nat) : Jumps J Q (.goto l) a w = J l a w := rfl
/-- Each label with what holds where it is jumped to, and a measure that each pass lowers. -/
theorem wp_scope_labels {c : Code} (J : Nat → Act → World → Prop) (μ : Nat → Act → World → Nat) (first : c.wp P (Jumps J Q) a w)
    (pass : ∀ l a w, J l a w → ∃ rest, findLabel c l = some rest ∧ rest.wp P (Jumps (fun l' a' w' => J l' a' w' ∧ μ l' a' w' < μ l a w) Q) a w) : (Code.scope c).wp P Q a w := by
  intro b k cs
  have key : ∀ n l a w rest, findLabel c l = some rest → μ l a w = n → J l a w → ∃ e a' w', Q e a' w' ∧ Arrives P (lone (b.at a (.code rest :: .inScope c :: k)) cs w) b k cs e a' w' := by
    intro n
    induction n using Nat.strongRecOn with
    | _ n ih =>
      intro l a w rest hf hn hJ
      obtain ⟨rest', hf', hp⟩ := pass l a w hJ
      obtain rfl : rest = rest' := by rw [hf] at hf'; injection hf'
      obtain ⟨e, a₁, w₁, hq, harr⟩ := hp b (.inScope c :: k) cs
      cases e with
      | normal => exact ⟨.normal, a₁, w₁, hq, Steps.trans harr (.one step_inScope)⟩
      | exit id => exact ⟨.exit id, a₁, w₁, hq, fun k' hk => harr k' (by simp [exitTo, hk])⟩
      | goto l' =>
        obtain ⟨hJ', hlt⟩ := hq
        obtain ⟨rest2, hf2, _⟩ := pass l' a₁ w₁ hJ'
        have hg : gotoIn l' (.inScope c :: k) = some (.code rest2 :: .inScope c :: k) := by simp [gotoIn, hf2]
        obtain ⟨e₂, a₂, w₂, hq₂, harr₂⟩ := ih _ (by omega) l' a₁ w₁ rest2 hf2 rfl hJ'
        exact ⟨e₂, a₂, w₂, hq₂, .of_steps (harr _ hg) harr₂⟩
      | ret => exact ⟨_, a₁, w₁, hq, harr⟩
      | panic ch => exact ⟨_, a₁, w₁, hq, harr⟩
      | outgrown => exact ⟨_, a₁, w₁, hq, harr⟩
  obtain ⟨e, a₁, w₁, hq, harr⟩ := first b (.inScope c :: k) cs
  cases e with
  | normal => exact ⟨.normal, a₁, w₁, hq, .head step_scope (Steps.trans harr (.one step_inScope))⟩
  | exit id => exact ⟨.exit id, a₁, w₁, hq, fun k' hk => .head step_scope (harr k' (by simp [exitTo, hk]))⟩
  | goto l' =>
    obtain ⟨rest2, hf2, _⟩ := pass l' a₁ w₁ hq
    have hg : gotoIn l' (.inScope c :: k) = some (.code rest2 :: .inScope c :: k) := by simp [gotoIn, hf2]
    obtain ⟨e₂, a₂, w₂, hq₂, harr₂⟩ := key _ l' a₁ w₁ rest2 hf2 rfl hq
    exact ⟨e₂, a₂, w₂, hq₂, .of_steps (.head step_scope (harr _ hg)) harr₂⟩
  | ret => exact ⟨_, a₁, w₁, hq, .of_steps (.one step_scope) harr⟩
  | panic ch => exact ⟨_, a₁, w₁, hq, .of_steps (.one step_scope) harr⟩
  | outgrown => exact ⟨_, a₁, w₁, hq, .of_steps (.one step_scope) harr⟩
/-- As above; who runs into a label holds what holds where it is jumped to. -/
theorem wp_scope_fall {c : Code} (J : Nat → Act → World → Prop) (μ : Nat → Act → World → Nat)
    (pass : ∀ l a w, J l a w → ∃ rest, findLabel c l = some (.seq .skip rest) ∧ rest.wp P (Jumps (fun l' a' w' => J l' a' w' ∧ μ l' a' w' < μ l a w) Q) a w)
    (first : (∀ l rest a w, findLabel c l = some (.seq .skip rest) → J l a w → rest.wp P (Jumps J Q) a w) → c.wp P (Jumps J Q) a w) : (Code.scope c).wp P Q a w := by
  refine wp_scope_labels J μ (first fun l rest a w hf hJ => ?_) fun l a w hJ => ?_
  · obtain ⟨rest', hf', hp⟩ := pass l a w hJ
    obtain rfl : rest = rest' := by rw [hf] at hf'; simpa using hf'
    refine Code.wp_mono (fun e a2 w2 hq => ?_) hp
    cases e with
    | goto l' => exact hq.1
    | normal => exact hq
    | exit id => exact hq
    | ret => exact hq
    | panic ch => exact hq
    | outgrown => exact hq
  · obtain ⟨rest, hf, hp⟩ := pass l a w hJ
    exact ⟨_, hf, wp_seq (wp_skip hp)⟩
end
end Kv
/-
  Names by splitters, by the program.
-/
namespace Kv
open Go Go.RowKit
/-- Walking through the triangle from a point on. -/
def nameM (l : List Reg) (N : Nat) (me : Int) : Nat → Nat → Nat → Prog Int
  | 0, _, _ => .ret ((triN N : Int) - 1)
  | f + 1, x, y => (passM (regAt l (2 * (triName x y : Int))) (regAt l (2 * (triName x y : Int) + 1)) me).bind fun told =>
      if told = 0 then .ret (triName x y : Int) else if told = 1 then nameM l N me f (x + 1) y else nameM l N me f x (y + 1)
def getM (l : List Reg) (N : Nat) (own me : Int) : Prog Int :=
  (gt own).bind fun had => if had ≠ 0 then .ret (wrap64 (had - 1)) else (nameM l N me N 0 0).bind fun name => (st own (name + 1)).bind fun _ => .ret name
end Kv
namespace Go.Proofs.YtbaajjkopdjbgaaGreat
open Go.RowKit Kv
theorem rat_p (b len k d : Nat) (w : World) (h : 2 * k + 2 ≤ len) (hc : len ≤ d + 2 * k + 2) (hc2 : d + 2 * k + 2 ≤ 9223372036854775807) (hl : len ≤ 100000) :
    Calls Tryz.prog 169 #[.slice (some ⟨b, 0, none⟩) len (d + 2 * k + 2), .int .i64 k] w fun e w' => (∃ c2, e = .returned (.slice (some ⟨b, 2 * k * 7, none⟩) 2 c2)) ∧ w = w' := by
  have e1 := IntWalk.i64_in (2 * (k : Int)) (by omega)
  have e2 := IntWalk.i64_in (2 * (k : Int) + 2) (by omega)
  have e3 : decide ((k : Int) < 0) = false := by rw [decide_eq_false_iff_not]; omega
  have e4 : decide ((len : Int) < 2 * (k : Int) + 2) = false := by rw [decide_eq_false_iff_not]; omega
  have e5 : (2 * (k : Int)).toNat = 2 * k := by omega
  have e6 : (2 * (k : Int) + 2).toNat = 2 * k + 2 := by omega
  have e7 : 2 * (k : Int) + 2 ≤ ((d + 2 * k + 2 : Nat) : Int) := by omega
  have e8 : 0 ≤ 2 * (k : Int) := by omega
  have e9 : 2 * (k : Int) ≤ 2 * (k : Int) + 2 := by omega
  go_enter Tryz.func169, Tryz.ntmps169
  go_wp2_with fail
  go_ret
  exact ⟨⟨_, rfl⟩, rfl⟩
/-- How far a point is from the corner. -/
def zsum : Value → Nat
  | .complex _ a b => match ptOf a b with
    | some p => (p.1 + p.2).toNat
    | none => 0
  | _ => 0
theorem zsum_eq {a b x y : Nat} (h : ptOf a b = some ((x : Int), (y : Int))) : zsum (.complex .f64 a b) = x + y := by
  simp only [zsum, h]
  omega
set_option maxRecDepth 100000 in
set_option maxHeartbeats 2000000 in
theorem getname_p (B p N : Nat) (S : TS) (rs : List Reg) (own : Int) (m b d : Nat) (w : World) (h : Plays B w p S) (hreg : RegsAt [2, 3, 4] w p b rs) (hlen : rs.length = 2 * triN N) (hok : ∀ r ∈ rs, r.ok ∧ r.n = N) (h1 : 1 ≤ N) (h2 : N ≤ 8) (hm1 : m < N)
    (hd : d ≤ 9223372036854775000) :
    Calls Tryz.prog 90 #[.pointer (some ⟨p, 0, none⟩), .slice (some ⟨b, 0, none⟩) rs.length (d + rs.length), .int .i64 N, .int .i64 own, .int .i64 m] w (Post encI B p w ((getM rs N own m).run S)) := by
  generalize hR : Post encI B p w ((getM rs N own m).run S) = R
  have hO : Owes R encI B p w ((getM rs N own m).run S) := hR ▸ owes _ _ _ _ _
  clear hR
  have hK := Keep.refl [2, 3, 4] B p w
  have hP := h
  clear h
  unfold getM at hO
  rw [run_gt] at hO
  have hT36 : triN N ≤ 36 := by
    have := triN_mono h2
    rw [show triN 8 = 36 from by decide] at this
    exact this
  have hT1 : 1 ≤ triN N := by
    have := triN_mono h1
    rw [show triN 1 = 1 from by decide] at this
    exact this
  have hsz := fun w => gsize_p N (by omega) w
  have hat1 := fun w => at_p 1 0 w
  have hat2 := fun w => at_p 0 1 w
  have hat3 := fun w => at_p 0 0 w
  rw [show clampR 1 = 1 from by decide, show clampR 0 = 0 from by decide] at hat1 hat2
  rw [show clampR 0 = 0 from by decide] at hat3
  have hpt1 : ptOf (floatOfInt .f64 1) (floatOfInt .f64 0) = some (1, 0) := pt_nat 1 0 (by omega) (by omega)
  have hpt2 : ptOf (floatOfInt .f64 0) (floatOfInt .f64 1) = some (0, 1) := pt_nat 0 1 (by omega) (by omega)
  have hpt3 : ptOf (floatOfInt .f64 0) (floatOfInt .f64 0) = some (((0 : Nat) : Int), ((0 : Nat) : Int)) := pt_nat 0 0 (by omega) (by omega)
  have hptsh := Lib.hid (And.intro hpt1 (And.intro hpt2 hpt3))
  clear hpt1 hpt2 hpt3
  obtain ⟨r1, hr1⟩ : ∃ x, floatOfInt .f64 1 = x := ⟨_, rfl⟩
  obtain ⟨r0, hr0⟩ : ∃ x, floatOfInt .f64 0 = x := ⟨_, rfl⟩
  have hw1 := IntWalk.i64_in ((triN N : Int) - 1) (by omega)
  have hoh := Lib.hid hO
  have hlenh := Lib.hid hlen
  have hokh := Lib.hid hok
  clear hO hok
  go_enter Tryz.func90, Tryz.ntmps90
  go_wp2_with fail
  refine wp_scope_straight ?_
  go_wp2_with fail
  refine (get_p B p S own _ hP).mono ?_
  rintro e w' ⟨rfl, rfl⟩
  have hO := hoh.out
  clear hoh
  generalize S.got own = x at hO ⊢
  by_cases hx : x = 0
  · have dx : (x != 0) = false := by simpa using hx
    rw [if_neg (by simpa using hx)] at hO
    have hOh := Lib.hid hO
    clear hO hx
    go_wp2_with fail
    refine (hsz _).mono ?_
    rintro e w' ⟨rfl, rfl⟩
    go_wp2_with fail
    refine (hat1 _).mono ?_
    rintro e w' ⟨rfl, rfl⟩
    go_wp2_with fail
    refine (hat2 _).mono ?_
    rintro e w' ⟨rfl, rfl⟩
    go_wp2_with fail
    refine (hat3 _).mono ?_
    rintro e w' ⟨rfl, rfl⟩
    go_wp2_with fail
    apply wp_label
    rename_i hKK
    replace hKK := Lib.hid hKK
    refine hKK.out _ _ ?_
    clear hKK
    obtain ⟨G, hG⟩ : ∃ G : Int → Prog Int, G = fun name => (st own (name + 1)).bind fun _ => .ret name := ⟨_, rfl⟩
    replace hO := hOh.out
    rw [← hG] at hO
    have hOh2 := Lib.hid hO
    have hGh := Lib.hid hG
    clear hO hOh hG hsz hat1 hat2 hat3
    go_wp2_with fail
    go_loopw [12, 15] (fun u z wr => ∃ (f x y za zb : Nat) (S2 : TS), z = .complex .f64 za zb ∧ Hid (ptOf za zb = some ((x : Int), (y : Int))) ∧ x + y + f = N ∧ u = .int .i64 ((triN N : Int) - 1) ∧ Plays B wr p S2 ∧ KeepP B p w wr ∧ RegsAt [2, 3, 4] wr p b rs ∧ Hid (Owes R encI B p w (((nameM rs N m f x y).bind G).run S2))) (fun _ z _ => N - zsum z)
    case atStart => exact ⟨N, 0, 0, r0, r0, S, rfl, Lib.hid (by rw [← hr0]; exact hptsh.out.2.2), by omega, rfl, hP, hK, hreg, hOh2⟩
    case round =>
      clear hP hK hreg hOh2
      obtain ⟨f, x, y, za, zb, S2, rfl, hpt, hxy, rfl, hP, hK, hreg, hOh⟩ := hrel
      have hon := fun w => gon_p N za zb x y hpt.out (by omega) w
      cases f with
      | zero =>
        have d1 : decide (x + y < N) = false := by rw [decide_eq_false_iff_not]; omega
        rw [d1] at hon
        replace hO := hOh.out
        rw [show nameM rs N m 0 x y = .ret ((triN N : Int) - 1) from rfl, Prog.bind_ret, show G ((triN N : Int) - 1) = (st own (triN N : Int)).bind fun _ => .ret ((triN N : Int) - 1) from by
          rw [hGh.out]
          show (st own ((triN N : Int) - 1 + 1)).bind _ = _
          rw [show (triN N : Int) - 1 + 1 = (triN N : Int) from by omega]] at hO
        clear hOh
        have hOh := Lib.hid hO
        have hw2 : IntKind.i64.wrap ((triN N : Int) - 1 + 1) = (triN N : Int) := by rw [IntWalk.i64_in _ (by omega)]; omega
        have hw3 : IntKind.i64.wrap (triN N : Int) = (triN N : Int) := IntWalk.i64_in _ (by omega)
        clear hO hpt hxy
        go_wp2_with fail
        refine (hon _).mono ?_
        rintro e w' ⟨rfl, rfl⟩
        go_wp2_with fail
        refine tstep hOh.out hK (setO hP) (fun _ h => ⟨rfl, h⟩) ?_
        clear hOh hK hP
        intro u9 S9 w9 _ hP hk hK hO
        have hf := hO.done (v := (triN N : Int) - 1) hP hK
        clear hO hP hK hk
        go_wp2_with fail
        first | exact hf | (go_ret; exact hf)
      | succ f =>
        have d1 : decide (x + y < N) = true := by rw [decide_eq_true_eq]; omega
        rw [d1] at hon
        have hkl := triName_lt (x := x) (y := y) (N := N) (by omega)
        have hnm := fun w => gname_p za zb x y hpt.out (by omega) w
        obtain ⟨k, hk⟩ : ∃ k, triName x y = k := ⟨_, rfl⟩
        rw [hk] at hkl hnm
        obtain ⟨q0, hq0⟩ : ∃ r, rs[2 * k]? = some r := ⟨_, List.getElem?_eq_getElem (by omega)⟩
        obtain ⟨q1, hq1⟩ : ∃ r, rs[2 * k + 1]? = some r := ⟨_, List.getElem?_eq_getElem (by omega)⟩
        have hok0 := hokh.out _ (List.mem_of_getElem? hq0)
        have hok1 := hokh.out _ (List.mem_of_getElem? hq1)
        have hra := fun w => rat_p b (2 * triN N) k (d + 2 * triN N - (2 * k + 2)) w (by omega) (by omega) (by omega) (by omega)
        rw [show d + 2 * triN N - (2 * k + 2) + 2 * k + 2 = d + 2 * triN N from by omega] at hra
        replace hO := hOh.out
        rw [show nameM rs N m (f + 1) x y = ((passM (regAt rs (2 * (triName x y : Int))) (regAt rs (2 * (triName x y : Int) + 1)) m).bind fun told =>
          if told = 0 then .ret (triName x y : Int) else if told = 1 then nameM rs N m f (x + 1) y else nameM rs N m f x (y + 1)) from rfl, hk, regAt_of (show 2 * (k : Int) = ((2 * k : Nat) : Int) from by omega) hq0, regAt_of (show 2 * (k : Int) + 1 = ((2 * k + 1 : Nat) : Int) from by omega) hq1, Prog.bind_assoc] at hO
        clear hOh
        have hOh := Lib.hid hO
        have hqq := Lib.hid (And.intro hq0 hq1)
        have hzs := Lib.hid (zsum_eq hpt.out)
        have hxyh := Lib.hid hxy
        have hkh := Lib.hid hk
        clear hO hq0 hq1 hxy hk
        go_wp2_with fail
        refine (hon _).mono ?_
        rintro e w' ⟨rfl, rfl⟩
        go_wp2_with fail
        refine (hnm _).mono ?_
        rintro e w' ⟨rfl, rfl⟩
        go_wp2_with fail
        refine (hra _).mono ?_
        rintro e w' ⟨⟨cc, rfl⟩, rfl⟩
        go_wp2_with fail
        refine tstep hOh.out hK (passn_p B p S2 q0 q1 m b cc (2 * k) rs _ hP hreg hqq.out hok0.1 hok1.1 (by omega) (by rw [hok0.2]; omega) (by rw [hok1.2]; omega)) (fun _ h => ⟨rfl, h⟩) ?_
        clear hOh hK hP
        intro told S3 w3 hrun hP hk1 hK hO
        replace hreg := hreg.keep hk1
        clear hk1 hrun hqq hok0 hok1 hra hon
        by_cases ht0 : told = 0
        · have dt : (told == 0) = true := by rw [beq_iff_eq]; exact ht0
          rw [if_pos ht0, Prog.bind_ret, show G (k : Int) = (st own ((k : Int) + 1)).bind fun _ => .ret (k : Int) from by rw [hGh.out]] at hO
          have hOh := Lib.hid hO
          have hw2 : IntKind.i64.wrap ((k : Int) + 1) = (k : Int) + 1 := IntWalk.i64_in _ (by omega)
          clear hO ht0 hzs hpt
          go_wp2_with fail
          refine (hnm _).mono ?_
          rintro e w' ⟨rfl, rfl⟩
          go_wp2_with fail
          refine tstep hOh.out hK (setO hP) (fun _ h => ⟨rfl, h⟩) ?_
          clear hOh hK hP
          intro u9 S9 w9 _ hP hk hK hO
          have hf := hO.done (v := (k : Int)) hP hK
          clear hO hP hK hk
          go_wp2_with fail
          first | exact hf | (go_ret; exact hf)
        · have dt : (told == 0) = false := by rw [beq_eq_false_iff_ne]; exact ht0
          rw [if_neg ht0] at hO
          clear hnm ht0
          by_cases ht1 : told = 1
          · have dt1 : (told == 1) = true := by rw [beq_iff_eq]; exact ht1
            rw [if_pos ht1] at hO
            have hOh := Lib.hid hO
            obtain ⟨re, im, hsum, hp2⟩ := padd hpt.out hptsh.out.1 (by have := hxyh.out; exact ⟨by simp only; omega, by simp only; omega, by simp only; omega, by simp only; omega⟩)
            rw [hr1, hr0] at hsum
            have hadd := fun W => run_complex_sum (P := Tryz.prog) W .add (.inl rfl) 138 .f64 za zb r1 r0 re im hsum
            have hp3 : ptOf re im = some (((x + 1 : Nat) : Int), ((y : Nat) : Int)) := by rw [hp2]; simp
            have hp3h := Lib.hid hp3
            clear hO ht1 hpt hsum hp2 hp3
            go_wp2_with fail
            refine ⟨⟨f, x + 1, y, re, im, S3, rfl, hp3h, by have := hxyh.out; omega, rfl, hP, hK, hreg, hOh⟩, ?_⟩
            rw [hzs.out, zsum_eq hp3h.out]
            have := hxyh.out
            omega
          · have dt1 : (told == 1) = false := by rw [beq_eq_false_iff_ne]; exact ht1
            rw [if_neg ht1] at hO
            have hOh := Lib.hid hO
            obtain ⟨re, im, hsum, hp2⟩ := padd hpt.out hptsh.out.2.1 (by have := hxyh.out; exact ⟨by simp only; omega, by simp only; omega, by simp only; omega, by simp only; omega⟩)
            rw [hr1, hr0] at hsum
            have hadd := fun W => run_complex_sum (P := Tryz.prog) W .add (.inl rfl) 138 .f64 za zb r0 r1 re im hsum
            have hp3 : ptOf re im = some (((x : Nat) : Int), ((y + 1 : Nat) : Int)) := by rw [hp2]; simp
            have hp3h := Lib.hid hp3
            clear hO ht1 hpt hsum hp2 hp3
            go_wp2_with fail
            refine ⟨⟨f, x, y + 1, re, im, S3, rfl, hp3h, by have := hxyh.out; omega, rfl, hP, hK, hreg, hOh⟩, ?_⟩
            rw [hzs.out, zsum_eq hp3h.out]
            have := hxyh.out
            omega
  · have dx : (x != 0) = true := by simpa using hx
    rw [if_pos (by simpa using hx)] at hO
    have hf := hO.done hP hK
    clear hO hx
    go_wp2_with fail
    first | exact hf | (go_ret; exact hf)
end Go.Proofs.YtbaajjkopdjbgaaGreat
/-
  Layer 1: the two functions that call the library (levels, digits), and the chapter's examples.
-/
namespace Go.Proofs.YtbaajjkopdjbgaaGreat
open Go.RowKit Kv
theorem levels_p (n : Int) (hn : n ≤ 9223372036854775807) (w : World) :
    Calls Tryz.prog 123 #[.int .i64 n] w fun e w' => e = .returned (.int .i64 (levels n)) ∧ w = w' := by
  by_cases h1 : n ≤ 1
  · have H := Lib.hid (levels_small n h1)
    go_enter Tryz.func123, Tryz.ntmps123
    go_wp2
    go_ret
    exact ⟨ret_int (by rw [H.out]; rfl), rfl⟩
  · have H := Lib.hid (levels_bitLen n (by omega))
    rw [show (n - 1).toNat = n.toNat - 1 from by omega] at H
    go_enter Tryz.func123, Tryz.ntmps123
    go_wp2_with (go_at_call 219; refine (Tryz.bits_Len64 _ _ (by omega) (by omega)).mono ?_; rintro e w' ⟨rfl, rfl⟩)
    go_ret
    exact ⟨ret_int (by rw [H.out]), rfl⟩
theorem lev5 : levels 5 = 3 := by decide
theorem dig40 : digits (-40) = [45, 52, 48] := by
  unfold digits Go.Lib.itoa
  rw [if_pos (by omega), show (-40 : Int).natAbs = 40 from rfl, decDigits_step 40 (by omega), decDigits_one (40 / 10) (by omega)]
  decide
end Go.Proofs.YtbaajjkopdjbgaaGreat
/-
  Plain mathematics of Kessels' lock: entering and leaving as trees.
-/
namespace Kv
def kesFree (s t y : Int) : Bool := if s = 1 then decide (bitM y = t) else decide (bitM y ≠ t)
def kesT (s x : Int) : Int := if s = 1 then 1 - bitM x else bitM x
/-- Spinning, so many rounds at most. -/
def kesSpin (qo ro : Reg) (s t me : Int) : Nat → Prog Unit
  | 0 => .ret ()
  | n + 1 => (regR qo me).bind fun x => if x = 0 then .ret () else (regR ro me).bind fun y => if kesFree s t y then .ret () else kesSpin qo ro s t me n
def kesEnter (n : Nat) (qs qo rs ro : Reg) (s me : Int) : Prog Unit :=
  (regW qs me 1).bind fun _ => (regR ro me).bind fun x => (regW rs me (kesT s x)).bind fun _ => kesSpin qo ro s (kesT s x) me n
end Kv
