/-
  Plain mathematics of the numbers of layer 1: what clamping, wrapping, packing, unpacking, levels and digits are, and their laws.
-/
import Derived.Lib.ItoaNum
import Derived.Lib.BitFns
import Derived.Test.YtiahgcaenneonaaDoorProg
import Derived.WalkKit
import Derived.WalkLawsBesides
import Derived.WalkSpells
import Derived.Lib.MinMax
import Derived.Lib.Hide
import Derived.Deep.QuietTactic
import Derived.BigQuiet
import Derived.RegionTactic
import Derived.Deep.RegionWith
import Derived.Deep.LoopGhost
import Derived.ShutString
import Derived.Laws.FloatArith
import Derived.Laws.ComplexArith
import Derived.WalkSmall
import Derived.Lib.AppendIntMem
import Derived.Shelf.Strings.Builder1
import Derived.Shelf.Strings.Builder2
import Derived.Shelf.Strings.OnBuilder
import Derived.Shelf.Strings.BuilderF
import Derived.Shelf.Strconv.Itoa0
import Derived.Shelf.Strconv.Itoa1
import Derived.Shelf.LaysM
import Derived.Shelf.Strconv.Itoa2
import Derived.Shelf.Strconv.Itoa3
import Derived.Shelf.Strings.Prefix
import Derived.Shelf.Bits.Mul64
import Derived.Shelf.Strings.Repeat
import Derived.Shelf.Slices.Reverse
import Derived.Shelf.Slices.Cells
import Derived.Lib.LaidTab
/-
  Plain mathematics of the numbers of layer 1: what clamping, wrapping, packing, unpacking, levels and digits are, and their laws.
-/
namespace Kv

def within (n lo hi : Int) : Int := if n < lo then lo else if hi < n then hi else n
def clamp (n top : Int) : Int := within n 0 (within top 0 1099511627776)
def room (top : Int) : Int := within top 0 1048576
def wrapI (n top : Int) : Int := n % (clamp top 1099511627776 + 1)
def packI (hi lo top : Int) : Int := room hi * (room top + 1) + within lo 0 (room top)
def unX (x : Int) : Int := within x 0 4398046511104
def unHi (x top : Int) : Int := unX x / (room top + 1)
def unLo (x top : Int) : Int := unX x % (room top + 1)

theorem within_bd (n lo hi : Int) (h : lo ≤ hi) : lo ≤ within n lo hi ∧ within n lo hi ≤ hi := by unfold within; omega
theorem within_id (n lo hi : Int) (h : lo ≤ n) (h' : n ≤ hi) : within n lo hi = n := by unfold within; omega
theorem clamp_bd (n top : Int) : 0 ≤ clamp n top ∧ clamp n top ≤ 1099511627776 := by unfold clamp within; omega
theorem room_bd (top : Int) : 0 ≤ room top ∧ room top ≤ 1048576 := by unfold room within; omega
theorem clamp_eq (n top : Int) (h : 0 ≤ top) (h' : top ≤ 1099511627776) : clamp n top = within n 0 top := by unfold clamp within; omega
theorem clamp_word (n : Int) : clamp n 1099511627776 = within n 0 1099511627776 := by unfold clamp within; omega
theorem clamp_room (n : Int) : clamp n 1048576 = room n := by unfold clamp room within; omega
theorem clamp_of_room (n top : Int) : clamp n (room top) = within n 0 (room top) := clamp_eq _ _ (room_bd top).1 (by have := (room_bd top).2; omega)

theorem tmod_neg_fix (n m : Int) (hm : 0 < m) (h : n.tmod m < 0) : n.tmod m + m = n % m := by
  have h1 := Int.tmod_eq_emod (a := n) (b := m)
  by_cases h0 : 0 ≤ n
  · have := Int.tmod_nonneg m h0; omega
  · rw [h1]
    have hd : ¬ m ∣ n := by
      intro hd
      have : n.tmod m = 0 := Int.tmod_eq_zero_of_dvd hd
      omega
    rw [if_neg (by simp [h0, hd])]
    have := Int.natAbs_of_nonneg (Int.le_of_lt hm)
    omega
theorem tmod_pos_fix (n m : Int) (hm : 0 < m) (h : 0 ≤ n.tmod m) : n.tmod m = n % m := by
  have h1 := Int.tmod_eq_emod (a := n) (b := m)
  have h2 := Int.emod_lt_of_pos n hm
  have h3 := Int.natAbs_of_nonneg (Int.le_of_lt hm)
  rw [h1]
  rw [h1] at h
  split at h <;> rename_i h'
  · rw [if_pos h']; omega
  · omega
theorem wrapI_bd (n top : Int) : 0 ≤ wrapI n top ∧ wrapI n top ≤ clamp top 1099511627776 := by
  unfold wrapI
  have := clamp_bd top 1099511627776
  have h1 := Int.emod_nonneg n (b := clamp top 1099511627776 + 1) (by omega)
  have h2 := Int.emod_lt_of_pos n (b := clamp top 1099511627776 + 1) (by omega)
  omega
theorem pack_bd (hi lo top : Int) : 0 ≤ packI hi lo top ∧ packI hi lo top ≤ 1099512676352 + 1048576 := by
  unfold packI
  have h1 := room_bd hi
  have h2 := room_bd top
  have h3 := within_bd lo 0 (room top) h2.1
  have h4 : 0 ≤ room hi * (room top + 1) := Int.mul_nonneg h1.1 (by omega)
  have h5 : room hi * (room top + 1) ≤ 1048576 * 1048577 := Int.mul_le_mul h1.2 (by omega) (by omega) (by omega)
  omega
theorem unX_bd (x : Int) : 0 ≤ unX x ∧ unX x ≤ 4398046511104 := by unfold unX within; omega

/-- How often 1 is doubled till it is not below n. -/
def levelsFrom (n : Nat) : Nat → Nat → Nat
  | 0, _ => 0
  | f + 1, p => if p < n then levelsFrom n f (2 * p) + 1 else 0
def levels (n : Int) : Nat := levelsFrom n.toNat 64 1

theorem bitLenAux_zero : ∀ f, Go.Lib.bitLenAux f 0 = 0
  | 0 => rfl
  | _ + 1 => by simp [Go.Lib.bitLenAux]
theorem levelsFrom_scale : ∀ (f n p : Nat), levelsFrom (n + 1) f (2 * p) = levelsFrom (n / 2 + 1) f p
  | 0, _, _ => rfl
  | f + 1, n, p => by
    simp only [levelsFrom]
    have h : (2 * p < n + 1) = (p < n / 2 + 1) := by apply propext; omega
    have ih := levelsFrom_scale f n (2 * p)
    by_cases hp : p < n / 2 + 1
    · rw [if_pos hp, if_pos (by rw [h]; exact hp), ih]
    · rw [if_neg hp, if_neg (by rw [h]; exact hp)]
theorem levelsFrom_bitLen : ∀ (f n : Nat), levelsFrom (n + 1) f 1 = Go.Lib.bitLenAux f n
  | 0, _ => rfl
  | f + 1, n => by
    simp only [levelsFrom, Go.Lib.bitLenAux]
    by_cases h : n = 0
    · subst h; simp
    · rw [if_pos (by omega), if_neg h]
      have h2 := levelsFrom_scale f n 1
      rw [h2, levelsFrom_bitLen f (n / 2), Nat.add_comm]
theorem levels_bitLen (n : Int) (h : 1 < n) : (levels n) = Go.Lib.bitLen (n - 1).toNat := by
  unfold levels Go.Lib.bitLen
  have := levelsFrom_bitLen 64 (n - 1).toNat
  rw [← this]
  congr 1
  omega
theorem levels_small (n : Int) (h : n ≤ 1) : levels n = 0 := by
  show (if 1 < n.toNat then _ else 0) = 0
  rw [if_neg (by omega)]
theorem levelsFrom_le : ∀ f n p, levelsFrom n f p ≤ f
  | 0, _, _ => Nat.le_refl _
  | f + 1, n, p => by
    simp only [levelsFrom]
    have := levelsFrom_le f n (2 * p)
    split <;> omega
theorem levels_le (n : Int) : levels n ≤ 64 := levelsFrom_le _ _ _
/-- One doubling more. -/
theorem levelsFrom_step (n f p : Nat) (h : p < n) : levelsFrom n (f + 1) p = levelsFrom n f (2 * p) + 1 := by simp [levelsFrom, h]

/-- The decimal text of a number, as bytes. -/
def digits (n : Int) : List UInt8 := Go.Lib.itoa n

/-- The document's digits of a number not above 0, ahead of what is there. -/
theorem decDigits_step (u : Nat) (h : 10 ≤ u) : Go.Lib.decDigits u = Go.Lib.decDigits (u / 10) ++ [UInt8.ofNat (48 + u % 10)] := by
  rw [Go.Lib.decDigits, dif_neg (by omega)]
theorem decDigits_one (u : Nat) (h : u < 10) : Go.Lib.decDigits u = [UInt8.ofNat (48 + u)] := by
  rw [Go.Lib.decDigits, dif_pos h]
end Kv
/-
  What all walks of this seat import: the kit's words, min and max in plain words, small closing lemmas.
-/
namespace Go.Proofs.YtiahgcaenneonaaDoor
open Go.RowKit Kv
@[go_sem high] theorem run_min_ints3 {P : Program} (w : World) (ts : Array TypeId) (t : TypeId) (k k' k'' : IntKind) (x y z : Int) :
    (Builtin.min_ ts t #[.int k x, .int k' y, .int k'' z]).run P w = .ok (.int k (min (min x y) z)) w := by
  have e : ∀ a b : Int, (if b < a then b else a) = min a b := by intro a b; rw [Int.min_def]; split <;> split <;> omega
  simp [Builtin.min_, Builtin.min2, e]
theorem ret_int {k : IntKind} {a b : Int} (h : a = b) : Ending.returned (.int k a) = .returned (.int k b) := by rw [h]
theorem ret_int2 {k : IntKind} {a b c d : Int} (h : a = b) (h' : c = d) : Ending.returned (.tuple #[.int k a, .int k c]) = .returned (.tuple #[.int k b, .int k d]) := by rw [h, h']
theorem ret_bool {a b : Bool} (h : a = b) : Ending.returned (.bool a) = .returned (.bool b) := by rw [h]
theorem w64 (x : Int) (h : -9223372036854775808 ≤ x) (h' : x ≤ 9223372036854775807) : wrap64 x = x := by unfold wrap64; omega
/-- The world is as it was but for draws. -/
def Drew (w w' : World) : Prop := ∃ n, w' = w.drewN n
theorem Drew.rfl' (w : World) : Drew w w := ⟨0, rfl⟩
theorem Drew.mk' (w : World) (n : Nat) : Drew w (w.drewN n) := ⟨n, rfl⟩
theorem Drew.trans {a b c : World} (h : Drew a b) (k : Drew b c) : Drew a c := by
  obtain ⟨n, rfl⟩ := h
  obtain ⟨m, rfl⟩ := k
  exact ⟨n + m, by simp⟩
theorem Drew.below {w w' : World} (B : Nat) (h : Drew w w') : Below B w w' := by
  obtain ⟨n, rfl⟩ := h
  exact ⟨rfl, rfl, rfl, Nat.le_refl _, fun _ _ => rfl⟩
end Go.Proofs.YtiahgcaenneonaaDoor
/-
  Plain mathematics of float64: what a word stands for, in units of 2^-1074; whole numbers below 2^53 are added, taken away and multiplied exactly.
-/
namespace Kv
open Ieee
def eU : Nat := 1074
theorem eU_eq : eU = 1074 := rfl
def U : Nat := 2 ^ eU
theorem U_split (a b : Nat) (h : a + b = 1074) : 2 ^ a * 2 ^ b = U := by
  unfold U; rw [eU_eq, ← h, Nat.pow_add]
theorem U_pos : 0 < U := Nat.two_pow_pos eU
abbrev D : Format := Ieee.double
theorem D_binade : D.binade = 4503599627370496 := rfl
theorem D_sign : D.signWeight = 9223372036854775808 := rfl
theorem D_least : D.leastPlace = -1074 := rfl
theorem D_inf : D.infRung = 9218868437227405312 := rfl
theorem D_frac : D.fractionBits = 52 := rfl

theorem signed_pow (s : Bool) (m u k : Nat) : signed s m (u + k) = signed s m u * (2 ^ k : Nat) := by
  unfold signed
  rw [Nat.shiftLeft_eq, Nat.shiftLeft_eq, Nat.pow_add, ← Nat.mul_assoc]
  split
  · rw [Int.natCast_mul, Int.neg_mul]
  · rw [Int.natCast_mul]
/-- The word stands for v units of 2^-1074. -/
def Num (x : Nat) (v : Int) : Prop := ∃ s m p, D.read x = .number s m p ∧ -1074 ≤ p ∧ m < 9007199254740992 ∧ signed s m (p + 1074).toNat = v
theorem read_number {x : Nat} {s : Bool} {m : Nat} {p : Int} (h : D.read x = .number s m p) : -1074 ≤ p ∧ m < 9007199254740992 := by
  unfold Format.read at h
  rw [D_binade, D_sign, D_least, D_inf] at h
  dsimp only at h
  split at h
  · injection h with h1 h2 h3
    omega
  · split at h
    · injection h with h1 h2 h3
      omega
    · split at h <;> cases h
theorem num_of {x : Nat} {s : Bool} {m : Nat} {p : Int} (h : D.read x = .number s m p) : Num x (signed s m (p + 1074).toNat) :=
  ⟨s, m, p, h, (read_number h).1, (read_number h).2, rfl⟩
theorem compare_mul (a b k : Int) (hk : 0 < k) : compare (a * k) (b * k) = compare a b := by
  rcases Int.lt_trichotomy a b with h | h | h
  · rw [Int.compare_eq_lt.2 h, Int.compare_eq_lt.2 (Int.mul_lt_mul_of_pos_right h hk)]
  · subst h; rw [Int.compare_eq_eq.2 rfl, Int.compare_eq_eq.2 rfl]
  · rw [Int.compare_eq_gt.2 h, Int.compare_eq_gt.2 (Int.mul_lt_mul_of_pos_right h hk)]
theorem order_num {x y : Nat} {a b : Int} (hx : Num x a) (hy : Num y b) : D.order x y = some (compare a b) := by
  obtain ⟨s, m, p, h1, h2, _, rfl⟩ := hx
  obtain ⟨t, n, q, k1, k2, _, rfl⟩ := hy
  unfold Format.order
  rw [h1, k1]
  show some (compare (signed s m (p - min p q).toNat) (signed t n (q - min p q).toNat)) = _
  have e1 : (p + 1074).toNat = (p - min p q).toNat + (min p q + 1074).toNat := by omega
  have e2 : (q + 1074).toNat = (q - min p q).toNat + (min p q + 1074).toNat := by omega
  rw [e1, e2, signed_pow, signed_pow, compare_mul]
  have := Nat.two_pow_pos (min p q + 1074).toNat
  omega

theorem log2_mul_pow (m k : Nat) (hm : m ≠ 0) : (m * 2 ^ k).log2 = m.log2 + k := by
  have hp := Nat.two_pow_pos k
  have h1 := Nat.log2_self_le hm
  have h2 := Nat.lt_log2_self (n := m)
  rw [Nat.log2_eq_iff (by have := Nat.mul_pos (Nat.pos_of_ne_zero hm) hp; omega)]
  constructor
  · rw [Nat.pow_add]; exact Nat.mul_le_mul_right _ h1
  · rw [show m.log2 + k + 1 = (m.log2 + 1) + k from by omega, Nat.pow_add 2 (m.log2 + 1) k]
    exact Nat.mul_lt_mul_of_pos_right h2 hp
/-- The rung of a whole number. -/
def rungOf (N : Nat) : Nat := (N.log2 + 1022) * 4503599627370496 + N * 2 ^ (52 - N.log2)
theorem log2_le52 {N : Nat} (h0 : N ≠ 0) (h : N < 9007199254740992) : N.log2 ≤ 52 := by
  have : N.log2 < 53 := (Nat.log2_lt h0).2 (by simpa using h)
  omega
theorem kept_bounds {N : Nat} (h0 : N ≠ 0) (h : N < 9007199254740992) : 4503599627370496 ≤ N * 2 ^ (52 - N.log2) ∧ N * 2 ^ (52 - N.log2) < 9007199254740992 := by
  have hL := log2_le52 h0 h
  have h1 := Nat.log2_self_le h0
  have h2 := Nat.lt_log2_self (n := N)
  have hp := Nat.two_pow_pos (52 - N.log2)
  constructor
  · have : 2 ^ N.log2 * 2 ^ (52 - N.log2) ≤ N * 2 ^ (52 - N.log2) := Nat.mul_le_mul_right _ h1
    rw [← Nat.pow_add, show N.log2 + (52 - N.log2) = 52 from by omega] at this
    simpa using this
  · have : N * 2 ^ (52 - N.log2) < 2 ^ (N.log2 + 1) * 2 ^ (52 - N.log2) := Nat.mul_lt_mul_of_pos_right h2 hp
    rw [← Nat.pow_add, show N.log2 + 1 + (52 - N.log2) = 53 from by omega] at this
    simpa using this
theorem cut_zero (neg : Bool) (n : Nat) : Toward.even.cut neg n 0 = n := by
  unfold Toward.cut
  simp [Nat.mod_one]
theorem cut_exact (neg : Bool) (K drop : Nat) (hK : K ≠ 0) : Toward.even.cut neg (K * 2 ^ drop) drop = K := by
  unfold Toward.cut
  have hm : min drop ((K * 2 ^ drop).log2 + 2) = drop := by rw [log2_mul_pow _ _ hK]; omega
  have hp := Nat.two_pow_pos drop
  simp only [hm, Nat.one_shiftLeft, Nat.mul_div_cancel _ hp, Nat.mul_mod_left]
  have h1 : decide (2 ^ drop < 2 * 0) = false := by simp
  have h2 : (2 ^ drop == 2 * 0) = false := by rw [beq_eq_false_iff_ne]; omega
  rw [h1, h2]
  rfl
theorem nearest_whole (neg : Bool) (mag : Nat) (place : Int) (N : Nat) (hp : -1074 ≤ place) (h0 : N ≠ 0) (hN : N < 9007199254740992) (h : mag * 2 ^ (place + 1074).toNat = N * U) :
    D.nearest neg mag place = D.word neg (rungOf N) := by
  have hL := log2_le52 h0 hN
  have hm0 : mag ≠ 0 := by
    rintro rfl
    rw [Nat.zero_mul] at h
    have := Nat.mul_pos (Nat.pos_of_ne_zero h0) U_pos
    omega
  have hlog : (mag.log2 : Int) + place = N.log2 := by
    have e1 := log2_mul_pow mag (place + 1074).toNat hm0
    have e2 := log2_mul_pow N eU h0
    rw [h] at e1
    have e3 : N * U = N * 2 ^ eU := rfl
    rw [e3, e2, eU_eq] at e1
    omega
  have hlast : max (place + mag.log2 - (D.fractionBits : Int)) D.leastPlace = (N.log2 : Int) - 52 := by rw [D_frac, D_least]; omega
  have hkept : Toward.even.cut neg (mag <<< (place - ((N.log2 : Int) - 52)).toNat) (((N.log2 : Int) - 52) - place).toNat = N * 2 ^ (52 - N.log2) := by
    rw [Nat.shiftLeft_eq]
    by_cases hc : (N.log2 : Int) - 52 ≤ place
    · rw [show (((N.log2 : Int) - 52) - place).toNat = 0 from by omega, cut_zero]
      have hq := Nat.two_pow_pos (N.log2 + 1022)
      refine Nat.eq_of_mul_eq_mul_right hq ?_
      rw [Nat.mul_assoc, ← Nat.pow_add, Nat.mul_assoc, U_split _ _ (by omega), ← h]
      congr 2
      omega
    · rw [show (place - ((N.log2 : Int) - 52)).toNat = 0 from by omega, Nat.pow_zero, Nat.mul_one]
      have hmag : mag = N * 2 ^ (52 - N.log2) * 2 ^ (((N.log2 : Int) - 52) - place).toNat := by
        have hq := Nat.two_pow_pos (place + 1074).toNat
        refine Nat.eq_of_mul_eq_mul_right hq ?_
        rw [Nat.mul_assoc, Nat.mul_assoc, ← Nat.pow_add, U_split _ _ (by omega), h]
      have hK : N * 2 ^ (52 - N.log2) ≠ 0 := by have := (kept_bounds h0 hN).1; omega
      rw [hmag, cut_exact _ _ _ hK]
  unfold Format.nearest
  rw [if_neg hm0]
  simp only [hlast]
  rw [hkept]
  congr 1
  have hb := (kept_bounds h0 hN).2
  rw [D_least, D_binade, D_inf, show ((N.log2 : Int) - 52 - -1074).toNat = N.log2 + 1022 from by omega]
  unfold rungOf
  have : (N.log2 + 1022) * 4503599627370496 ≤ 1074 * 4503599627370496 := Nat.mul_le_mul_right _ (by omega)
  omega
theorem word_sign (neg : Bool) (r : Nat) (h : r < 9223372036854775808) : (D.word neg r / 9223372036854775808 % 2 == 1) = neg ∧ D.word neg r % 9223372036854775808 = r := by
  unfold Format.word
  rw [D_sign]
  cases neg
  · simp
    omega
  · simp
    omega
theorem num_word (neg : Bool) (N : Nat) (h0 : N ≠ 0) (hN : N < 9007199254740992) : Num (D.word neg (rungOf N)) (signed neg N 0 * U) := by
  have hL := log2_le52 h0 hN
  obtain ⟨hb1, hb2⟩ := kept_bounds h0 hN
  have hr : D.read (D.word neg (rungOf N)) = .number neg (N * 2 ^ (52 - N.log2)) ((N.log2 : Int) - 52) := by
    have hlt : rungOf N < 9218868437227405312 := by
      unfold rungOf
      have : (N.log2 + 1022) * 4503599627370496 ≤ 1074 * 4503599627370496 := Nat.mul_le_mul_right _ (by omega)
      omega
    obtain ⟨w1, w2⟩ := word_sign neg (rungOf N) (by omega)
    unfold Format.read
    rw [D_sign, D_binade, D_inf, D_least]
    simp only [w1, w2]
    have hge : 4503599627370496 ≤ rungOf N := by unfold rungOf; omega
    rw [if_neg (by omega), if_pos hlt]
    have hdiv : rungOf N / 4503599627370496 = N.log2 + 1023 := by unfold rungOf; omega
    have hmod : rungOf N % 4503599627370496 = N * 2 ^ (52 - N.log2) - 4503599627370496 := by unfold rungOf; omega
    rw [hdiv, hmod]
    rw [show 4503599627370496 + (N * 2 ^ (52 - N.log2) - 4503599627370496) = N * 2 ^ (52 - N.log2) from by omega, show (-1074 : Int) + ((N.log2 + 1023 - 1 : Nat) : Int) = (N.log2 : Int) - 52 from by omega]
  refine ⟨neg, _, _, hr, by omega, hb2, ?_⟩
  unfold signed
  have e : (N * 2 ^ (52 - N.log2)) <<< ((N.log2 : Int) - 52 + 1074).toNat = N * U := by
    rw [Nat.shiftLeft_eq, Nat.mul_assoc, U_split _ _ (by omega)]
  rw [e, Nat.shiftLeft_zero]
  split
  · rw [Int.natCast_mul, Int.neg_mul]
  · rw [Int.natCast_mul]
theorem num_zero (neg : Bool) : Num (D.word neg 0) 0 := by
  obtain ⟨w1, w2⟩ := word_sign neg 0 (by omega)
  have hr : D.read (D.word neg 0) = .number neg 0 (-1074) := by
    unfold Format.read
    rw [D_sign, D_binade, D_inf, D_least]
    dsimp only
    rw [w1, w2, if_pos (by omega)]
  refine ⟨neg, 0, -1074, hr, by omega, by omega, ?_⟩
  unfold signed
  simp
/-- What is written of an exact whole number stands for it. -/
theorem num_nearest (neg : Bool) (mag : Nat) (place : Int) (v : Int) (hp : -1074 ≤ place) (h1 : -9007199254740992 < v) (h2 : v < 9007199254740992) (h : signed neg mag (place + 1074).toNat = v * U) :
    Num (D.nearest neg mag place) (v * U) := by
  have hU := U_pos
  by_cases hm : mag = 0
  · subst hm
    have hv : v * U = 0 := by rw [← h]; unfold signed; simp
    rw [hv]
    unfold Format.nearest
    rw [if_pos rfl]
    exact num_zero neg
  · unfold signed at h
    rw [Nat.shiftLeft_eq] at h
    have hmp := Nat.mul_pos (Nat.pos_of_ne_zero hm) (Nat.two_pow_pos (place + 1074).toNat)
    have hN : mag * 2 ^ (place + 1074).toNat = v.natAbs * U ∧ signed neg v.natAbs 0 = v := by
      cases neg
      · simp only [Bool.false_eq_true, if_false] at h
        have hv : 0 < v := by
          refine Decidable.byContradiction fun hn => ?_
          have := Int.mul_le_mul_of_nonneg_right (show v ≤ 0 from by omega) (show (0 : Int) ≤ (U : Int) from by omega)
          omega
        have e : v = (v.natAbs : Int) := by omega
        refine ⟨?_, ?_⟩
        · rw [e, ← Int.natCast_mul] at h
          simpa using Int.ofNat.inj h
        · unfold signed; simp; omega
      · simp only [if_true] at h
        have hv : v < 0 := by
          refine Decidable.byContradiction fun hn => ?_
          have := Int.mul_nonneg (show 0 ≤ v from by omega) (show (0 : Int) ≤ (U : Int) from by omega)
          omega
        have e : v = -(v.natAbs : Int) := by omega
        refine ⟨?_, ?_⟩
        · rw [e, Int.neg_mul, ← Int.natCast_mul] at h
          have h' := Int.neg_inj.1 h
          simpa using Int.ofNat.inj h'
        · unfold signed; simp; omega
    have h0 : v.natAbs ≠ 0 := by
      intro e
      rw [e, Nat.zero_mul] at hN
      omega
    rw [nearest_whole neg mag place v.natAbs hp h0 (by omega) hN.1]
    have := num_word neg v.natAbs h0 (by omega)
    rw [hN.2] at this
    exact this
end Kv
/-
  Plain mathematics of float64: exact operations on whole numbers; cutting to an integer; comparing with a whole number.
-/
namespace Kv
open Ieee
def DNum (d : Datum) (v : Int) : Prop := ∃ s m p, d = .number s m p ∧ -1074 ≤ p ∧ m < 9007199254740992 ∧ signed s m (p + 1074).toNat = v
theorem Num.d {x : Nat} {v : Int} (h : Num x v) : DNum (D.read x) v := h
theorem DNum.opposite {d : Datum} {v : Int} (h : DNum d v) : DNum d.opposite (-v) := by
  obtain ⟨s, m, p, rfl, h1, h2, rfl⟩ := h
  refine ⟨!s, m, p, rfl, h1, h2, ?_⟩
  unfold signed
  cases s <;> simp
theorem signed_zero_mag (s : Bool) (k : Nat) : signed s 0 k = 0 := by unfold signed; simp
theorem signed_abs (t : Int) (s : Bool) (hs : t ≠ 0 → s = decide (t < 0)) (k : Nat) : signed s t.natAbs k = t * (2 ^ k : Nat) := by
  by_cases h0 : t = 0
  · subst h0; rw [Int.natAbs_zero, signed_zero_mag, Int.zero_mul]
  · rw [hs h0]
    unfold signed
    rw [Nat.shiftLeft_eq, Int.natCast_mul]
    by_cases h : t < 0
    · rw [decide_eq_true h, if_pos rfl, ← Int.neg_mul]
      congr 1
      omega
    · rw [decide_eq_false h, if_neg (by simp)]
      congr 1
      omega
theorem sum_dnum {d e : Datum} {u v : Int} (hd : DNum d (u * U)) (he : DNum e (v * U)) (h1 : -9007199254740992 < u + v) (h2 : u + v < 9007199254740992) :
    ∃ r, (d.sum e).map D.write = some r ∧ Num r ((u + v) * U) := by
  obtain ⟨s, m, p, rfl, a1, a2, a3⟩ := hd
  obtain ⟨t, n, q, rfl, b1, b2, b3⟩ := he
  refine ⟨_, rfl, ?_⟩
  show Num (D.nearest (if signed s m (p - min p q).toNat + signed t n (q - min p q).toNat = 0 then s && t else decide (signed s m (p - min p q).toNat + signed t n (q - min p q).toNat < 0)) (signed s m (p - min p q).toNat + signed t n (q - min p q).toNat).natAbs (min p q)) _
  refine num_nearest _ _ _ _ (by omega) h1 h2 ?_
  have e1 : (p + 1074).toNat = (p - min p q).toNat + (min p q + 1074).toNat := by omega
  have e2 : (q + 1074).toNat = (q - min p q).toNat + (min p q + 1074).toNat := by omega
  rw [e1, signed_pow] at a3
  rw [e2, signed_pow] at b3
  rw [signed_abs _ _ (fun h => by rw [if_neg h]), Int.add_mul, Int.add_mul, a3, b3]
theorem add_num {x y : Nat} {u v : Int} (hx : Num x (u * U)) (hy : Num y (v * U)) (h1 : -9007199254740992 < u + v) (h2 : u + v < 9007199254740992) :
    ∃ r, D.add x y = some r ∧ Num r ((u + v) * U) := sum_dnum hx.d hy.d h1 h2
theorem sub_num {x y : Nat} {u v : Int} (hx : Num x (u * U)) (hy : Num y (v * U)) (h1 : -9007199254740992 < u - v) (h2 : u - v < 9007199254740992) :
    ∃ r, D.sub x y = some r ∧ Num r ((u - v) * U) := by
  have := sum_dnum (u := u) (v := -v) hx.d (by have := hy.d.opposite; rwa [← Int.neg_mul] at this) (by omega) (by omega)
  rwa [← Int.sub_eq_add_neg] at this
def sg (s : Bool) : Int := if s then -1 else 1
theorem signed_sg (s : Bool) (m k : Nat) : signed s m k = sg s * ((m * 2 ^ k : Nat) : Int) := by
  unfold signed sg
  rw [Nat.shiftLeft_eq]
  cases s <;> simp
theorem sg_xor (s t : Bool) : sg (s ^^ t) = sg s * sg t := by cases s <;> cases t <;> rfl
theorem signed_natAbs (s : Bool) (m k : Nat) : (signed s m k).natAbs = m * 2 ^ k := by
  unfold signed
  rw [Nat.shiftLeft_eq]
  cases s
  · rw [if_neg (by simp), Int.natAbs_natCast]
  · rw [if_pos rfl, Int.natAbs_neg, Int.natAbs_natCast]
theorem imul4 (a b c d : Int) : a * b * (c * d) = a * c * (b * d) := by
  rw [Int.mul_assoc, Int.mul_assoc, Int.mul_left_comm b c d]
theorem place_ge {s : Bool} {m : Nat} {p u : Int} (hp : -1074 ≤ p) (hm : m < 9007199254740992) (hu : u ≠ 0) (h : signed s m (p + 1074).toNat = u * U) : -53 ≤ p := by
  refine Decidable.byContradiction fun hn => ?_
  have h1 : m * 2 ^ (p + 1074).toNat = u.natAbs * U := by rw [← signed_natAbs s, h, Int.natAbs_mul, Int.natAbs_natCast]
  have h2 : U ≤ u.natAbs * U := Nat.le_mul_of_pos_left _ (by omega)
  have h3 : m * 2 ^ (p + 1074).toNat < 9007199254740992 * 2 ^ (p + 1074).toNat := Nat.mul_lt_mul_of_pos_right hm (Nat.two_pow_pos _)
  have h4 : (9007199254740992 : Nat) = 2 ^ 53 := rfl
  have h5 : 2 ^ 53 * 2 ^ (p + 1074).toNat ≤ U := by
    rw [← U_split 53 (eU - 53) (by rw [eU_eq])]
    exact Nat.mul_le_mul_left _ (Nat.pow_le_pow_right (by omega) (by rw [eU_eq]; omega))
  rw [h4] at h3
  omega
theorem mul_num {x y : Nat} {u v : Int} (hx : Num x (u * U)) (hy : Num y (v * U)) (h1 : -9007199254740992 < u * v) (h2 : u * v < 9007199254740992) :
    ∃ r, D.mul x y = some r ∧ Num r ((u * v) * U) := by
  obtain ⟨s, m, p, k1, a1, a2, a3⟩ := hx
  obtain ⟨t, n, q, l1, b1, b2, b3⟩ := hy
  refine ⟨D.nearest (s ^^ t) (m * n) (p + q), ?_, ?_⟩
  · unfold Format.mul
    rw [k1, l1]
    rfl
  · have hU := U_pos
    by_cases hz : u = 0 ∨ v = 0
    · have hmn : m * n = 0 := by
        rcases hz with rfl | rfl
        · have e := signed_natAbs s m (p + 1074).toNat
          rw [a3, Int.zero_mul] at e
          have := Nat.two_pow_pos (p + 1074).toNat
          have : m = 0 := by
            rcases Nat.mul_eq_zero.1 e.symm with h | h
            · exact h
            · omega
          rw [this, Nat.zero_mul]
        · have e := signed_natAbs t n (q + 1074).toNat
          rw [b3, Int.zero_mul] at e
          have := Nat.two_pow_pos (q + 1074).toNat
          have : n = 0 := by
            rcases Nat.mul_eq_zero.1 e.symm with h | h
            · exact h
            · omega
          rw [this, Nat.mul_zero]
      have huv : u * v = 0 := by rcases hz with rfl | rfl <;> simp
      rw [hmn, huv, Int.zero_mul]
      unfold Format.nearest
      rw [if_pos rfl]
      exact num_zero _
    · have p1 := place_ge a1 a2 (fun h => hz (.inl h)) a3
      have p2 := place_ge b1 b2 (fun h => hz (.inr h)) b3
      refine num_nearest _ _ _ _ (by omega) h1 h2 ?_
      have hUi : ((U : Nat) : Int) ≠ 0 := by omega
      refine Int.eq_of_mul_eq_mul_right hUi ?_
      rw [signed_sg] at a3 b3
      rw [signed_sg, sg_xor]
      have e : ((m * n * 2 ^ (p + q + 1074).toNat : Nat) : Int) * ((U : Nat) : Int) = ((m * 2 ^ (p + 1074).toNat : Nat) : Int) * ((n * 2 ^ (q + 1074).toNat : Nat) : Int) := by
        have hu : U = 2 ^ eU := rfl
        have e0 : 2 ^ (p + q + 1074).toNat * U = 2 ^ (p + 1074).toNat * 2 ^ (q + 1074).toNat := by
          have ee : (p + q + 1074).toNat + eU = (p + 1074).toNat + (q + 1074).toNat := by rw [eU_eq]; omega
          rw [hu, ← Nat.pow_add, ← Nat.pow_add, ee]
        rw [← Int.natCast_mul, ← Int.natCast_mul, Nat.mul_assoc (m * n), e0, Nat.mul_mul_mul_comm]
      rw [Int.mul_assoc, e, Int.mul_assoc u v, ← Int.mul_assoc u v]
      rw [show u * v * ((U : Nat) : Int) * ((U : Nat) : Int) = (u * ((U : Nat) : Int)) * (v * ((U : Nat) : Int)) from by
        rw [Int.mul_assoc (u * v), imul4], ← a3, ← b3, imul4]
/-- The word of a whole number. -/
theorem floatOfInt_eq (n : Int) : Go.floatOfInt .f64 n = D.nearest (decide (n < 0)) n.natAbs 0 := rfl
theorem num_F (n : Int) (h1 : -9007199254740992 < n) (h2 : n < 9007199254740992) : Num (Go.floatOfInt .f64 n) (n * U) := by
  rw [floatOfInt_eq]
  refine num_nearest (decide (n < 0)) n.natAbs 0 n (by omega) h1 h2 ?_
  rw [signed_abs _ _ (fun _ => rfl), show ((0 : Int) + 1074).toNat = eU from rfl]
  rfl
theorem toInt_num {x : Nat} {v : Int} (h : Num x v) : (D.read x).toInt .zero = some (v.tdiv (U : Int)) := by
  obtain ⟨s, m, p, h1, h2, h3, rfl⟩ := h
  rw [h1]
  show some (signed s (Toward.zero.cut s (m <<< p.toNat) (-p).toNat) 0) = _
  congr 1
  have hcut : Toward.zero.cut s (m <<< p.toNat) (-p).toNat = m * 2 ^ (p + 1074).toNat / U := by
    unfold Toward.cut
    simp only [Bool.toNat_false, Nat.add_zero]
    rw [Nat.one_shiftLeft, Nat.shiftLeft_eq]
    by_cases hp : 0 ≤ p
    · rw [show (-p).toNat = 0 from by omega, Nat.zero_min, Nat.pow_zero, Nat.div_one]
      have e : 2 ^ (p + 1074).toNat = 2 ^ p.toNat * U := by
        rw [show (p + 1074).toNat = p.toNat + eU from by rw [eU_eq]; omega, Nat.pow_add]
        rfl
      rw [e, ← Nat.mul_assoc, Nat.mul_div_cancel _ U_pos]
    · rw [show p.toNat = 0 from by omega, Nat.pow_zero, Nat.mul_one]
      have e := U_split (-p).toNat (p + 1074).toNat (by omega)
      rw [← e, Nat.mul_div_mul_right _ _ (Nat.two_pow_pos _)]
      by_cases hd : (-p).toNat ≤ m.log2 + 2
      · rw [Nat.min_eq_left hd]
      · rw [Nat.min_eq_right (by omega)]
        have hm := Nat.lt_log2_self (n := m)
        have q1 : m < 2 ^ (m.log2 + 2) := Nat.lt_of_lt_of_le hm (Nat.pow_le_pow_right (by omega) (by omega))
        have q2 : m < 2 ^ (-p).toNat := Nat.lt_of_lt_of_le hm (Nat.pow_le_pow_right (by omega) (by omega))
        rw [Nat.div_eq_of_lt q1, Nat.div_eq_of_lt q2]
  rw [hcut]
  unfold signed
  rw [Nat.shiftLeft_zero, Nat.shiftLeft_eq]
  cases s
  · simp only [Bool.false_eq_true, if_false]
    rw [Int.ofNat_tdiv]
  · simp only [if_true]
    rw [Int.neg_tdiv, Int.ofNat_tdiv]
end Kv
/-
  Plain mathematics of float64: which words are parts (whole numbers from -2^20 to 2^20), and how they compare.
-/
namespace Kv
open Ieee
theorem num_uniq {x : Nat} {a b : Int} (h : Num x a) (k : Num x b) : a = b := by
  obtain ⟨s, m, p, h1, _, _, rfl⟩ := h
  obtain ⟨t, n, q, k1, _, _, rfl⟩ := k
  rw [h1] at k1
  injection k1 with e1 e2 e3
  subst e1 e2 e3
  rfl
theorem leqB {x y : Nat} {a b : Int} (hx : Num x a) (hy : Num y b) : (Go.FloatKind.f64.format.order x y == some Ordering.lt || Go.FloatKind.f64.format.order x y == some Ordering.eq) = decide (a ≤ b) := by
  have h : Go.FloatKind.f64.format.order x y = some (compare a b) := order_num hx hy
  rw [h]
  rcases Int.lt_trichotomy a b with h | h | h
  · rw [Int.compare_eq_lt.2 h, decide_eq_true (by omega)]; rfl
  · subst h; rw [Int.compare_eq_eq.2 rfl, decide_eq_true (by omega)]; rfl
  · rw [Int.compare_eq_gt.2 h, decide_eq_false (by omega)]; rfl
theorem geqB {x y : Nat} {a b : Int} (hx : Num x a) (hy : Num y b) : (Go.FloatKind.f64.format.order x y == some Ordering.gt || Go.FloatKind.f64.format.order x y == some Ordering.eq) = decide (b ≤ a) := by
  have h : Go.FloatKind.f64.format.order x y = some (compare a b) := order_num hx hy
  rw [h]
  rcases Int.lt_trichotomy a b with h | h | h
  · rw [Int.compare_eq_lt.2 h, decide_eq_false (by omega)]; rfl
  · subst h; rw [Int.compare_eq_eq.2 rfl, decide_eq_true (by omega)]; rfl
  · rw [Int.compare_eq_gt.2 h, decide_eq_true (by omega)]; rfl
theorem ltB {x y : Nat} {a b : Int} (hx : Num x a) (hy : Num y b) : (Go.FloatKind.f64.format.order x y == some Ordering.lt) = decide (a < b) := by
  have h : Go.FloatKind.f64.format.order x y = some (compare a b) := order_num hx hy
  rw [h]
  rcases Int.lt_trichotomy a b with h | h | h
  · rw [Int.compare_eq_lt.2 h, decide_eq_true (by omega)]; rfl
  · subst h; rw [Int.compare_eq_eq.2 rfl, decide_eq_false (by omega)]; rfl
  · rw [Int.compare_eq_gt.2 h, decide_eq_false (by omega)]; rfl
theorem gtB {x y : Nat} {a b : Int} (hx : Num x a) (hy : Num y b) : (Go.FloatKind.f64.format.order x y == some Ordering.gt) = decide (b < a) := by
  have h : Go.FloatKind.f64.format.order x y = some (compare a b) := order_num hx hy
  rw [h]
  rcases Int.lt_trichotomy a b with h | h | h
  · rw [Int.compare_eq_lt.2 h, decide_eq_false (by omega)]; rfl
  · subst h; rw [Int.compare_eq_eq.2 rfl, decide_eq_false (by omega)]; rfl
  · rw [Int.compare_eq_gt.2 h, decide_eq_true (by omega)]; rfl
theorem eqB {x y : Nat} {a b : Int} (hx : Num x a) (hy : Num y b) : (Go.FloatKind.f64.format.order x y == some Ordering.eq) = decide (a = b) := by
  have h : Go.FloatKind.f64.format.order x y = some (compare a b) := order_num hx hy
  rw [h]
  rcases Int.lt_trichotomy a b with h | h | h
  · rw [Int.compare_eq_lt.2 h, decide_eq_false (by omega)]; rfl
  · subst h; rw [Int.compare_eq_eq.2 rfl, decide_eq_true (by omega)]; rfl
  · rw [Int.compare_eq_gt.2 h, decide_eq_false (by omega)]; rfl
theorem neB {x y : Nat} {a b : Int} (hx : Num x a) (hy : Num y b) : (Go.FloatKind.f64.format.order x y != some Ordering.eq) = decide (a ≠ b) := by
  have h := eqB hx hy
  unfold bne
  rw [h]
  simp
theorem cLo : Go.floatOfInt .f64 (-1048576) = 13920626448202203136 := by decide +kernel
theorem cHi : Go.floatOfInt .f64 1048576 = 4697254411347427328 := by decide +kernel
theorem num_lo : Num 13920626448202203136 (-1048576 * U) := by rw [← cLo]; exact num_F _ (by omega) (by omega)
theorem num_hi : Num 4697254411347427328 (1048576 * U) := by rw [← cHi]; exact num_F _ (by omega) (by omega)
/-- The part that a word is. -/
def partOf (x : Nat) : Option Int :=
  match D.read x with
  | .number s m p => if signed s m (p + 1074).toNat % (U : Int) = 0 ∧ -1048576 * (U : Int) ≤ signed s m (p + 1074).toNat ∧ signed s m (p + 1074).toNat ≤ 1048576 * (U : Int) then some (signed s m (p + 1074).toNat / (U : Int)) else none
  | _ => none
theorem partOf_num {x : Nat} {v : Int} (h : Num x v) : partOf x = if v % (U : Int) = 0 ∧ -1048576 * (U : Int) ≤ v ∧ v ≤ 1048576 * (U : Int) then some (v / (U : Int)) else none := by
  obtain ⟨s, m, p, h1, _, _, rfl⟩ := h
  unfold partOf
  rw [h1]
theorem Ui_pos : (0 : Int) < (U : Int) := by have := U_pos; omega
theorem le_of_mulU {a b : Int} (h : a * (U : Int) ≤ b * (U : Int)) : a ≤ b := Int.le_of_mul_le_mul_right h Ui_pos
theorem lt_of_mulU {a b : Int} (h : a * (U : Int) < b * (U : Int)) : a < b := Int.lt_of_mul_lt_mul_right h (by have := Ui_pos; omega)
theorem mulU_le {a b : Int} (h : a ≤ b) : a * (U : Int) ≤ b * (U : Int) := Int.mul_le_mul_of_nonneg_right h (by have := Ui_pos; omega)
theorem mulU_lt {a b : Int} (h : a < b) : a * (U : Int) < b * (U : Int) := Int.mul_lt_mul_of_pos_right h Ui_pos
theorem mulU_inj {a b : Int} (h : a * (U : Int) = b * (U : Int)) : a = b := Int.eq_of_mul_eq_mul_right (by have := Ui_pos; omega) h
theorem decU_le (a b : Int) : decide (a * (U : Int) ≤ b * (U : Int)) = decide (a ≤ b) := by
  rw [decide_eq_decide]; exact ⟨le_of_mulU, mulU_le⟩
theorem decU_lt (a b : Int) : decide (a * (U : Int) < b * (U : Int)) = decide (a < b) := by
  rw [decide_eq_decide]; exact ⟨lt_of_mulU, mulU_lt⟩
theorem decU_eq (a b : Int) : decide (a * (U : Int) = b * (U : Int)) = decide (a = b) := by
  rw [decide_eq_decide]; exact ⟨mulU_inj, fun h => by rw [h]⟩
theorem partOf_whole {x : Nat} {n : Int} (h : Num x (n * U)) (h1 : -1048576 ≤ n) (h2 : n ≤ 1048576) : partOf x = some n := by
  rw [partOf_num h, if_pos ⟨Int.mul_emod_left _ _, mulU_le h1, mulU_le h2⟩, Int.mul_ediv_cancel _ (by have := Ui_pos; omega)]
theorem partOf_F {n : Int} (h1 : -1048576 ≤ n) (h2 : n ≤ 1048576) : partOf (Go.floatOfInt .f64 n) = some n :=
  partOf_whole (num_F n (by omega) (by omega)) h1 h2
/-- What a word may be. -/
inductive Cls (x : Nat) : Prop
  | whole (n : Int) (h : Num x (n * U)) (h1 : -1048576 ≤ n) (h2 : n ≤ 1048576) (hp : partOf x = some n)
  | broken (v : Int) (h : Num x v) (h1 : -1048576 * (U : Int) ≤ v) (h2 : v ≤ 1048576 * (U : Int)) (h3 : v % (U : Int) ≠ 0) (hp : partOf x = none)
  | low (h : Go.FloatKind.f64.format.order x 13920626448202203136 = some Ordering.lt) (h2 : Go.FloatKind.f64.format.order x x = some Ordering.eq) (hp : partOf x = none)
  | high (h : Go.FloatKind.f64.format.order x 13920626448202203136 = some Ordering.gt) (h1 : Go.FloatKind.f64.format.order x 4697254411347427328 = some Ordering.gt) (h2 : Go.FloatKind.f64.format.order x x = some Ordering.eq) (hp : partOf x = none)
  | nan (h : ∀ y, Go.FloatKind.f64.format.order x y = none) (hp : partOf x = none)
theorem cls_of (x : Nat) : Cls x := by
  have hU := Ui_pos
  cases hr : D.read x with
  | number s m p =>
    have hn := num_of hr
    generalize signed s m (p + 1074).toNat = v at hn
    by_cases h1 : v < -1048576 * (U : Int)
    · refine .low ?_ ?_ ?_
      · show D.order _ _ = _
        rw [order_num hn num_lo, Int.compare_eq_lt.2 h1]
      · show D.order _ _ = _
        rw [order_num hn hn, Int.compare_eq_eq.2 rfl]
      · rw [partOf_num hn, if_neg (by omega)]
    · by_cases h2 : 1048576 * (U : Int) < v
      · refine .high ?_ ?_ ?_ ?_
        · show D.order _ _ = _
          rw [order_num hn num_lo, Int.compare_eq_gt.2 (by omega)]
        · show D.order _ _ = _
          rw [order_num hn num_hi, Int.compare_eq_gt.2 h2]
        · show D.order _ _ = _
          rw [order_num hn hn, Int.compare_eq_eq.2 rfl]
        · rw [partOf_num hn, if_neg (by omega)]
      · by_cases h3 : v % (U : Int) = 0
        · have e : v = v / (U : Int) * (U : Int) := by
            have := Int.mul_ediv_add_emod v U
            rw [h3, Int.add_zero, Int.mul_comm] at this
            exact this.symm
          rw [e] at hn h1 h2
          have q1 : -1048576 ≤ v / (U : Int) := le_of_mulU (by omega)
          have q2 : v / (U : Int) ≤ 1048576 := le_of_mulU (by omega)
          exact .whole _ hn q1 q2 (partOf_whole hn q1 q2)
        · exact .broken v hn (by omega) (by omega) h3 (by rw [partOf_num hn, if_neg (by omega)])
  | infinity s =>
    have hl : D.read 13920626448202203136 = .number true 4503599627370496 (-32) := by decide +kernel
    have hh : D.read 4697254411347427328 = .number false 4503599627370496 (-32) := by decide +kernel
    have hp : partOf x = none := by unfold partOf; rw [hr]
    have hxx : Go.FloatKind.f64.format.order x x = some Ordering.eq := by
      show (D.read x).order (D.read x) = _
      rw [hr]
      cases s <;> rfl
    cases s
    · refine .high ?_ ?_ hxx hp
      · show (D.read x).order (D.read _) = _
        rw [hr, hl]; rfl
      · show (D.read x).order (D.read _) = _
        rw [hr, hh]; rfl
    · refine .low ?_ hxx hp
      show (D.read x).order (D.read _) = _
      rw [hr, hl]; rfl
  | nan s t =>
    refine .nan (fun y => ?_) (by unfold partOf; rw [hr])
    show (D.read x).order (D.read y) = _
    rw [hr]; rfl
theorem partOf_some {x : Nat} {n : Int} (h : partOf x = some n) : Num x (n * U) ∧ -1048576 ≤ n ∧ n ≤ 1048576 := by
  cases cls_of x with
  | whole m hm h1 h2 hp => rw [hp] at h; cases h; exact ⟨hm, h1, h2⟩
  | broken _ _ _ _ _ hp => rw [hp] at h; cases h
  | low _ _ hp => rw [hp] at h; cases h
  | high _ _ _ hp => rw [hp] at h; cases h
  | nan _ hp => rw [hp] at h; cases h
/-- A broken number is cut to a whole one in the range, which it is not. -/
theorem broken_cut {v : Int} (h1 : -1048576 * (U : Int) ≤ v) (h2 : v ≤ 1048576 * (U : Int)) : -1048576 ≤ v.tdiv U ∧ v.tdiv U ≤ 1048576 := by
  have hU := Ui_pos
  have a1 := Int.mul_tdiv_add_tmod v U
  have a2 : -(U : Int) < v.tmod U := Int.lt_tmod_of_pos _ hU
  have a3 : v.tmod U < (U : Int) := Int.tmod_lt_of_pos _ hU
  rw [Int.mul_comm] at a1
  constructor
  · have : -1048577 * (U : Int) < v.tdiv U * (U : Int) := by omega
    have := lt_of_mulU this
    omega
  · have : v.tdiv U * (U : Int) < 1048577 * (U : Int) := by omega
    have := lt_of_mulU this
    omega
theorem broken_ne {v : Int} (n : Int) (h3 : v % (U : Int) ≠ 0) : n * (U : Int) ≠ v := by
  rintro rfl
  exact h3 (Int.mul_emod_left _ _)
theorem toInt_whole {x : Nat} {n : Int} (h : Num x (n * U)) (h1 : -1048576 ≤ n) (h2 : n ≤ 1048576) : Go.floatToIntVal .f64 x .i64 = some n := by
  have e : Go.FloatKind.f64.decode x = D.read x := rfl
  unfold Go.floatToIntVal
  rw [e, toInt_num h, Int.mul_tdiv_cancel _ (by have := Ui_pos; omega)]
  have : Go.IntKind.i64.min = -9223372036854775808 := rfl
  have : Go.IntKind.i64.max = 9223372036854775807 := rfl
  dsimp only
  rw [if_pos (by omega)]
theorem toInt_broken {x : Nat} {v : Int} (h : Num x v) (h1 : -1048576 * (U : Int) ≤ v) (h2 : v ≤ 1048576 * (U : Int)) : Go.floatToIntVal .f64 x .i64 = some (v.tdiv U) := by
  have e : Go.FloatKind.f64.decode x = D.read x := rfl
  obtain ⟨q1, q2⟩ := broken_cut h1 h2
  unfold Go.floatToIntVal
  rw [e, toInt_num h]
  have : Go.IntKind.i64.min = -9223372036854775808 := rfl
  have : Go.IntKind.i64.max = 9223372036854775807 := rfl
  dsimp only
  rw [if_pos (by omega)]
end Kv
/-
  The frame of a call that only makes memory of its own ('Ext').
-/
namespace Go.Proofs.YtiahgcaenneonaaDoor
open Go.RowKit Kv
/-- Nothing of what was there has turned. -/
def Ext (w w' : World) : Prop := Below w.heap.size w w'
theorem Ext.refl (w : World) : Ext w w := Below.refl _ _
theorem Ext.size {w w' : World} (h : Ext w w') : w.heap.size ≤ w'.heap.size := Below.size h
theorem Ext.trans {a b c : World} (h : Ext a b) (k : Ext b c) : Ext a c := Below.trans h (Below.mono k (Ext.size h))
theorem Ext.drewN {a b : World} (h : Ext a b) (n : Nat) : Ext a (b.drewN n) := Below.trans h ⟨rfl, rfl, rfl, Nat.le_refl _, fun _ _ => rfl⟩
theorem Ext.drew {a b : World} (h : Ext a b) : Ext a b.drew := Below.drew h
theorem Ext.alloc {a b : World} (h : Ext a b) (o : Obj) : Ext a (b.alloc o) := Below.alloc h (Ext.size h) o
theorem Ext.setCell {a b : World} (h : Ext a b) {p : Addr} (hp : a.heap.size ≤ p.block) (u : Value) : Ext a (b.setCell p u) := Below.setCell h hp u
theorem Ext.grow {a b : World} (h : Ext a b) (k : Nat) (os : Array Obj) : Ext a (Go.Sort.grow (b.drewN k) os) := by
  refine Ext.trans h ⟨rfl, rfl, rfl, ?_, fun i hi => ?_⟩
  · show b.heap.size ≤ (b.heap ++ os).size
    simp
  · show (b.heap ++ os)[i]? = b.heap[i]?
    rw [Array.getElem?_append_left hi]
theorem Drew.ext {w w' : World} (h : Drew w w') : Ext w w' := Drew.below _ h
theorem Ext.cell {w w' : World} (h : Ext w w') {p : Addr} (hp : p.block < w.heap.size) : w'.cell? p = w.cell? p := Below.cell h hp
end Go.Proofs.YtiahgcaenneonaaDoor
/-
  Contracts of the library at this translation, as the shelf lays them.
-/
namespace Go.Proofs
open Go.Shelf
def Tryd.lays170_ren : Go.Shelf.Ren := ⟨fun | 170 => 77 | n => n, fun | 70 => 134 | 3 => 3 | 0 => 0 | 72 => 137 | 37 => 135 | 5 => 5 | n => n, fun | n => n⟩
theorem Tryd.lays170 : Go.Proofs.Lays.n170 Tryd.prog Tryd.lays170_ren := {
  mixed := by kernel_rfl
  f170 := Tryd.func77.trans (congrArg some (by kernel_rfl))
  t0 := Tryd.underlying0
  a0 := Tryd.isAgg0
  z0 := Tryd.sizeOf0
  v0 := Tryd.zeroValue0
  t3 := Tryd.underlying3
  a3 := Tryd.isAgg3
  z3 := Tryd.sizeOf3
  v3 := Tryd.zeroValue3
  t37 := Tryd.underlying135
  a37 := Tryd.isAgg135
  z37 := Tryd.sizeOf135
  v37 := Tryd.zeroValue135
  t70 := Tryd.underlying134
  a70 := Tryd.isAgg134
  z70 := Tryd.sizeOf134
  v70 := Tryd.zeroValue134
  t72 := Tryd.underlying137
  a72 := Tryd.isAgg137
  z72 := Tryd.sizeOf137
  v72 := Tryd.zeroValue137 }
open Go.RowKit in
theorem Tryd.Builder_Len (B b : Nat) (bs : List Value) (w : World) (h : Lib.IsBuilder 137 5 B b bs w) :
    Calls Tryd.prog 77 #[.pointer (some ⟨b, 0, none⟩)] w fun e w' => e = .returned (.int .i64 bs.length) ∧ w' = w := Any.Builder_Len Tryd.lays170 B b bs w h
def Tryd.lays169_ren : Go.Shelf.Ren := ⟨fun | 169 => 78 | n => n, fun | 70 => 134 | 9 => 9 | 0 => 0 | 72 => 137 | 37 => 135 | 127 => 161 | 3 => 3 | 5 => 5 | n => n, fun | n => n⟩
theorem Tryd.lays169 : Go.Proofs.Lays.n169 Tryd.prog Tryd.lays169_ren := {
  mixed := by kernel_rfl
  f169 := Tryd.func78.trans (congrArg some (by kernel_rfl))
  t0 := Tryd.underlying0
  a0 := Tryd.isAgg0
  z0 := Tryd.sizeOf0
  v0 := Tryd.zeroValue0
  t3 := Tryd.underlying3
  a3 := Tryd.isAgg3
  z3 := Tryd.sizeOf3
  v3 := Tryd.zeroValue3
  t9 := Tryd.underlying9
  a9 := Tryd.isAgg9
  z9 := Tryd.sizeOf9
  v9 := Tryd.zeroValue9
  t37 := Tryd.underlying135
  a37 := Tryd.isAgg135
  z37 := Tryd.sizeOf135
  v37 := Tryd.zeroValue135
  t70 := Tryd.underlying134
  a70 := Tryd.isAgg134
  z70 := Tryd.sizeOf134
  v70 := Tryd.zeroValue134
  t72 := Tryd.underlying137
  a72 := Tryd.isAgg137
  z72 := Tryd.sizeOf137
  v72 := Tryd.zeroValue137
  t127 := Tryd.underlying161
  a127 := Tryd.isAgg161
  z127 := Tryd.sizeOf161
  v127 := Tryd.zeroValue161 }
theorem Tryd.Builder_Extra_169 : Builder.Extra Tryd.prog Tryd.lays169_ren := {
  sizeBuilder := by kernel_rfl
  liesBuilder := by kernel_rfl
  t5 := Tryd.underlying5
  a5 := Tryd.isAgg5
  z5 := Tryd.sizeOf5
  v5 := Tryd.zeroValue5
  infoByte := by kernel_rfl
  cellsByte := by kernel_rfl
  sizeByte := by kernel_rfl
  neB5 := by decide }
open Go.RowKit in
theorem Tryd.Builder_String (B b : Nat) (l : List UInt8) (w : World) (h : Lib.IsBuilder 137 5 B b (Lib.byteCells l) w) (h0 : l ≠ []) :
    Calls Tryd.prog 78 #[.pointer (some ⟨b, 0, none⟩)] w fun e w' => e = .returned (.string ⟨l.toArray⟩) ∧ Below B w w' := Any.Builder_String Tryd.lays169 Tryd.Builder_Extra_169 B b l w h h0
open Go.RowKit in
theorem Tryd.Builder_String_empty (B b : Nat) (w : World) (h : Lib.IsBuilder 137 5 B b [] w) (hBw : B ≤ w.heap.size) :
    Calls Tryd.prog 78 #[.pointer (some ⟨b, 0, none⟩)] w fun e w' => e = .returned (.string ⟨#[]⟩) ∧ Below B w w' := Any.Builder_String_empty Tryd.lays169 Tryd.Builder_Extra_169 B b w h hBw
open Go.RowKit in
theorem Tryd.Builder_String_any (B b : Nat) (l : List UInt8) (w : World) (h : Lib.IsBuilder 137 5 B b (Lib.byteCells l) w) (hBw : B ≤ w.heap.size) :
    Calls Tryd.prog 78 #[.pointer (some ⟨b, 0, none⟩)] w fun e w' => e = .returned (.string ⟨l.toArray⟩) ∧ Below B w w' := Any.Builder_String_any Tryd.lays169 Tryd.Builder_Extra_169 B b l w h hBw
def Tryd.lays241_ren : Go.Shelf.Ren := ⟨fun | 241 => 89 | 277 => 97 | n => n, fun | 70 => 134 | 3 => 3 | 0 => 0 | 72 => 137 | 37 => 135 | 5 => 5 | n => n, fun | n => n⟩
theorem Tryd.lays241 : Go.Proofs.Lays.n241 Tryd.prog Tryd.lays241_ren := {
  mixed := by kernel_rfl
  f241 := Tryd.func89.trans (congrArg some (by kernel_rfl))
  f277 := Tryd.func97.trans (congrArg some (by kernel_rfl))
  t0 := Tryd.underlying0
  a0 := Tryd.isAgg0
  z0 := Tryd.sizeOf0
  v0 := Tryd.zeroValue0
  t3 := Tryd.underlying3
  a3 := Tryd.isAgg3
  z3 := Tryd.sizeOf3
  v3 := Tryd.zeroValue3
  t37 := Tryd.underlying135
  a37 := Tryd.isAgg135
  z37 := Tryd.sizeOf135
  v37 := Tryd.zeroValue135
  t70 := Tryd.underlying134
  a70 := Tryd.isAgg134
  z70 := Tryd.sizeOf134
  v70 := Tryd.zeroValue134
  t72 := Tryd.underlying137
  a72 := Tryd.isAgg137
  z72 := Tryd.sizeOf137
  v72 := Tryd.zeroValue137 }
theorem Tryd.Builder_Extra_241 : Builder.Extra Tryd.prog Tryd.lays241_ren := {
  sizeBuilder := by kernel_rfl
  liesBuilder := by kernel_rfl
  t5 := Tryd.underlying5
  a5 := Tryd.isAgg5
  z5 := Tryd.sizeOf5
  v5 := Tryd.zeroValue5
  infoByte := by kernel_rfl
  cellsByte := by kernel_rfl
  sizeByte := by kernel_rfl
  neB5 := by decide }
open Go.RowKit in
theorem Tryd.Builder_grow_fresh (B b n : Nat) (w : World) (hB : B ≤ b) (hbk : w.heap[b]? = some (.cells #[.pointer (some ⟨b, 0, none⟩), .slice none 0 0] 137 (0, 0))) (hBw : B ≤ w.heap.size) (hn : n ≤ 281474976710656) :
    Calls Tryd.prog 89 #[.pointer (some ⟨b, 0, none⟩), .int .i64 n] w fun e w' => e = .returned (.tuple #[]) ∧ (Lib.BuilderAt 137 5 B b (.pointer (some ⟨b, 0, none⟩)) [] w' ∧ Below B w w') := Any.Builder_grow_fresh Tryd.lays241 Tryd.Builder_Extra_241 B b n w hB hbk hBw hn
def Tryd.lays165_ren : Go.Shelf.Ren := ⟨fun | 165 => 75 | 240 => 88 | 241 => 89 | 276 => 96 | 277 => 97 | n => n, fun | 70 => 134 | 3 => 3 | 0 => 0 | 4 => 4 | 9 => 9 | 20 => 20 | 72 => 137 | 37 => 135 | 164 => 167 | 5 => 5 | n => n, fun | n => n⟩
theorem Tryd.lays165 : Go.Proofs.Lays.n165 Tryd.prog Tryd.lays165_ren := {
  mixed := by kernel_rfl
  f165 := Tryd.func75.trans (congrArg some (by kernel_rfl))
  f240 := Tryd.func88.trans (congrArg some (by kernel_rfl))
  f241 := Tryd.func89.trans (congrArg some (by kernel_rfl))
  f276 := Tryd.func96.trans (congrArg some (by kernel_rfl))
  f277 := Tryd.func97.trans (congrArg some (by kernel_rfl))
  t0 := Tryd.underlying0
  a0 := Tryd.isAgg0
  z0 := Tryd.sizeOf0
  v0 := Tryd.zeroValue0
  t3 := Tryd.underlying3
  a3 := Tryd.isAgg3
  z3 := Tryd.sizeOf3
  v3 := Tryd.zeroValue3
  t4 := Tryd.underlying4
  a4 := Tryd.isAgg4
  z4 := Tryd.sizeOf4
  v4 := Tryd.zeroValue4
  t9 := Tryd.underlying9
  a9 := Tryd.isAgg9
  z9 := Tryd.sizeOf9
  v9 := Tryd.zeroValue9
  t20 := Tryd.underlying20
  a20 := Tryd.isAgg20
  z20 := Tryd.sizeOf20
  v20 := Tryd.zeroValue20
  t37 := Tryd.underlying135
  a37 := Tryd.isAgg135
  z37 := Tryd.sizeOf135
  v37 := Tryd.zeroValue135
  t70 := Tryd.underlying134
  a70 := Tryd.isAgg134
  z70 := Tryd.sizeOf134
  v70 := Tryd.zeroValue134
  t72 := Tryd.underlying137
  a72 := Tryd.isAgg137
  z72 := Tryd.sizeOf137
  v72 := Tryd.zeroValue137
  t164 := Tryd.underlying167
  a164 := Tryd.isAgg167
  z164 := Tryd.sizeOf167
  v164 := Tryd.zeroValue167 }
theorem Tryd.Builder_Extra_165 : Builder.Extra Tryd.prog Tryd.lays165_ren := {
  sizeBuilder := by kernel_rfl
  liesBuilder := by kernel_rfl
  t5 := Tryd.underlying5
  a5 := Tryd.isAgg5
  z5 := Tryd.sizeOf5
  v5 := Tryd.zeroValue5
  infoByte := by kernel_rfl
  cellsByte := by kernel_rfl
  sizeByte := by kernel_rfl
  neB5 := by decide }
open Go.RowKit in
theorem Tryd.Builder_Grow_fresh (B b n : Nat) (w : World) (hB : B ≤ b) (hbk : w.heap[b]? = some (.cells #[.pointer none, .slice none 0 0] 137 (0, 0))) (hBw : B ≤ w.heap.size) (hn : n ≤ 281474976710656) :
    Calls Tryd.prog 75 #[.pointer (some ⟨b, 0, none⟩), .int .i64 n] w fun e w' => e = .returned (.tuple #[]) ∧ (Lib.BuilderAt 137 5 B b (.pointer (some ⟨b, 0, none⟩)) [] w' ∧ Below B w w') := Any.Builder_Grow_fresh Tryd.lays165 Tryd.Builder_Extra_165 B b n w hB hbk hBw hn
def Tryd.lays156_ren : Go.Shelf.Ren := ⟨fun | 156 => 68 | 165 => 75 | 166 => 76 | 169 => 78 | 240 => 88 | 241 => 89 | 276 => 96 | 277 => 97 | n => n, fun | 31 => 121 | 9 => 9 | 3 => 3 | 4 => 4 | 0 => 0 | 20 => 20 | 72 => 137 | 76 => 141 | 70 => 134 | 37 => 135 | 75 => 140 | 127 => 161 | 164 => 167 | 5 => 5 | 80 => 144 | n => n, fun | n => n⟩
theorem Tryd.lays156 : Go.Proofs.Lays.n156 Tryd.prog Tryd.lays156_ren := {
  mixed := by kernel_rfl
  f156 := Tryd.func68.trans (congrArg some (by kernel_rfl))
  f165 := Tryd.func75.trans (congrArg some (by kernel_rfl))
  f166 := Tryd.func76.trans (congrArg some (by kernel_rfl))
  f169 := Tryd.func78.trans (congrArg some (by kernel_rfl))
  f240 := Tryd.func88.trans (congrArg some (by kernel_rfl))
  f241 := Tryd.func89.trans (congrArg some (by kernel_rfl))
  f276 := Tryd.func96.trans (congrArg some (by kernel_rfl))
  f277 := Tryd.func97.trans (congrArg some (by kernel_rfl))
  t0 := Tryd.underlying0
  a0 := Tryd.isAgg0
  z0 := Tryd.sizeOf0
  v0 := Tryd.zeroValue0
  t3 := Tryd.underlying3
  a3 := Tryd.isAgg3
  z3 := Tryd.sizeOf3
  v3 := Tryd.zeroValue3
  t4 := Tryd.underlying4
  a4 := Tryd.isAgg4
  z4 := Tryd.sizeOf4
  v4 := Tryd.zeroValue4
  t9 := Tryd.underlying9
  a9 := Tryd.isAgg9
  z9 := Tryd.sizeOf9
  v9 := Tryd.zeroValue9
  t20 := Tryd.underlying20
  a20 := Tryd.isAgg20
  z20 := Tryd.sizeOf20
  v20 := Tryd.zeroValue20
  t31 := Tryd.underlying121
  a31 := Tryd.isAgg121
  z31 := Tryd.sizeOf121
  v31 := Tryd.zeroValue121
  t37 := Tryd.underlying135
  a37 := Tryd.isAgg135
  z37 := Tryd.sizeOf135
  v37 := Tryd.zeroValue135
  t70 := Tryd.underlying134
  a70 := Tryd.isAgg134
  z70 := Tryd.sizeOf134
  v70 := Tryd.zeroValue134
  t72 := Tryd.underlying137
  a72 := Tryd.isAgg137
  z72 := Tryd.sizeOf137
  v72 := Tryd.zeroValue137
  t75 := Tryd.underlying140
  a75 := Tryd.isAgg140
  z75 := Tryd.sizeOf140
  v75 := Tryd.zeroValue140
  t76 := Tryd.underlying141
  a76 := Tryd.isAgg141
  z76 := Tryd.sizeOf141
  v76 := Tryd.zeroValue141
  t127 := Tryd.underlying161
  a127 := Tryd.isAgg161
  z127 := Tryd.sizeOf161
  v127 := Tryd.zeroValue161
  t164 := Tryd.underlying167
  a164 := Tryd.isAgg167
  z164 := Tryd.sizeOf167
  v164 := Tryd.zeroValue167 }
theorem Tryd.Builder_Extra_156 : Builder.Extra Tryd.prog Tryd.lays156_ren := {
  sizeBuilder := by kernel_rfl
  liesBuilder := by kernel_rfl
  t5 := Tryd.underlying5
  a5 := Tryd.isAgg5
  z5 := Tryd.sizeOf5
  v5 := Tryd.zeroValue5
  infoByte := by kernel_rfl
  cellsByte := by kernel_rfl
  sizeByte := by kernel_rfl
  neB5 := by decide }
open Go.RowKit in
theorem Tryd.strings_Join_none (a : Option Addr) (c : Nat) (sep : ByteArray) (w : World) :
    Calls Tryd.prog 68 #[.slice a 0 c, .string sep] w fun e w' => e = .returned (.string ⟨#[]⟩) ∧ w' = w := Any.strings_Join_none Tryd.lays156 Tryd.Builder_Extra_156 a c sep w
open Go.RowKit in
theorem Tryd.strings_Join (bk o c : Nat) (xs : List ByteArray) (sep : ByteArray) (w : World) (hcells : ∀ (j : Nat) x, xs[j]? = some x → w.cell? ⟨bk, o + j, none⟩ = some (.string x)) (hbk : bk < w.heap.size) (hN : xs.length ≤ 140737488355328) (hcap : xs.length ≤ c) (hlen : (Lib.join (xs.map (·.data.toList)) sep.data.toList).length ≤ 140737488355328) :
    Calls Tryd.prog 68 #[.slice (some ⟨bk, o, none⟩) xs.length c, .string sep] w fun e w' => e = .returned (.string ⟨(Lib.join (xs.map (·.data.toList)) sep.data.toList).toArray⟩) ∧ Below w.heap.size w w' := Any.strings_Join Tryd.lays156 Tryd.Builder_Extra_156 bk o c xs sep w hcells hbk hN hcap hlen
open Go.RowKit in
theorem Tryd.Builder_Len_f (B b : Nat) (bs : List Value) (w : World) (h : Lib.IsBuilderF 137 5 B b bs w) :
    Calls Tryd.prog 77 #[.pointer (some ⟨b, 0, none⟩)] w fun e w' => e = .returned (.int .i64 bs.length) ∧ w' = w := Any.Builder_Len_f Tryd.lays170 B b bs w h
open Go.RowKit in
theorem Tryd.Builder_String_f (B b : Nat) (l : List UInt8) (w : World) (h : Lib.IsBuilderF 137 5 B b (Lib.byteCells l) w) (h0 : l ≠ []) :
    Calls Tryd.prog 78 #[.pointer (some ⟨b, 0, none⟩)] w fun e w' => e = .returned (.string ⟨l.toArray⟩) ∧ (Lib.IsBuilderF 137 5 B b (Lib.byteCells l) w' ∧ Below B w w') := Any.Builder_String_f Tryd.lays169 Tryd.Builder_Extra_169 B b l w h h0
open Go.RowKit in
theorem Tryd.Builder_String_empty_f (B b : Nat) (w : World) (h : Lib.IsBuilderF 137 5 B b [] w) (hBw : B ≤ w.heap.size) :
    Calls Tryd.prog 78 #[.pointer (some ⟨b, 0, none⟩)] w fun e w' => e = .returned (.string ⟨#[]⟩) ∧ (Lib.IsBuilderF 137 5 B b [] w' ∧ Below B w w') := Any.Builder_String_empty_f Tryd.lays169 Tryd.Builder_Extra_169 B b w h hBw
open Go.RowKit in
theorem Tryd.Builder_String_any_f (B b : Nat) (l : List UInt8) (w : World) (h : Lib.IsBuilderF 137 5 B b (Lib.byteCells l) w) (hBw : B ≤ w.heap.size) :
    Calls Tryd.prog 78 #[.pointer (some ⟨b, 0, none⟩)] w fun e w' => e = .returned (.string ⟨l.toArray⟩) ∧ (Lib.IsBuilderF 137 5 B b (Lib.byteCells l) w' ∧ Below B w w') := Any.Builder_String_any_f Tryd.lays169 Tryd.Builder_Extra_169 B b l w h hBw
def Tryd.lays129_ren : Go.Shelf.Ren := ⟨fun | 129 => 99 | n => n, fun | 53 => 91 | 3 => 3 | 4 => 4 | 46 => 130 | 5 => 5 | 9 => 9 | n => n, fun | n => n⟩
theorem Tryd.lays129 : Go.Proofs.Lays.n129 Tryd.prog Tryd.lays129_ren := {
  mixed := by kernel_rfl
  f129 := Tryd.func99.trans (congrArg some (by kernel_rfl))
  t3 := Tryd.underlying3
  a3 := Tryd.isAgg3
  z3 := Tryd.sizeOf3
  v3 := Tryd.zeroValue3
  t4 := Tryd.underlying4
  a4 := Tryd.isAgg4
  z4 := Tryd.sizeOf4
  v4 := Tryd.zeroValue4
  t5 := Tryd.underlying5
  a5 := Tryd.isAgg5
  z5 := Tryd.sizeOf5
  v5 := Tryd.zeroValue5
  t9 := Tryd.underlying9
  a9 := Tryd.isAgg9
  z9 := Tryd.sizeOf9
  v9 := Tryd.zeroValue9
  t46 := Tryd.underlying130
  a46 := Tryd.isAgg130
  z46 := Tryd.sizeOf130
  v46 := Tryd.zeroValue130
  t53 := Tryd.underlying91
  a53 := Tryd.isAgg91
  z53 := Tryd.sizeOf91
  v53 := Tryd.zeroValue91 }
theorem Tryd.bits_Len64 (x : Int) (w : World) (h0 : 0 ≤ x) (h1 : x ≤ 18446744073709551615) :
    Calls Tryd.prog 99 #[.int .u64 x] w fun e w' => e = .returned (.int .i64 (Lib.bitLen x.toNat)) ∧ w' = w := Any.bits_Len64 Tryd.lays129 x w h0 h1
def Tryd.lays317_ren : Go.Shelf.Ren := ⟨fun | 317 => 98 | n => n, fun | 3 => 3 | 46 => 130 | n => n, fun | n => n⟩
theorem Tryd.lays317 : Go.Proofs.Lays.n317 Tryd.prog Tryd.lays317_ren := {
  mixed := by kernel_rfl
  f317 := Tryd.func98.trans (congrArg some (by kernel_rfl))
  t3 := Tryd.underlying3
  a3 := Tryd.isAgg3
  z3 := Tryd.sizeOf3
  v3 := Tryd.zeroValue3
  t46 := Tryd.underlying130
  a46 := Tryd.isAgg130
  z46 := Tryd.sizeOf130
  v46 := Tryd.zeroValue130 }
open Go.Lib in
theorem Tryd.internal_strconv_log10Pow2 (x : Nat) (h : x ≤ 64) (w : World) :
    Calls Tryd.prog 98 #[.int .i64 x] w fun e w' => e = .returned (.int .i64 (Lib.l10 x)) ∧ w' = w := Any.internal_strconv_log10Pow2 Tryd.lays317 x h w
def Tryd.lays318_ren : Go.Shelf.Ren := ⟨fun | 318 => 100 | n => n, fun | 3 => 3 | 4 => 4 | n => n, fun | n => n⟩
theorem Tryd.lays318 : Go.Proofs.Lays.n318 Tryd.prog Tryd.lays318_ren := {
  mixed := by kernel_rfl
  f318 := Tryd.func100.trans (congrArg some (by kernel_rfl))
  t3 := Tryd.underlying3
  a3 := Tryd.isAgg3
  z3 := Tryd.sizeOf3
  v3 := Tryd.zeroValue3
  t4 := Tryd.underlying4
  a4 := Tryd.isAgg4
  z4 := Tryd.sizeOf4
  v4 := Tryd.zeroValue4 }
open Go.Lib in
theorem Tryd.internal_strconv_bool2_int (b : Bool) (w : World) :
    Calls Tryd.prog 100 #[.bool b] w fun e w' => e = .returned (.int .i64 (if b then 1 else 0)) ∧ w' = w := Any.internal_strconv_bool2_int Tryd.lays318 b w
def Tryd.lays283_ren : Go.Shelf.Ren := ⟨fun | 283 => 92 | n => n, fun | 3 => 3 | 9 => 9 | 4 => 4 | n => n, fun | n => n⟩
theorem Tryd.lays283 : Go.Proofs.Lays.n283 Tryd.prog Tryd.lays283_ren := {
  mixed := by kernel_rfl
  f283 := Tryd.func92.trans (congrArg some (by kernel_rfl))
  t3 := Tryd.underlying3
  a3 := Tryd.isAgg3
  z3 := Tryd.sizeOf3
  v3 := Tryd.zeroValue3
  t4 := Tryd.underlying4
  a4 := Tryd.isAgg4
  z4 := Tryd.sizeOf4
  v4 := Tryd.zeroValue4
  t9 := Tryd.underlying9
  a9 := Tryd.isAgg9
  z9 := Tryd.sizeOf9
  v9 := Tryd.zeroValue9 }
open Go.Lib in
theorem Tryd.internal_strconv_small (i : Nat) (h : i < 100) (w : World) :
    Calls Tryd.prog 92 #[.int .i64 i] w fun e w' => e = .returned (.string ⟨(Lib.decDigits i).toArray⟩) ∧ w' = w := Any.internal_strconv_small Tryd.lays283 i h w
def Tryd.laysM284_ren : Go.Shelf.Ren := ⟨fun | 284 => 93 | 129 => 99 | 317 => 98 | 318 => 100 | n => n, fun | 53 => 91 | 3 => 3 | 212 => 172 | 0 => 0 | 4 => 4 | 46 => 130 | 5 => 5 | 9 => 9 | n => n, fun | 17 => 1 | n => n⟩
theorem Tryd.laysM284 : Go.Proofs.LaysM.n284 Tryd.prog Tryd.laysM284_ren := {
  mixed := by kernel_rfl
  f129 := Tryd.func99.trans (congrArg some (by kernel_rfl))
  f284 := Tryd.func93.trans (congrArg some (by kernel_rfl))
  f317 := Tryd.func98.trans (congrArg some (by kernel_rfl))
  f318 := Tryd.func100.trans (congrArg some (by kernel_rfl))
  t0 := Tryd.underlying0
  a0 := Tryd.isAgg0
  z0 := Tryd.sizeOf0
  v0 := Tryd.zeroValue0
  t3 := Tryd.underlying3
  a3 := Tryd.isAgg3
  z3 := Tryd.sizeOf3
  v3 := Tryd.zeroValue3
  t4 := Tryd.underlying4
  a4 := Tryd.isAgg4
  z4 := Tryd.sizeOf4
  v4 := Tryd.zeroValue4
  t5 := Tryd.underlying5
  a5 := Tryd.isAgg5
  z5 := Tryd.sizeOf5
  v5 := Tryd.zeroValue5
  t9 := Tryd.underlying9
  a9 := Tryd.isAgg9
  z9 := Tryd.sizeOf9
  v9 := Tryd.zeroValue9
  t46 := Tryd.underlying130
  a46 := Tryd.isAgg130
  z46 := Tryd.sizeOf130
  v46 := Tryd.zeroValue130
  t53 := Tryd.underlying91
  a53 := Tryd.isAgg91
  z53 := Tryd.sizeOf91
  v53 := Tryd.zeroValue91
  t212 := Tryd.underlying172
  a212 := Tryd.isAgg172
  z212 := Tryd.sizeOf172
  v212 := Tryd.zeroValue172
  g17 := by kernel_rfl
  i0 := by kernel_rfl
  i3 := by kernel_rfl
  i4 := by kernel_rfl
  i5 := by kernel_rfl
  i9 := by kernel_rfl
  i46 := by kernel_rfl
  i53 := by kernel_rfl
  i212 := by kernel_rfl
  m17 := by kernel_rfl }
open Go.Lib in
theorem Tryd.internal_strconv_numDigits (u : Nat) (h1 : 1 ≤ u) (h2 : u < 18446744073709551616) (w : World) (htab : Lib.TabIs Tryd.prog w "internal/strconv.uint64pow10" .u64 Lib.pow10Tab) :
    Calls Tryd.prog 93 #[.int .u64 u] w fun e w' => e = .returned (.int .i64 (Lib.nDigits u)) ∧ w' = w := Any.internal_strconv_numDigits Tryd.laysM284 u h1 h2 w htab
def Tryd.lays285_ren : Go.Shelf.Ren := ⟨fun | 285 => 94 | n => n, fun | 37 => 135 | 53 => 91 | 3 => 3 | 4 => 4 | 51 => 156 | 9 => 9 | 5 => 5 | 0 => 0 | n => n, fun | n => n⟩
theorem Tryd.lays285 : Go.Proofs.Lays.n285 Tryd.prog Tryd.lays285_ren := {
  mixed := by kernel_rfl
  f285 := Tryd.func94.trans (congrArg some (by kernel_rfl))
  t0 := Tryd.underlying0
  a0 := Tryd.isAgg0
  z0 := Tryd.sizeOf0
  v0 := Tryd.zeroValue0
  t3 := Tryd.underlying3
  a3 := Tryd.isAgg3
  z3 := Tryd.sizeOf3
  v3 := Tryd.zeroValue3
  t4 := Tryd.underlying4
  a4 := Tryd.isAgg4
  z4 := Tryd.sizeOf4
  v4 := Tryd.zeroValue4
  t5 := Tryd.underlying5
  a5 := Tryd.isAgg5
  z5 := Tryd.sizeOf5
  v5 := Tryd.zeroValue5
  t9 := Tryd.underlying9
  a9 := Tryd.isAgg9
  z9 := Tryd.sizeOf9
  v9 := Tryd.zeroValue9
  t37 := Tryd.underlying135
  a37 := Tryd.isAgg135
  z37 := Tryd.sizeOf135
  v37 := Tryd.zeroValue135
  t51 := Tryd.underlying156
  a51 := Tryd.isAgg156
  z51 := Tryd.sizeOf156
  v51 := Tryd.zeroValue156
  t53 := Tryd.underlying91
  a53 := Tryd.isAgg91
  z53 := Tryd.sizeOf91
  v53 := Tryd.zeroValue91 }
open Go.RowKit Go.Sort Go.Lib in
theorem Tryd.internal_strconv_formatBase10 (blk off cap : Nat) (u : Nat) (d : Array UInt8) (w : World) (hH : Holds (fun (b : UInt8) => Value.int .u8 (b.toNat : Int)) w blk off d) (hu : u < 10 ^ d.size) (hu64 : u < 18446744073709551616) (hsz : d.size < 4611686018427387904) :
    Calls Tryd.prog 94 #[.slice (some ⟨blk, off, none⟩) d.size cap, .int .u64 u] w fun e w' =>
      e = .returned (.tuple #[]) ∧ ∃ (n v' : Nat) (dk : Array UInt8), w' = (putRow (fun (b : UInt8) => Value.int .u8 (b.toNat : Int)) w blk off dk).drewN n ∧ FmtInv d.size u 0 v' dk := Any.internal_strconv_formatBase10 Tryd.lays285 blk off cap u d w hH hu hu64 hsz
def Tryd.laysM246_ren : Go.Shelf.Ren := ⟨fun | 246 => 84 | 283 => 92 | 284 => 93 | 285 => 94 | 286 => 95 | 129 => 99 | 317 => 98 | 318 => 100 | 319 => 101 | 320 => 102 | 337 => 103 | 338 => 91 | n => n, fun | 2 => 2 | 3 => 3 | 9 => 9 | 4 => 4 | 171 => 163 | 0 => 0 | 53 => 91 | 37 => 135 | 5 => 5 | 173 => 165 | 212 => 172 | 51 => 156 | 20 => 20 | 213 => 173 | 46 => 130 | 232 => 176 | 233 => 170 | n => n, fun | 17 => 1 | 18 => 3 | 19 => 0 | n => n⟩
theorem Tryd.laysM246 : Go.Proofs.LaysM.n246 Tryd.prog Tryd.laysM246_ren := {
  mixed := by kernel_rfl
  f129 := Tryd.func99.trans (congrArg some (by kernel_rfl))
  f246 := Tryd.func84.trans (congrArg some (by kernel_rfl))
  f283 := Tryd.func92.trans (congrArg some (by kernel_rfl))
  f284 := Tryd.func93.trans (congrArg some (by kernel_rfl))
  f285 := Tryd.func94.trans (congrArg some (by kernel_rfl))
  f286 := Tryd.func95.trans (congrArg some (by kernel_rfl))
  f317 := Tryd.func98.trans (congrArg some (by kernel_rfl))
  f318 := Tryd.func100.trans (congrArg some (by kernel_rfl))
  f319 := Tryd.func101.trans (congrArg some (by kernel_rfl))
  f320 := Tryd.func102.trans (congrArg some (by kernel_rfl))
  f337 := Tryd.func103.trans (congrArg some (by kernel_rfl))
  f338 := Tryd.func91.trans (congrArg some (by kernel_rfl))
  t0 := Tryd.underlying0
  a0 := Tryd.isAgg0
  z0 := Tryd.sizeOf0
  v0 := Tryd.zeroValue0
  t2 := Tryd.underlying2
  a2 := Tryd.isAgg2
  z2 := Tryd.sizeOf2
  v2 := Tryd.zeroValue2
  t3 := Tryd.underlying3
  a3 := Tryd.isAgg3
  z3 := Tryd.sizeOf3
  v3 := Tryd.zeroValue3
  t4 := Tryd.underlying4
  a4 := Tryd.isAgg4
  z4 := Tryd.sizeOf4
  v4 := Tryd.zeroValue4
  t5 := Tryd.underlying5
  a5 := Tryd.isAgg5
  z5 := Tryd.sizeOf5
  v5 := Tryd.zeroValue5
  t9 := Tryd.underlying9
  a9 := Tryd.isAgg9
  z9 := Tryd.sizeOf9
  v9 := Tryd.zeroValue9
  t20 := Tryd.underlying20
  a20 := Tryd.isAgg20
  z20 := Tryd.sizeOf20
  v20 := Tryd.zeroValue20
  t37 := Tryd.underlying135
  a37 := Tryd.isAgg135
  z37 := Tryd.sizeOf135
  v37 := Tryd.zeroValue135
  t46 := Tryd.underlying130
  a46 := Tryd.isAgg130
  z46 := Tryd.sizeOf130
  v46 := Tryd.zeroValue130
  t51 := Tryd.underlying156
  a51 := Tryd.isAgg156
  z51 := Tryd.sizeOf156
  v51 := Tryd.zeroValue156
  t53 := Tryd.underlying91
  a53 := Tryd.isAgg91
  z53 := Tryd.sizeOf91
  v53 := Tryd.zeroValue91
  t171 := Tryd.underlying163
  a171 := Tryd.isAgg163
  z171 := Tryd.sizeOf163
  v171 := Tryd.zeroValue163
  t173 := Tryd.underlying165
  a173 := Tryd.isAgg165
  z173 := Tryd.sizeOf165
  v173 := Tryd.zeroValue165
  t212 := Tryd.underlying172
  a212 := Tryd.isAgg172
  z212 := Tryd.sizeOf172
  v212 := Tryd.zeroValue172
  t213 := Tryd.underlying173
  a213 := Tryd.isAgg173
  z213 := Tryd.sizeOf173
  t232 := Tryd.underlying176
  a232 := Tryd.isAgg176
  z232 := Tryd.sizeOf176
  v232 := Tryd.zeroValue176
  t233 := Tryd.underlying170
  a233 := Tryd.isAgg170
  z233 := Tryd.sizeOf170
  v233 := Tryd.zeroValue170
  g17 := by kernel_rfl
  g18 := by kernel_rfl
  g19 := by kernel_rfl
  i0 := by kernel_rfl
  i2 := by kernel_rfl
  i3 := by kernel_rfl
  i4 := by kernel_rfl
  i5 := by kernel_rfl
  i9 := by kernel_rfl
  i20 := by kernel_rfl
  i37 := by kernel_rfl
  i46 := by kernel_rfl
  i51 := by kernel_rfl
  i53 := by kernel_rfl
  i171 := by kernel_rfl
  i173 := by kernel_rfl
  i212 := by kernel_rfl
  i232 := by kernel_rfl
  i233 := by kernel_rfl
  m17 := by kernel_rfl
  m18 := by kernel_rfl
  m19 := by kernel_rfl }
open Go.RowKit Go.Sort Go.Lib in
theorem Tryd.internal_strconv_FormatInt_10 (n : Int) (h0 : -9223372036854775808 ≤ n) (h1 : n ≤ 9223372036854775807) (w : World) (htab : Lib.TabIs Tryd.prog w "internal/strconv.uint64pow10" .u64 Lib.pow10Tab) :
    Calls Tryd.prog 84 #[.int .i64 n, .int .i64 10] w fun e w' => e = .returned (.string ⟨(Lib.itoa n).toArray⟩) ∧ ∃ k os, w' = grow (w.drewN k) os := Any.internal_strconv_FormatInt_10 Tryd.laysM246 n h0 h1 w htab
def Tryd.lays246_ren : Go.Shelf.Ren := ⟨fun | 246 => 84 | 283 => 92 | 284 => 93 | 285 => 94 | 286 => 95 | 129 => 99 | 317 => 98 | 318 => 100 | 319 => 101 | 320 => 102 | 337 => 103 | 338 => 91 | n => n, fun | 2 => 2 | 3 => 3 | 9 => 9 | 4 => 4 | 171 => 163 | 0 => 0 | 53 => 91 | 37 => 135 | 5 => 5 | 173 => 165 | 212 => 172 | 51 => 156 | 20 => 20 | 213 => 173 | 46 => 130 | 232 => 176 | 233 => 170 | n => n, fun | 17 => 1 | 18 => 3 | 19 => 0 | n => n⟩
theorem Tryd.lays246 : Go.Proofs.Lays.n246 Tryd.prog Tryd.lays246_ren := {
  mixed := by kernel_rfl
  f129 := Tryd.func99.trans (congrArg some (by kernel_rfl))
  f246 := Tryd.func84.trans (congrArg some (by kernel_rfl))
  f283 := Tryd.func92.trans (congrArg some (by kernel_rfl))
  f284 := Tryd.func93.trans (congrArg some (by kernel_rfl))
  f285 := Tryd.func94.trans (congrArg some (by kernel_rfl))
  f286 := Tryd.func95.trans (congrArg some (by kernel_rfl))
  f317 := Tryd.func98.trans (congrArg some (by kernel_rfl))
  f318 := Tryd.func100.trans (congrArg some (by kernel_rfl))
  f319 := Tryd.func101.trans (congrArg some (by kernel_rfl))
  f320 := Tryd.func102.trans (congrArg some (by kernel_rfl))
  f337 := Tryd.func103.trans (congrArg some (by kernel_rfl))
  f338 := Tryd.func91.trans (congrArg some (by kernel_rfl))
  t0 := Tryd.underlying0
  a0 := Tryd.isAgg0
  z0 := Tryd.sizeOf0
  v0 := Tryd.zeroValue0
  t2 := Tryd.underlying2
  a2 := Tryd.isAgg2
  z2 := Tryd.sizeOf2
  v2 := Tryd.zeroValue2
  t3 := Tryd.underlying3
  a3 := Tryd.isAgg3
  z3 := Tryd.sizeOf3
  v3 := Tryd.zeroValue3
  t4 := Tryd.underlying4
  a4 := Tryd.isAgg4
  z4 := Tryd.sizeOf4
  v4 := Tryd.zeroValue4
  t5 := Tryd.underlying5
  a5 := Tryd.isAgg5
  z5 := Tryd.sizeOf5
  v5 := Tryd.zeroValue5
  t9 := Tryd.underlying9
  a9 := Tryd.isAgg9
  z9 := Tryd.sizeOf9
  v9 := Tryd.zeroValue9
  t20 := Tryd.underlying20
  a20 := Tryd.isAgg20
  z20 := Tryd.sizeOf20
  v20 := Tryd.zeroValue20
  t37 := Tryd.underlying135
  a37 := Tryd.isAgg135
  z37 := Tryd.sizeOf135
  v37 := Tryd.zeroValue135
  t46 := Tryd.underlying130
  a46 := Tryd.isAgg130
  z46 := Tryd.sizeOf130
  v46 := Tryd.zeroValue130
  t51 := Tryd.underlying156
  a51 := Tryd.isAgg156
  z51 := Tryd.sizeOf156
  v51 := Tryd.zeroValue156
  t53 := Tryd.underlying91
  a53 := Tryd.isAgg91
  z53 := Tryd.sizeOf91
  v53 := Tryd.zeroValue91
  t171 := Tryd.underlying163
  a171 := Tryd.isAgg163
  z171 := Tryd.sizeOf163
  v171 := Tryd.zeroValue163
  t173 := Tryd.underlying165
  a173 := Tryd.isAgg165
  z173 := Tryd.sizeOf165
  v173 := Tryd.zeroValue165
  t212 := Tryd.underlying172
  a212 := Tryd.isAgg172
  z212 := Tryd.sizeOf172
  v212 := Tryd.zeroValue172
  t213 := Tryd.underlying173
  a213 := Tryd.isAgg173
  z213 := Tryd.sizeOf173
  t232 := Tryd.underlying176
  a232 := Tryd.isAgg176
  z232 := Tryd.sizeOf176
  v232 := Tryd.zeroValue176
  t233 := Tryd.underlying170
  a233 := Tryd.isAgg170
  z233 := Tryd.sizeOf170
  v233 := Tryd.zeroValue170
  g17 := by kernel_rfl
  g18 := by kernel_rfl
  g19 := by kernel_rfl }
open Go.RowKit Go.Sort Go.Lib in
theorem Tryd.internal_strconv_FormatInt_10_small (i : Nat) (hi : i < 100) (w : World) :
    Calls Tryd.prog 84 #[.int .i64 i, .int .i64 10] w fun e w' => e = .returned (.string ⟨(Lib.decDigits i).toArray⟩) ∧ w' = w := Any.internal_strconv_FormatInt_10_small Tryd.lays246 i hi w
def Tryd.laysM243_ren : Go.Shelf.Ren := ⟨fun | 243 => 72 | 246 => 84 | 283 => 92 | 284 => 93 | 285 => 94 | 286 => 95 | 129 => 99 | 317 => 98 | 318 => 100 | 319 => 101 | 320 => 102 | 337 => 103 | 338 => 91 | n => n, fun | 3 => 3 | 9 => 9 | 2 => 2 | 4 => 4 | 171 => 163 | 0 => 0 | 53 => 91 | 37 => 135 | 5 => 5 | 173 => 165 | 212 => 172 | 51 => 156 | 20 => 20 | 213 => 173 | 46 => 130 | 232 => 176 | 233 => 170 | n => n, fun | 17 => 1 | 18 => 3 | 19 => 0 | n => n⟩
theorem Tryd.laysM243 : Go.Proofs.LaysM.n243 Tryd.prog Tryd.laysM243_ren := {
  mixed := by kernel_rfl
  f129 := Tryd.func99.trans (congrArg some (by kernel_rfl))
  f243 := Tryd.func72.trans (congrArg some (by kernel_rfl))
  f246 := Tryd.func84.trans (congrArg some (by kernel_rfl))
  f283 := Tryd.func92.trans (congrArg some (by kernel_rfl))
  f284 := Tryd.func93.trans (congrArg some (by kernel_rfl))
  f285 := Tryd.func94.trans (congrArg some (by kernel_rfl))
  f286 := Tryd.func95.trans (congrArg some (by kernel_rfl))
  f317 := Tryd.func98.trans (congrArg some (by kernel_rfl))
  f318 := Tryd.func100.trans (congrArg some (by kernel_rfl))
  f319 := Tryd.func101.trans (congrArg some (by kernel_rfl))
  f320 := Tryd.func102.trans (congrArg some (by kernel_rfl))
  f337 := Tryd.func103.trans (congrArg some (by kernel_rfl))
  f338 := Tryd.func91.trans (congrArg some (by kernel_rfl))
  t0 := Tryd.underlying0
  a0 := Tryd.isAgg0
  z0 := Tryd.sizeOf0
  v0 := Tryd.zeroValue0
  t2 := Tryd.underlying2
  a2 := Tryd.isAgg2
  z2 := Tryd.sizeOf2
  v2 := Tryd.zeroValue2
  t3 := Tryd.underlying3
  a3 := Tryd.isAgg3
  z3 := Tryd.sizeOf3
  v3 := Tryd.zeroValue3
  t4 := Tryd.underlying4
  a4 := Tryd.isAgg4
  z4 := Tryd.sizeOf4
  v4 := Tryd.zeroValue4
  t5 := Tryd.underlying5
  a5 := Tryd.isAgg5
  z5 := Tryd.sizeOf5
  v5 := Tryd.zeroValue5
  t9 := Tryd.underlying9
  a9 := Tryd.isAgg9
  z9 := Tryd.sizeOf9
  v9 := Tryd.zeroValue9
  t20 := Tryd.underlying20
  a20 := Tryd.isAgg20
  z20 := Tryd.sizeOf20
  v20 := Tryd.zeroValue20
  t37 := Tryd.underlying135
  a37 := Tryd.isAgg135
  z37 := Tryd.sizeOf135
  v37 := Tryd.zeroValue135
  t46 := Tryd.underlying130
  a46 := Tryd.isAgg130
  z46 := Tryd.sizeOf130
  v46 := Tryd.zeroValue130
  t51 := Tryd.underlying156
  a51 := Tryd.isAgg156
  z51 := Tryd.sizeOf156
  v51 := Tryd.zeroValue156
  t53 := Tryd.underlying91
  a53 := Tryd.isAgg91
  z53 := Tryd.sizeOf91
  v53 := Tryd.zeroValue91
  t171 := Tryd.underlying163
  a171 := Tryd.isAgg163
  z171 := Tryd.sizeOf163
  v171 := Tryd.zeroValue163
  t173 := Tryd.underlying165
  a173 := Tryd.isAgg165
  z173 := Tryd.sizeOf165
  v173 := Tryd.zeroValue165
  t212 := Tryd.underlying172
  a212 := Tryd.isAgg172
  z212 := Tryd.sizeOf172
  v212 := Tryd.zeroValue172
  t213 := Tryd.underlying173
  a213 := Tryd.isAgg173
  z213 := Tryd.sizeOf173
  t232 := Tryd.underlying176
  a232 := Tryd.isAgg176
  z232 := Tryd.sizeOf176
  v232 := Tryd.zeroValue176
  t233 := Tryd.underlying170
  a233 := Tryd.isAgg170
  z233 := Tryd.sizeOf170
  v233 := Tryd.zeroValue170
  g17 := by kernel_rfl
  g18 := by kernel_rfl
  g19 := by kernel_rfl
  i0 := by kernel_rfl
  i2 := by kernel_rfl
  i3 := by kernel_rfl
  i4 := by kernel_rfl
  i5 := by kernel_rfl
  i9 := by kernel_rfl
  i20 := by kernel_rfl
  i37 := by kernel_rfl
  i46 := by kernel_rfl
  i51 := by kernel_rfl
  i53 := by kernel_rfl
  i171 := by kernel_rfl
  i173 := by kernel_rfl
  i212 := by kernel_rfl
  i232 := by kernel_rfl
  i233 := by kernel_rfl
  m17 := by kernel_rfl
  m18 := by kernel_rfl
  m19 := by kernel_rfl }
open Go.RowKit Go.Sort Go.Lib in
theorem Tryd.internal_strconv_Itoa (n : Int) (h0 : -9223372036854775808 ≤ n) (h1 : n ≤ 9223372036854775807) (w : World) (htab : Lib.TabIs Tryd.prog w "internal/strconv.uint64pow10" .u64 Lib.pow10Tab) :
    Calls Tryd.prog 72 #[.int .i64 n] w fun e w' => e = .returned (.string ⟨(Lib.itoa n).toArray⟩) ∧ ∃ k os, w' = grow (w.drewN k) os := Any.internal_strconv_Itoa Tryd.laysM243 n h0 h1 w htab
def Tryd.lays243_ren : Go.Shelf.Ren := ⟨fun | 243 => 72 | 246 => 84 | 283 => 92 | 284 => 93 | 285 => 94 | 286 => 95 | 129 => 99 | 317 => 98 | 318 => 100 | 319 => 101 | 320 => 102 | 337 => 103 | 338 => 91 | n => n, fun | 3 => 3 | 9 => 9 | 2 => 2 | 4 => 4 | 171 => 163 | 0 => 0 | 53 => 91 | 37 => 135 | 5 => 5 | 173 => 165 | 212 => 172 | 51 => 156 | 20 => 20 | 213 => 173 | 46 => 130 | 232 => 176 | 233 => 170 | n => n, fun | 17 => 1 | 18 => 3 | 19 => 0 | n => n⟩
theorem Tryd.lays243 : Go.Proofs.Lays.n243 Tryd.prog Tryd.lays243_ren := {
  mixed := by kernel_rfl
  f129 := Tryd.func99.trans (congrArg some (by kernel_rfl))
  f243 := Tryd.func72.trans (congrArg some (by kernel_rfl))
  f246 := Tryd.func84.trans (congrArg some (by kernel_rfl))
  f283 := Tryd.func92.trans (congrArg some (by kernel_rfl))
  f284 := Tryd.func93.trans (congrArg some (by kernel_rfl))
  f285 := Tryd.func94.trans (congrArg some (by kernel_rfl))
  f286 := Tryd.func95.trans (congrArg some (by kernel_rfl))
  f317 := Tryd.func98.trans (congrArg some (by kernel_rfl))
  f318 := Tryd.func100.trans (congrArg some (by kernel_rfl))
  f319 := Tryd.func101.trans (congrArg some (by kernel_rfl))
  f320 := Tryd.func102.trans (congrArg some (by kernel_rfl))
  f337 := Tryd.func103.trans (congrArg some (by kernel_rfl))
  f338 := Tryd.func91.trans (congrArg some (by kernel_rfl))
  t0 := Tryd.underlying0
  a0 := Tryd.isAgg0
  z0 := Tryd.sizeOf0
  v0 := Tryd.zeroValue0
  t2 := Tryd.underlying2
  a2 := Tryd.isAgg2
  z2 := Tryd.sizeOf2
  v2 := Tryd.zeroValue2
  t3 := Tryd.underlying3
  a3 := Tryd.isAgg3
  z3 := Tryd.sizeOf3
  v3 := Tryd.zeroValue3
  t4 := Tryd.underlying4
  a4 := Tryd.isAgg4
  z4 := Tryd.sizeOf4
  v4 := Tryd.zeroValue4
  t5 := Tryd.underlying5
  a5 := Tryd.isAgg5
  z5 := Tryd.sizeOf5
  v5 := Tryd.zeroValue5
  t9 := Tryd.underlying9
  a9 := Tryd.isAgg9
  z9 := Tryd.sizeOf9
  v9 := Tryd.zeroValue9
  t20 := Tryd.underlying20
  a20 := Tryd.isAgg20
  z20 := Tryd.sizeOf20
  v20 := Tryd.zeroValue20
  t37 := Tryd.underlying135
  a37 := Tryd.isAgg135
  z37 := Tryd.sizeOf135
  v37 := Tryd.zeroValue135
  t46 := Tryd.underlying130
  a46 := Tryd.isAgg130
  z46 := Tryd.sizeOf130
  v46 := Tryd.zeroValue130
  t51 := Tryd.underlying156
  a51 := Tryd.isAgg156
  z51 := Tryd.sizeOf156
  v51 := Tryd.zeroValue156
  t53 := Tryd.underlying91
  a53 := Tryd.isAgg91
  z53 := Tryd.sizeOf91
  v53 := Tryd.zeroValue91
  t171 := Tryd.underlying163
  a171 := Tryd.isAgg163
  z171 := Tryd.sizeOf163
  v171 := Tryd.zeroValue163
  t173 := Tryd.underlying165
  a173 := Tryd.isAgg165
  z173 := Tryd.sizeOf165
  v173 := Tryd.zeroValue165
  t212 := Tryd.underlying172
  a212 := Tryd.isAgg172
  z212 := Tryd.sizeOf172
  v212 := Tryd.zeroValue172
  t213 := Tryd.underlying173
  a213 := Tryd.isAgg173
  z213 := Tryd.sizeOf173
  t232 := Tryd.underlying176
  a232 := Tryd.isAgg176
  z232 := Tryd.sizeOf176
  v232 := Tryd.zeroValue176
  t233 := Tryd.underlying170
  a233 := Tryd.isAgg170
  z233 := Tryd.sizeOf170
  v233 := Tryd.zeroValue170
  g17 := by kernel_rfl
  g18 := by kernel_rfl
  g19 := by kernel_rfl }
open Go.RowKit Go.Sort Go.Lib in
theorem Tryd.internal_strconv_Itoa_small (i : Nat) (hi : i < 100) (w : World) :
    Calls Tryd.prog 72 #[.int .i64 i] w fun e w' => e = .returned (.string ⟨(Lib.decDigits i).toArray⟩) ∧ w' = w := Any.internal_strconv_Itoa_small Tryd.lays243 i hi w
def Tryd.laysM171_ren : Go.Shelf.Ren := ⟨fun | 171 => 55 | 243 => 72 | 246 => 84 | 283 => 92 | 284 => 93 | 285 => 94 | 286 => 95 | 129 => 99 | 317 => 98 | 318 => 100 | 319 => 101 | 320 => 102 | 337 => 103 | 338 => 91 | n => n, fun | 3 => 3 | 9 => 9 | 2 => 2 | 4 => 4 | 171 => 163 | 0 => 0 | 53 => 91 | 37 => 135 | 5 => 5 | 173 => 165 | 212 => 172 | 51 => 156 | 20 => 20 | 213 => 173 | 46 => 130 | 232 => 176 | 233 => 170 | n => n, fun | 17 => 1 | 18 => 3 | 19 => 0 | n => n⟩
theorem Tryd.laysM171 : Go.Proofs.LaysM.n171 Tryd.prog Tryd.laysM171_ren := {
  mixed := by kernel_rfl
  f129 := Tryd.func99.trans (congrArg some (by kernel_rfl))
  f171 := Tryd.func55.trans (congrArg some (by kernel_rfl))
  f243 := Tryd.func72.trans (congrArg some (by kernel_rfl))
  f246 := Tryd.func84.trans (congrArg some (by kernel_rfl))
  f283 := Tryd.func92.trans (congrArg some (by kernel_rfl))
  f284 := Tryd.func93.trans (congrArg some (by kernel_rfl))
  f285 := Tryd.func94.trans (congrArg some (by kernel_rfl))
  f286 := Tryd.func95.trans (congrArg some (by kernel_rfl))
  f317 := Tryd.func98.trans (congrArg some (by kernel_rfl))
  f318 := Tryd.func100.trans (congrArg some (by kernel_rfl))
  f319 := Tryd.func101.trans (congrArg some (by kernel_rfl))
  f320 := Tryd.func102.trans (congrArg some (by kernel_rfl))
  f337 := Tryd.func103.trans (congrArg some (by kernel_rfl))
  f338 := Tryd.func91.trans (congrArg some (by kernel_rfl))
  t0 := Tryd.underlying0
  a0 := Tryd.isAgg0
  z0 := Tryd.sizeOf0
  v0 := Tryd.zeroValue0
  t2 := Tryd.underlying2
  a2 := Tryd.isAgg2
  z2 := Tryd.sizeOf2
  v2 := Tryd.zeroValue2
  t3 := Tryd.underlying3
  a3 := Tryd.isAgg3
  z3 := Tryd.sizeOf3
  v3 := Tryd.zeroValue3
  t4 := Tryd.underlying4
  a4 := Tryd.isAgg4
  z4 := Tryd.sizeOf4
  v4 := Tryd.zeroValue4
  t5 := Tryd.underlying5
  a5 := Tryd.isAgg5
  z5 := Tryd.sizeOf5
  v5 := Tryd.zeroValue5
  t9 := Tryd.underlying9
  a9 := Tryd.isAgg9
  z9 := Tryd.sizeOf9
  v9 := Tryd.zeroValue9
  t20 := Tryd.underlying20
  a20 := Tryd.isAgg20
  z20 := Tryd.sizeOf20
  v20 := Tryd.zeroValue20
  t37 := Tryd.underlying135
  a37 := Tryd.isAgg135
  z37 := Tryd.sizeOf135
  v37 := Tryd.zeroValue135
  t46 := Tryd.underlying130
  a46 := Tryd.isAgg130
  z46 := Tryd.sizeOf130
  v46 := Tryd.zeroValue130
  t51 := Tryd.underlying156
  a51 := Tryd.isAgg156
  z51 := Tryd.sizeOf156
  v51 := Tryd.zeroValue156
  t53 := Tryd.underlying91
  a53 := Tryd.isAgg91
  z53 := Tryd.sizeOf91
  v53 := Tryd.zeroValue91
  t171 := Tryd.underlying163
  a171 := Tryd.isAgg163
  z171 := Tryd.sizeOf163
  v171 := Tryd.zeroValue163
  t173 := Tryd.underlying165
  a173 := Tryd.isAgg165
  z173 := Tryd.sizeOf165
  v173 := Tryd.zeroValue165
  t212 := Tryd.underlying172
  a212 := Tryd.isAgg172
  z212 := Tryd.sizeOf172
  v212 := Tryd.zeroValue172
  t213 := Tryd.underlying173
  a213 := Tryd.isAgg173
  z213 := Tryd.sizeOf173
  t232 := Tryd.underlying176
  a232 := Tryd.isAgg176
  z232 := Tryd.sizeOf176
  v232 := Tryd.zeroValue176
  t233 := Tryd.underlying170
  a233 := Tryd.isAgg170
  z233 := Tryd.sizeOf170
  v233 := Tryd.zeroValue170
  g17 := by kernel_rfl
  g18 := by kernel_rfl
  g19 := by kernel_rfl
  i0 := by kernel_rfl
  i2 := by kernel_rfl
  i3 := by kernel_rfl
  i4 := by kernel_rfl
  i5 := by kernel_rfl
  i9 := by kernel_rfl
  i20 := by kernel_rfl
  i37 := by kernel_rfl
  i46 := by kernel_rfl
  i51 := by kernel_rfl
  i53 := by kernel_rfl
  i171 := by kernel_rfl
  i173 := by kernel_rfl
  i212 := by kernel_rfl
  i232 := by kernel_rfl
  i233 := by kernel_rfl
  m17 := by kernel_rfl
  m18 := by kernel_rfl
  m19 := by kernel_rfl }
open Go.RowKit Go.Sort Go.Lib in
theorem Tryd.strconv_Itoa (n : Int) (h0 : -9223372036854775808 ≤ n) (h1 : n ≤ 9223372036854775807) (w : World) (htab : Lib.TabIs Tryd.prog w "internal/strconv.uint64pow10" .u64 Lib.pow10Tab) :
    Calls Tryd.prog 55 #[.int .i64 n] w fun e w' => e = .returned (.string ⟨(Lib.itoa n).toArray⟩) ∧ ∃ k os, w' = grow (w.drewN k) os := Any.strconv_Itoa Tryd.laysM171 n h0 h1 w htab
def Tryd.lays171_ren : Go.Shelf.Ren := ⟨fun | 171 => 55 | 243 => 72 | 246 => 84 | 283 => 92 | 284 => 93 | 285 => 94 | 286 => 95 | 129 => 99 | 317 => 98 | 318 => 100 | 319 => 101 | 320 => 102 | 337 => 103 | 338 => 91 | n => n, fun | 3 => 3 | 9 => 9 | 2 => 2 | 4 => 4 | 171 => 163 | 0 => 0 | 53 => 91 | 37 => 135 | 5 => 5 | 173 => 165 | 212 => 172 | 51 => 156 | 20 => 20 | 213 => 173 | 46 => 130 | 232 => 176 | 233 => 170 | n => n, fun | 17 => 1 | 18 => 3 | 19 => 0 | n => n⟩
theorem Tryd.lays171 : Go.Proofs.Lays.n171 Tryd.prog Tryd.lays171_ren := {
  mixed := by kernel_rfl
  f129 := Tryd.func99.trans (congrArg some (by kernel_rfl))
  f171 := Tryd.func55.trans (congrArg some (by kernel_rfl))
  f243 := Tryd.func72.trans (congrArg some (by kernel_rfl))
  f246 := Tryd.func84.trans (congrArg some (by kernel_rfl))
  f283 := Tryd.func92.trans (congrArg some (by kernel_rfl))
  f284 := Tryd.func93.trans (congrArg some (by kernel_rfl))
  f285 := Tryd.func94.trans (congrArg some (by kernel_rfl))
  f286 := Tryd.func95.trans (congrArg some (by kernel_rfl))
  f317 := Tryd.func98.trans (congrArg some (by kernel_rfl))
  f318 := Tryd.func100.trans (congrArg some (by kernel_rfl))
  f319 := Tryd.func101.trans (congrArg some (by kernel_rfl))
  f320 := Tryd.func102.trans (congrArg some (by kernel_rfl))
  f337 := Tryd.func103.trans (congrArg some (by kernel_rfl))
  f338 := Tryd.func91.trans (congrArg some (by kernel_rfl))
  t0 := Tryd.underlying0
  a0 := Tryd.isAgg0
  z0 := Tryd.sizeOf0
  v0 := Tryd.zeroValue0
  t2 := Tryd.underlying2
  a2 := Tryd.isAgg2
  z2 := Tryd.sizeOf2
  v2 := Tryd.zeroValue2
  t3 := Tryd.underlying3
  a3 := Tryd.isAgg3
  z3 := Tryd.sizeOf3
  v3 := Tryd.zeroValue3
  t4 := Tryd.underlying4
  a4 := Tryd.isAgg4
  z4 := Tryd.sizeOf4
  v4 := Tryd.zeroValue4
  t5 := Tryd.underlying5
  a5 := Tryd.isAgg5
  z5 := Tryd.sizeOf5
  v5 := Tryd.zeroValue5
  t9 := Tryd.underlying9
  a9 := Tryd.isAgg9
  z9 := Tryd.sizeOf9
  v9 := Tryd.zeroValue9
  t20 := Tryd.underlying20
  a20 := Tryd.isAgg20
  z20 := Tryd.sizeOf20
  v20 := Tryd.zeroValue20
  t37 := Tryd.underlying135
  a37 := Tryd.isAgg135
  z37 := Tryd.sizeOf135
  v37 := Tryd.zeroValue135
  t46 := Tryd.underlying130
  a46 := Tryd.isAgg130
  z46 := Tryd.sizeOf130
  v46 := Tryd.zeroValue130
  t51 := Tryd.underlying156
  a51 := Tryd.isAgg156
  z51 := Tryd.sizeOf156
  v51 := Tryd.zeroValue156
  t53 := Tryd.underlying91
  a53 := Tryd.isAgg91
  z53 := Tryd.sizeOf91
  v53 := Tryd.zeroValue91
  t171 := Tryd.underlying163
  a171 := Tryd.isAgg163
  z171 := Tryd.sizeOf163
  v171 := Tryd.zeroValue163
  t173 := Tryd.underlying165
  a173 := Tryd.isAgg165
  z173 := Tryd.sizeOf165
  v173 := Tryd.zeroValue165
  t212 := Tryd.underlying172
  a212 := Tryd.isAgg172
  z212 := Tryd.sizeOf172
  v212 := Tryd.zeroValue172
  t213 := Tryd.underlying173
  a213 := Tryd.isAgg173
  z213 := Tryd.sizeOf173
  t232 := Tryd.underlying176
  a232 := Tryd.isAgg176
  z232 := Tryd.sizeOf176
  v232 := Tryd.zeroValue176
  t233 := Tryd.underlying170
  a233 := Tryd.isAgg170
  z233 := Tryd.sizeOf170
  v233 := Tryd.zeroValue170
  g17 := by kernel_rfl
  g18 := by kernel_rfl
  g19 := by kernel_rfl }
open Go.RowKit Go.Sort Go.Lib in
theorem Tryd.strconv_Itoa_small (i : Nat) (hi : i < 100) (w : World) :
    Calls Tryd.prog 55 #[.int .i64 i] w fun e w' => e = .returned (.string ⟨(Lib.decDigits i).toArray⟩) ∧ w' = w := Any.strconv_Itoa_small Tryd.lays171 i hi w
def Tryd.lays206_ren : Go.Shelf.Ren := ⟨fun | 206 => 87 | n => n, fun | 9 => 9 | 4 => 4 | 3 => 3 | n => n, fun | n => n⟩
theorem Tryd.lays206 : Go.Proofs.Lays.n206 Tryd.prog Tryd.lays206_ren := {
  mixed := by kernel_rfl
  f206 := Tryd.func87.trans (congrArg some (by kernel_rfl))
  t3 := Tryd.underlying3
  a3 := Tryd.isAgg3
  z3 := Tryd.sizeOf3
  v3 := Tryd.zeroValue3
  t4 := Tryd.underlying4
  a4 := Tryd.isAgg4
  z4 := Tryd.sizeOf4
  v4 := Tryd.zeroValue4
  t9 := Tryd.underlying9
  a9 := Tryd.isAgg9
  z9 := Tryd.sizeOf9
  v9 := Tryd.zeroValue9 }
open Go.RowKit Go.Lib in
theorem Tryd.stringslite_HasPrefix (s p : ByteArray) (w : World) :
    Calls Tryd.prog 87 #[.string s, .string p] w fun e w' => e = .returned (.bool (Lib.hasPrefix s.data.toList p.data.toList)) ∧ w' = w := Any.stringslite_HasPrefix Tryd.lays206 s p w
def Tryd.lays99_ren : Go.Shelf.Ren := ⟨fun | 99 => 74 | 206 => 87 | n => n, fun | 9 => 9 | 4 => 4 | 3 => 3 | n => n, fun | n => n⟩
theorem Tryd.lays99 : Go.Proofs.Lays.n99 Tryd.prog Tryd.lays99_ren := {
  mixed := by kernel_rfl
  f99 := Tryd.func74.trans (congrArg some (by kernel_rfl))
  f206 := Tryd.func87.trans (congrArg some (by kernel_rfl))
  t3 := Tryd.underlying3
  a3 := Tryd.isAgg3
  z3 := Tryd.sizeOf3
  v3 := Tryd.zeroValue3
  t4 := Tryd.underlying4
  a4 := Tryd.isAgg4
  z4 := Tryd.sizeOf4
  v4 := Tryd.zeroValue4
  t9 := Tryd.underlying9
  a9 := Tryd.isAgg9
  z9 := Tryd.sizeOf9
  v9 := Tryd.zeroValue9 }
open Go.RowKit Go.Lib in
theorem Tryd.strings_HasPrefix (s p : ByteArray) (w : World) :
    Calls Tryd.prog 74 #[.string s, .string p] w fun e w' => e = .returned (.bool (Lib.hasPrefix s.data.toList p.data.toList)) ∧ w' = w := Any.strings_HasPrefix Tryd.lays99 s p w
def Tryd.lays264_ren : Go.Shelf.Ren := ⟨fun | 264 => 86 | n => n, fun | 53 => 91 | 46 => 130 | n => n, fun | n => n⟩
theorem Tryd.lays264 : Go.Proofs.Lays.n264 Tryd.prog Tryd.lays264_ren := {
  mixed := by kernel_rfl
  f264 := Tryd.func86.trans (congrArg some (by kernel_rfl))
  t46 := Tryd.underlying130
  a46 := Tryd.isAgg130
  z46 := Tryd.sizeOf130
  v46 := Tryd.zeroValue130
  t53 := Tryd.underlying91
  a53 := Tryd.isAgg91
  z53 := Tryd.sizeOf91
  v53 := Tryd.zeroValue91 }
open Go.RowKit Go.Lib in
theorem Tryd.bits_Mul64 (x y : Nat) (hx : x < 18446744073709551616) (hy : y < 18446744073709551616) (w : World) :
    Calls Tryd.prog 86 #[.int .u64 x, .int .u64 y] w fun e w' => e = .returned (.tuple #[.int .u64 ((x * y / 18446744073709551616 : Nat) : Int), .int .u64 ((x * y % 18446744073709551616 : Nat) : Int)]) ∧ w' = w := Any.bits_Mul64 Tryd.lays264 x y hx hy w
def Tryd.lays212_ren : Go.Shelf.Ren := ⟨fun | 212 => 73 | 263 => 85 | 264 => 86 | n => n, fun | 46 => 130 | 51 => 156 | 146 => 157 | 53 => 91 | 148 => 159 | n => n, fun | n => n⟩
theorem Tryd.lays212 : Go.Proofs.Lays.n212 Tryd.prog Tryd.lays212_ren := {
  mixed := by kernel_rfl
  f212 := Tryd.func73.trans (congrArg some (by kernel_rfl))
  f263 := Tryd.func85.trans (congrArg some (by kernel_rfl))
  f264 := Tryd.func86.trans (congrArg some (by kernel_rfl))
  t46 := Tryd.underlying130
  a46 := Tryd.isAgg130
  z46 := Tryd.sizeOf130
  v46 := Tryd.zeroValue130
  t51 := Tryd.underlying156
  a51 := Tryd.isAgg156
  z51 := Tryd.sizeOf156
  v51 := Tryd.zeroValue156
  t53 := Tryd.underlying91
  a53 := Tryd.isAgg91
  z53 := Tryd.sizeOf91
  v53 := Tryd.zeroValue91
  t146 := Tryd.underlying157
  a146 := Tryd.isAgg157
  z146 := Tryd.sizeOf157
  v146 := Tryd.zeroValue157
  t148 := Tryd.underlying159
  a148 := Tryd.isAgg159
  z148 := Tryd.sizeOf159
  v148 := Tryd.zeroValue159 }
open Go.RowKit Go.Lib in
theorem Tryd.bits_Mul (x y : Nat) (hx : x < 18446744073709551616) (hy : y < 18446744073709551616) (w : World) :
    Calls Tryd.prog 73 #[.int .u64 x, .int .u64 y] w fun e w' => e = .returned (.tuple #[.int .u64 ((x * y / 18446744073709551616 : Nat) : Int), .int .u64 ((x * y % 18446744073709551616 : Nat) : Int)]) ∧ w' = w := Any.bits_Mul Tryd.lays212 x y hx hy w
def Tryd.lays105_ren : Go.Shelf.Ren := ⟨fun | 105 => 60 | 212 => 73 | 99 => 74 | 165 => 75 | 166 => 76 | 170 => 77 | 169 => 78 | 263 => 85 | 264 => 86 | 206 => 87 | 240 => 88 | 241 => 89 | 276 => 96 | 277 => 97 | n => n, fun | 9 => 9 | 3 => 3 | 4 => 4 | 20 => 20 | 0 => 0 | 46 => 130 | 109 => 131 | 5 => 5 | 72 => 137 | 76 => 141 | 51 => 156 | 146 => 157 | 53 => 91 | 148 => 159 | 70 => 134 | 37 => 135 | 75 => 140 | 127 => 161 | 164 => 167 | 80 => 144 | n => n, fun | n => n⟩
theorem Tryd.lays105 : Go.Proofs.Lays.n105 Tryd.prog Tryd.lays105_ren := {
  mixed := by kernel_rfl
  f99 := Tryd.func74.trans (congrArg some (by kernel_rfl))
  f105 := Tryd.func60.trans (congrArg some (by kernel_rfl))
  f165 := Tryd.func75.trans (congrArg some (by kernel_rfl))
  f166 := Tryd.func76.trans (congrArg some (by kernel_rfl))
  f169 := Tryd.func78.trans (congrArg some (by kernel_rfl))
  f170 := Tryd.func77.trans (congrArg some (by kernel_rfl))
  f206 := Tryd.func87.trans (congrArg some (by kernel_rfl))
  f212 := Tryd.func73.trans (congrArg some (by kernel_rfl))
  f240 := Tryd.func88.trans (congrArg some (by kernel_rfl))
  f241 := Tryd.func89.trans (congrArg some (by kernel_rfl))
  f263 := Tryd.func85.trans (congrArg some (by kernel_rfl))
  f264 := Tryd.func86.trans (congrArg some (by kernel_rfl))
  f276 := Tryd.func96.trans (congrArg some (by kernel_rfl))
  f277 := Tryd.func97.trans (congrArg some (by kernel_rfl))
  t0 := Tryd.underlying0
  a0 := Tryd.isAgg0
  z0 := Tryd.sizeOf0
  v0 := Tryd.zeroValue0
  t3 := Tryd.underlying3
  a3 := Tryd.isAgg3
  z3 := Tryd.sizeOf3
  v3 := Tryd.zeroValue3
  t4 := Tryd.underlying4
  a4 := Tryd.isAgg4
  z4 := Tryd.sizeOf4
  v4 := Tryd.zeroValue4
  t5 := Tryd.underlying5
  a5 := Tryd.isAgg5
  z5 := Tryd.sizeOf5
  v5 := Tryd.zeroValue5
  t9 := Tryd.underlying9
  a9 := Tryd.isAgg9
  z9 := Tryd.sizeOf9
  v9 := Tryd.zeroValue9
  t20 := Tryd.underlying20
  a20 := Tryd.isAgg20
  z20 := Tryd.sizeOf20
  v20 := Tryd.zeroValue20
  t37 := Tryd.underlying135
  a37 := Tryd.isAgg135
  z37 := Tryd.sizeOf135
  v37 := Tryd.zeroValue135
  t46 := Tryd.underlying130
  a46 := Tryd.isAgg130
  z46 := Tryd.sizeOf130
  v46 := Tryd.zeroValue130
  t51 := Tryd.underlying156
  a51 := Tryd.isAgg156
  z51 := Tryd.sizeOf156
  v51 := Tryd.zeroValue156
  t53 := Tryd.underlying91
  a53 := Tryd.isAgg91
  z53 := Tryd.sizeOf91
  v53 := Tryd.zeroValue91
  t70 := Tryd.underlying134
  a70 := Tryd.isAgg134
  z70 := Tryd.sizeOf134
  v70 := Tryd.zeroValue134
  t72 := Tryd.underlying137
  a72 := Tryd.isAgg137
  z72 := Tryd.sizeOf137
  v72 := Tryd.zeroValue137
  t75 := Tryd.underlying140
  a75 := Tryd.isAgg140
  z75 := Tryd.sizeOf140
  v75 := Tryd.zeroValue140
  t76 := Tryd.underlying141
  a76 := Tryd.isAgg141
  z76 := Tryd.sizeOf141
  v76 := Tryd.zeroValue141
  t109 := Tryd.underlying131
  a109 := Tryd.isAgg131
  z109 := Tryd.sizeOf131
  v109 := Tryd.zeroValue131
  t127 := Tryd.underlying161
  a127 := Tryd.isAgg161
  z127 := Tryd.sizeOf161
  v127 := Tryd.zeroValue161
  t146 := Tryd.underlying157
  a146 := Tryd.isAgg157
  z146 := Tryd.sizeOf157
  v146 := Tryd.zeroValue157
  t148 := Tryd.underlying159
  a148 := Tryd.isAgg159
  z148 := Tryd.sizeOf159
  v148 := Tryd.zeroValue159
  t164 := Tryd.underlying167
  a164 := Tryd.isAgg167
  z164 := Tryd.sizeOf167
  v164 := Tryd.zeroValue167 }
theorem Tryd.Builder_Extra_105 : Builder.Extra Tryd.prog Tryd.lays105_ren := {
  sizeBuilder := by kernel_rfl
  liesBuilder := by kernel_rfl
  t5 := Tryd.underlying5
  a5 := Tryd.isAgg5
  z5 := Tryd.sizeOf5
  v5 := Tryd.zeroValue5
  infoByte := by kernel_rfl
  cellsByte := by kernel_rfl
  sizeByte := by kernel_rfl
  neB5 := by decide }
open Go.RowKit Go.Lib in
theorem Tryd.strings_Repeat_main (s : ByteArray) (c : Nat) (w : World) (hc2 : 2 ≤ c) (hc : c ≤ 9223372036854775807) (hlen : s.size * c ≤ 140737488355328) (h0 : 0 < s.size) :
    Calls Tryd.prog 60 #[.string s, .int .i64 c] w fun e w' => e = .returned (.string ⟨(Lib.repeatL s.data.toList c).toArray⟩) ∧ Below w.heap.size w w' := Any.strings_Repeat_main Tryd.lays105 Tryd.Builder_Extra_105 s c w hc2 hc hlen h0
open Go.RowKit Go.Lib in
theorem Tryd.strings_Repeat_zero (s : ByteArray) (w : World) :
    Calls Tryd.prog 60 #[.string s, .int .i64 0] w fun e w' => e = .returned (.string ⟨#[]⟩) ∧ w' = w := Any.strings_Repeat_zero Tryd.lays105 s w
open Go.RowKit Go.Lib in
theorem Tryd.strings_Repeat_one (s : ByteArray) (w : World) :
    Calls Tryd.prog 60 #[.string s, .int .i64 1] w fun e w' => e = .returned (.string s) ∧ w' = w := Any.strings_Repeat_one Tryd.lays105 s w
open Go.RowKit Go.Lib in
theorem Tryd.strings_Repeat_empty (s : ByteArray) (c : Nat) (w : World) (hc2 : 2 ≤ c) (hc : c ≤ 9223372036854775807) (h0 : s.size = 0) :
    Calls Tryd.prog 60 #[.string s, .int .i64 c] w fun e w' => e = .returned (.string ⟨#[]⟩) ∧ w' = w := Any.strings_Repeat_empty Tryd.lays105 s c w hc2 hc h0
open Go.RowKit Go.Lib in
theorem Tryd.strings_Repeat_negative (s : ByteArray) (c : Int) (w : World) (hc : c < 0) :
    Calls Tryd.prog 60 #[.string s, .int .i64 c] w fun e w' => e = .panicked [{ v := repeatPanic Tryd.lays105_ren "strings: negative Repeat count", recovered := false }] ∧ w' = w := Any.strings_Repeat_negative Tryd.lays105 s c w hc
open Go.RowKit Go.Lib in
theorem Tryd.strings_Repeat_overflow (s : ByteArray) (c : Nat) (w : World) (hc : c ≤ 9223372036854775807) (hs : s.size ≤ 9223372036854775807) (hbig : 9223372036854775807 < s.size * c) :
    Calls Tryd.prog 60 #[.string s, .int .i64 c] w fun e w' => e = .panicked [{ v := repeatPanic Tryd.lays105_ren "strings: Repeat output length overflow", recovered := false }] ∧ w' = w := Any.strings_Repeat_overflow Tryd.lays105 s c w hc hs hbig
open Go.RowKit Go.Lib in
theorem Tryd.strings_Repeat (s : ByteArray) (c : Nat) (w : World) (hc : c ≤ 9223372036854775807) (hlen : s.size * c ≤ 140737488355328) :
    Calls Tryd.prog 60 #[.string s, .int .i64 c] w fun e w' => e = .returned (.string ⟨(Lib.repeatL s.data.toList c).toArray⟩) ∧ Below w.heap.size w w' := Any.strings_Repeat Tryd.lays105 Tryd.Builder_Extra_105 s c w hc hlen
def Tryd.lays112_ren : Go.Shelf.Ren := ⟨fun | 112 => 42 | n => n, fun | 28 => 25 | 3 => 3 | 4 => 4 | 0 => 0 | n => n, fun | n => n⟩
theorem Tryd.lays112 : Go.Proofs.Lays.n112 Tryd.prog Tryd.lays112_ren := {
  mixed := by kernel_rfl
  f112 := Tryd.func42.trans (congrArg some (by kernel_rfl))
  t0 := Tryd.underlying0
  a0 := Tryd.isAgg0
  z0 := Tryd.sizeOf0
  v0 := Tryd.zeroValue0
  t3 := Tryd.underlying3
  a3 := Tryd.isAgg3
  z3 := Tryd.sizeOf3
  v3 := Tryd.zeroValue3
  t4 := Tryd.underlying4
  a4 := Tryd.isAgg4
  z4 := Tryd.sizeOf4
  v4 := Tryd.zeroValue4
  t28 := Tryd.underlying25
  a28 := Tryd.isAgg25
  z28 := Tryd.sizeOf25
  v28 := Tryd.zeroValue25 }
open Go.RowKit Go.Lib Go.Sort in
theorem Tryd.slices_Reverse_int_arr (blk off cap : Nat) (d : Array Int) (w : World) (hH : Holds encI w blk off d) (hsz : d.size ≤ 9223372036854775807) :
    Calls Tryd.prog 42 #[.slice (some ⟨blk, off, none⟩) d.size cap] w fun e w' => e = .returned (.tuple #[]) ∧ ∃ n, w' = putRow encI (Sort.ahead w n) blk off d.reverse := Any.slices_Reverse_int_arr Tryd.lays112 blk off cap d w hH hsz
open Go.RowKit Go.Lib Go.Sort in
theorem Tryd.slices_Reverse_int (blk off cap : Nat) (zs : List Int) (w : World) (hH : Holds (Value.int .i64) w blk off zs.toArray) (hsz : zs.length ≤ 9223372036854775807) :
    Calls Tryd.prog 42 #[.slice (some ⟨blk, off, none⟩) zs.length cap] w fun e w' => e = .returned (.tuple #[]) ∧ ∃ n, w' = putRow (Value.int .i64) (Sort.ahead w n) blk off zs.reverse.toArray := Any.slices_Reverse_int Tryd.lays112 blk off cap zs w hH hsz
open Go.RowKit Go.Lib Go.Sort in
theorem Tryd.slices_Reverse_int_empty (a : Option Addr) (cap : Nat) (w : World) :
    Calls Tryd.prog 42 #[.slice a 0 cap] w fun e w' => e = .returned (.tuple #[]) ∧ w' = w := Any.slices_Reverse_int_empty Tryd.lays112 a cap w
open Go.RowKit Go.Lib Go.Sort in
theorem Tryd.slices_Reverse_int_cells (b off n c : Nat) (zs : List Int) (w : World) (hz : n ≤ zs.length) (hbig : n ≤ 9223372036854775807) (hc : ∀ j, j < zs.length → w.cell? ⟨b, off + j, none⟩ = some (.int .i64 (zs.getD j 0))) (hf : ∀ j, j < n → w.frozen? ⟨b, off + j, none⟩ = false) :
    Calls Tryd.prog 42 #[.slice (some ⟨b, off, none⟩) n c] w fun e w' => e = .returned (.tuple #[]) ∧ ∃ q, w' = (w.drewN q).setCells b off ((zs.take n).reverse.map (Value.int .i64)) := Any.slices_Reverse_int_cells Tryd.lays112 b off n c zs w hz hbig hc hf
end Go.Proofs
/-
  The library's tables that stay through whatever only makes memory of its own.
-/
namespace Go.Proofs.YtiahgcaenneonaaDoor
open Go.RowKit Kv
def deBruijn64 : List Int := [0, 1, 56, 2, 57, 49, 28, 3, 61, 58, 42, 50, 38, 29, 17, 4, 62, 47, 59, 36, 45, 43, 51, 22, 53, 39, 33, 30, 24, 18, 12, 5, 63, 55, 48, 27, 60, 41, 37, 16, 46, 35, 44, 21, 52, 32, 23, 11, 54, 26, 40, 15, 34, 20, 31, 10, 25, 14, 19, 9, 13, 8, 7, 6]
/-- The tables that the library reads. -/
structure Tabs (w : World) : Prop where
  pow10 : Lib.TabIs Tryd.prog w "internal/strconv.uint64pow10" .u64 Lib.pow10Tab
  bruijn : Lib.TabIs Tryd.prog w "math/bits.deBruijn64tab" .u8 deBruijn64
theorem Tabs.ext {w w' : World} (h : Tabs w) (hx : Ext w w') : Tabs w' :=
  ⟨Lib.tabBelow_of_tabIs h.pow10 _ hx, Lib.tabBelow_of_tabIs h.bruijn _ hx⟩
end Go.Proofs.YtiahgcaenneonaaDoor
/-
  Layer 4 (plane): parts and points: program and document.
-/
namespace Go.Proofs.YtiahgcaenneonaaDoor
open Go.RowKit Kv
theorem whole_p (x : Nat) (w : World) :
    Calls Tryd.prog 52 #[.float .f64 x] w fun e w' => (∃ n : Int, e = .returned (.tuple #[.int .i64 n, .bool (partOf x).isSome]) ∧ ∀ m, partOf x = some m → n = m) ∧ w = w' := by
  cases cls_of x with
  | whole n hn h1 h2 hp =>
    have c1 := geqB hn num_lo
    have c2 := leqB hn num_hi
    have c3 := eqB (num_F n (by omega) (by omega)) hn
    rw [decU_le, decide_eq_true h1] at c1
    rw [decU_le, decide_eq_true h2] at c2
    rw [decide_eq_true rfl] at c3
    have hcv := fun W => run_convert_float_int (P := Tryd.prog) W 51 3 .f64 .i64 x n (by kernel_rfl) (by kernel_rfl) (toInt_whole hn h1 h2)
    rw [hp]
    clear hp hn h1 h2
    go_enter Tryd.func52, Tryd.ntmps52
    go_wp2_with fail
    go_ret2
    exact ⟨⟨n, rfl, fun m hm => by injection hm⟩, rfl⟩
  | broken v hv h1 h2 h3 hp =>
    have c1 := geqB hv num_lo
    have c2 := leqB hv num_hi
    obtain ⟨q1, q2⟩ := broken_cut h1 h2
    have c3 := eqB (num_F (v.tdiv U) (by omega) (by omega)) hv
    rw [decide_eq_true h1] at c1
    rw [decide_eq_true h2] at c2
    rw [decide_eq_false (broken_ne _ h3)] at c3
    have hcv := fun W => run_convert_float_int (P := Tryd.prog) W 51 3 .f64 .i64 x (v.tdiv U) (by kernel_rfl) (by kernel_rfl) (toInt_broken hv h1 h2)
    rw [hp]
    generalize v.tdiv U = n at *
    clear hp hv h1 h2 h3 q1 q2
    go_enter Tryd.func52, Tryd.ntmps52
    go_wp2_with fail
    go_ret2
    exact ⟨⟨n, rfl, fun m hm => by cases hm⟩, rfl⟩
  | low h h2 hp =>
    have c1 : (FloatKind.f64.format.order x 13920626448202203136 == some Ordering.gt || FloatKind.f64.format.order x 13920626448202203136 == some Ordering.eq) = false := by rw [h]; rfl
    rw [hp]
    clear hp h h2
    go_enter Tryd.func52, Tryd.ntmps52
    go_wp2_with fail
    go_ret2
    exact ⟨⟨0, rfl, fun m hm => by cases hm⟩, rfl⟩
  | high h h1 h2 hp =>
    have c1 : (FloatKind.f64.format.order x 13920626448202203136 == some Ordering.gt || FloatKind.f64.format.order x 13920626448202203136 == some Ordering.eq) = true := by rw [h]; rfl
    have c2 : (FloatKind.f64.format.order x 4697254411347427328 == some Ordering.lt || FloatKind.f64.format.order x 4697254411347427328 == some Ordering.eq) = false := by rw [h1]; rfl
    rw [hp]
    clear hp h h1 h2
    go_enter Tryd.func52, Tryd.ntmps52
    go_wp2_with fail
    go_ret2
    exact ⟨⟨0, rfl, fun m hm => by cases hm⟩, rfl⟩
  | nan h hp =>
    have c1 : (FloatKind.f64.format.order x 13920626448202203136 == some Ordering.gt || FloatKind.f64.format.order x 13920626448202203136 == some Ordering.eq) = false := by rw [h]; rfl
    rw [hp]
    clear hp h
    go_enter Tryd.func52, Tryd.ntmps52
    go_wp2_with fail
    go_ret2
    exact ⟨⟨0, rfl, fun m hm => by cases hm⟩, rfl⟩
/-- The document's search. -/
theorem part_core (x : Nat) (g : Int) (b : Bool) (w : World) (h1 : -1048576 ≤ g) (h2 : g ≤ 1048576)
    (d0 : (FloatKind.f64.format.order x x != some Ordering.eq) = false) (d1 : (FloatKind.f64.format.order x 13920626448202203136 == some Ordering.lt) = false)
    (d2 : (FloatKind.f64.format.order x 4697254411347427328 == some Ordering.gt) = false) (d3 : (FloatKind.f64.format.order (floatOfInt .f64 g) x == some Ordering.eq) = b)
    (hle : ∀ m : Int, -1048576 ≤ m → m ≤ 1048576 → (FloatKind.f64.format.order (floatOfInt .f64 m) x == some Ordering.lt || FloatKind.f64.format.order (floatOfInt .f64 m) x == some Ordering.eq) = decide (m ≤ g)) :
    Calls Tryd.prog 51 #[.float .f64 x] w fun e w' => e = .returned (.tuple #[.int .i64 g, .bool b]) ∧ w = w' := by
  have HL := Lib.hid hle
  clear hle
  go_enter Tryd.func51, Tryd.ntmps51
  go_wp2_with fail
  go_loopw [4, 5] (fun p q wr => ∃ lo hi : Int, p = .int .i64 lo ∧ q = .int .i64 hi ∧ -1048576 ≤ lo ∧ hi ≤ 1048576 ∧ lo ≤ g ∧ g ≤ hi ∧ w = wr) (fun p q _ => (intOf q - intOf p).toNat)
  case atStart => exact ⟨_, _, rfl, rfl, by omega, by omega, by omega, by omega, rfl⟩
  case round =>
    obtain ⟨lo, hi, rfl, rfl, a1, a2, a3, a4, rfl⟩ := hrel
    by_cases hlt : lo < hi
    · have hm1 : -1048576 ≤ lo + (hi - lo + 1) / 2 := by omega
      have hm2 : lo + (hi - lo + 1) / 2 ≤ 1048576 := by omega
      have hq := HL.out _ hm1 hm2
      by_cases hmg : lo + (hi - lo + 1) / 2 ≤ g
      · rw [decide_eq_true hmg] at hq
        go_wp2_with fail
        exact ⟨⟨_, _, rfl, rfl, by omega, by omega, by omega, by omega, trivial⟩, by simp only [intOf]; omega⟩
      · rw [decide_eq_false hmg] at hq
        go_wp2_with fail
        exact ⟨⟨_, _, rfl, rfl, by omega, by omega, by omega, by omega, trivial⟩, by simp only [intOf]; omega⟩
    · obtain rfl : lo = g := by omega
      go_wp2_with fail
      go_ret2
      exact ⟨rfl, rfl⟩
theorem part_r (x : Nat) (w : World) :
    Calls Tryd.prog 51 #[.float .f64 x] w fun e w' => (∃ n : Int, e = .returned (.tuple #[.int .i64 n, .bool (partOf x).isSome]) ∧ ∀ m, partOf x = some m → n = m) ∧ w = w' := by
  cases cls_of x with
  | whole n hn h1 h2 hp =>
    have d0 := neB hn hn
    have d1 := ltB hn num_lo
    have d2 := gtB hn num_hi
    rw [decide_eq_false (by simp)] at d0
    rw [decide_eq_false (by have := mulU_le h1; omega)] at d1
    rw [decide_eq_false (by have := mulU_le h2; omega)] at d2
    have d3 := eqB (num_F n (by omega) (by omega)) hn
    rw [decide_eq_true rfl] at d3
    rw [hp]
    refine (part_core x n true w h1 h2 d0 d1 d2 d3 (fun m hm1 hm2 => by rw [leqB (num_F m (by omega) (by omega)) hn, decU_le])).mono ?_
    rintro e w' ⟨rfl, rfl⟩
    exact ⟨⟨n, rfl, fun m hm => by injection hm⟩, rfl⟩
  | broken v hv h1 h2 h3 hp =>
    have hU := Ui_pos
    have d0 := neB hv hv
    have d1 := ltB hv num_lo
    have d2 := gtB hv num_hi
    rw [decide_eq_false (by simp)] at d0
    rw [decide_eq_false (by omega)] at d1
    rw [decide_eq_false (by omega)] at d2
    have q1 : -1048576 ≤ v / (U : Int) := Int.le_ediv_of_mul_le hU h1
    have q2 : v / (U : Int) ≤ 1048576 := by
      have : v / (U : Int) < 1048577 := Int.ediv_lt_of_lt_mul hU (by omega)
      omega
    have d3 := eqB (num_F (v / (U : Int)) (by omega) (by omega)) hv
    rw [decide_eq_false (broken_ne _ h3)] at d3
    rw [hp]
    refine (part_core x (v / (U : Int)) false w q1 q2 d0 d1 d2 d3 (fun m hm1 hm2 => by
      rw [leqB (num_F m (by omega) (by omega)) hv, decide_eq_decide]
      exact ⟨fun h => Int.le_ediv_of_mul_le hU h, fun h => Int.mul_le_of_le_ediv hU h⟩)).mono ?_
    rintro e w' ⟨rfl, rfl⟩
    exact ⟨⟨_, rfl, fun m hm => by cases hm⟩, rfl⟩
  | low h h2 hp =>
    have c0 : (FloatKind.f64.format.order x x != some Ordering.eq) = false := by rw [h2]; rfl
    have c1 : (FloatKind.f64.format.order x 13920626448202203136 == some Ordering.lt) = true := by rw [h]; rfl
    rw [hp]
    clear hp h h2
    go_enter Tryd.func51, Tryd.ntmps51
    go_wp2_with fail
    go_ret2
    exact ⟨⟨0, rfl, fun m hm => by cases hm⟩, rfl⟩
  | high h h1 h2 hp =>
    have c0 : (FloatKind.f64.format.order x x != some Ordering.eq) = false := by rw [h2]; rfl
    have c1 : (FloatKind.f64.format.order x 13920626448202203136 == some Ordering.lt) = false := by rw [h]; rfl
    have c2 : (FloatKind.f64.format.order x 4697254411347427328 == some Ordering.gt) = true := by rw [h1]; rfl
    rw [hp]
    clear hp h h1 h2
    go_enter Tryd.func51, Tryd.ntmps51
    go_wp2_with fail
    go_ret2
    exact ⟨⟨0, rfl, fun m hm => by cases hm⟩, rfl⟩
  | nan h hp =>
    have c0 : (FloatKind.f64.format.order x x != some Ordering.eq) = true := by rw [h]; rfl
    rw [hp]
    clear hp h
    go_enter Tryd.func51, Tryd.ntmps51
    go_wp2_with fail
    go_ret2
    exact ⟨⟨0, rfl, fun m hm => by cases hm⟩, rfl⟩
/-- The point that two words are. -/
def ptOf (a b : Nat) : Option (Int × Int) :=
  match partOf a, partOf b with
  | some x, some y => some (x, y)
  | _, _ => none
def ptX (p : Option (Int × Int)) : Int := match p with | some (x, _) => x | none => 0
def ptY (p : Option (Int × Int)) : Int := match p with | some (_, y) => y | none => 0
theorem parts_p (a b : Nat) (w : World) :
    Calls Tryd.prog 19 #[.complex .f64 a b] w fun e w' => e = .returned (.tuple #[.int .i64 (ptX (ptOf a b)), .int .i64 (ptY (ptOf a b)), .bool (ptOf a b).isSome]) ∧ w = w' := by
  have hA := whole_p a
  have hB := whole_p b
  unfold ptOf
  cases ha : partOf a with
  | none =>
    rw [ha] at hA
    cases hb : partOf b with
    | none =>
      rw [hb] at hB
      go_enter Tryd.func19, Tryd.ntmps19
      go_wp2_with fail
      refine (hA _).mono ?_
      rintro e w' ⟨⟨n, rfl, hn⟩, rfl⟩
      go_wp2_with fail
      refine (hB _).mono ?_
      rintro e w' ⟨⟨m, rfl, hm⟩, rfl⟩
      go_wp2_with fail
      go_ret3
      exact ⟨rfl, rfl⟩
    | some y =>
      rw [hb] at hB
      go_enter Tryd.func19, Tryd.ntmps19
      go_wp2_with fail
      refine (hA _).mono ?_
      rintro e w' ⟨⟨n, rfl, hn⟩, rfl⟩
      go_wp2_with fail
      refine (hB _).mono ?_
      rintro e w' ⟨⟨m, rfl, hm⟩, rfl⟩
      go_wp2_with fail
      go_ret3
      exact ⟨rfl, rfl⟩
  | some x =>
    rw [ha] at hA
    cases hb : partOf b with
    | none =>
      rw [hb] at hB
      go_enter Tryd.func19, Tryd.ntmps19
      go_wp2_with fail
      refine (hA _).mono ?_
      rintro e w' ⟨⟨n, rfl, hn⟩, rfl⟩
      go_wp2_with fail
      refine (hB _).mono ?_
      rintro e w' ⟨⟨m, rfl, hm⟩, rfl⟩
      go_wp2_with fail
      go_ret3
      exact ⟨rfl, rfl⟩
    | some y =>
      rw [hb] at hB
      go_enter Tryd.func19, Tryd.ntmps19
      go_wp2_with fail
      refine (hA _).mono ?_
      rintro e w' ⟨⟨n, rfl, hn⟩, rfl⟩
      obtain rfl := hn x rfl
      go_wp2_with fail
      refine (hB _).mono ?_
      rintro e w' ⟨⟨m, rfl, hm⟩, rfl⟩
      obtain rfl := hm y rfl
      go_wp2_with fail
      go_ret3
      exact ⟨rfl, rfl⟩
def clampR (x : Int) : Int := max (-1048576) (min x 1048576)
theorem at_p (x y : Int) (w : World) :
    Calls Tryd.prog 30 #[.int .i64 x, .int .i64 y] w fun e w' => e = .returned (.complex .f64 (floatOfInt .f64 (clampR x)) (floatOfInt .f64 (clampR y))) ∧ w = w' := by
  go_enter Tryd.func30, Tryd.ntmps30
  go_wp2_with fail
  go_ret
  exact ⟨rfl, rfl⟩
theorem of_r (a b : Nat) (w : World) :
    Calls Tryd.prog 18 #[.float .f64 a, .float .f64 b] w fun e w' => e = .returned (.agg #[.int .i64 (ptX (ptOf a b)), .int .i64 (ptY (ptOf a b)), .bool (ptOf a b).isSome]) ∧ Ext w w' := by
  have hA := part_r a
  have hB := part_r b
  unfold ptOf
  cases ha : partOf a with
  | none =>
    rw [ha] at hA
    cases hb : partOf b with
    | none =>
      rw [hb] at hB
      go_enter Tryd.func18, Tryd.ntmps18
      go_wp2_with fail
      refine (hA _).mono ?_
      rintro e w' ⟨⟨n, rfl, hn⟩, rfl⟩
      go_wp2_with fail
      refine (hB _).mono ?_
      rintro e w' ⟨⟨m, rfl, hm⟩, rfl⟩
      go_wp2_with fail
      refine bodyPost_ret (v := .agg #[.int .i64 0, .int .i64 0, .bool false]) (by simp [results, Tryd.results18, go_sem]) rfl ?_
      exact ⟨rfl, (Ext.refl _).alloc _⟩
    | some y =>
      rw [hb] at hB
      go_enter Tryd.func18, Tryd.ntmps18
      go_wp2_with fail
      refine (hA _).mono ?_
      rintro e w' ⟨⟨n, rfl, hn⟩, rfl⟩
      go_wp2_with fail
      refine (hB _).mono ?_
      rintro e w' ⟨⟨m, rfl, hm⟩, rfl⟩
      go_wp2_with fail
      refine bodyPost_ret (v := .agg #[.int .i64 0, .int .i64 0, .bool false]) (by simp [results, Tryd.results18, go_sem]) rfl ?_
      exact ⟨rfl, (Ext.refl _).alloc _⟩
  | some x =>
    rw [ha] at hA
    cases hb : partOf b with
    | none =>
      rw [hb] at hB
      go_enter Tryd.func18, Tryd.ntmps18
      go_wp2_with fail
      refine (hA _).mono ?_
      rintro e w' ⟨⟨n, rfl, hn⟩, rfl⟩
      go_wp2_with fail
      refine (hB _).mono ?_
      rintro e w' ⟨⟨m, rfl, hm⟩, rfl⟩
      go_wp2_with fail
      refine bodyPost_ret (v := .agg #[.int .i64 0, .int .i64 0, .bool false]) (by simp [results, Tryd.results18, go_sem]) rfl ?_
      exact ⟨rfl, (Ext.refl _).alloc _⟩
    | some y =>
      rw [hb] at hB
      go_enter Tryd.func18, Tryd.ntmps18
      go_wp2_with fail
      refine (hA _).mono ?_
      rintro e w' ⟨⟨n, rfl, hn⟩, rfl⟩
      obtain rfl := hn x rfl
      go_wp2_with fail
      refine (hB _).mono ?_
      rintro e w' ⟨⟨m, rfl, hm⟩, rfl⟩
      obtain rfl := hm y rfl
      go_wp2_with fail
      refine bodyPost_ret (v := .agg #[.int .i64 n, .int .i64 m, .bool true]) (by simp [results, Tryd.results18, go_sem]) rfl ?_
      exact ⟨rfl, (Ext.refl _).alloc _⟩
end Go.Proofs.YtiahgcaenneonaaDoor
/-
  The walks of layer 1 (nums) and of the document's answer for it: each function by its contract.
-/
namespace Go.Proofs.YtiahgcaenneonaaDoor
open Go.RowKit Kv

theorem within_any (n lo hi : Int) (w : World) :
    Calls Tryd.prog 47 #[.int .i64 n, .int .i64 lo, .int .i64 hi] w fun e w' => e = .returned (.int .i64 (within n lo hi)) ∧ w = w' := by
  unfold within
  go_enter Tryd.func47, Tryd.ntmps47
  go_wp2
  all_goals go_ret
  all_goals simp [*]
theorem wrap_r (n top : Int) (w : World) :
    Calls Tryd.prog 15 #[.int .i64 n, .int .i64 top] w fun e w' => e = .returned (.int .i64 (wrapI n top)) ∧ w = w' := by
  have h1 := within_bd top 0 1099511627776 (by omega)
  have he := clamp_word top
  have h2 := tmod_neg_fix n (clamp top 1099511627776 + 1) (by omega)
  have h3 := tmod_pos_fix n (clamp top 1099511627776 + 1) (by omega)
  have h4 := Int.emod_lt_of_pos n (b := clamp top 1099511627776 + 1) (by omega)
  have h5 := Int.emod_nonneg n (b := clamp top 1099511627776 + 1) (by omega)
  rw [he] at h2 h3 h4 h5
  have H : Hid ((n.tmod (within top 0 1099511627776 + 1) < 0 → wrap64 (n.tmod (within top 0 1099511627776 + 1) + (within top 0 1099511627776 + 1)) = wrapI n top) ∧ (0 ≤ n.tmod (within top 0 1099511627776 + 1) → n.tmod (within top 0 1099511627776 + 1) = wrapI n top)) := by
    unfold wrapI
    rw [he]
    refine ⟨fun h => ?_, fun h => ?_⟩
    · rw [h2 h, w64 _ (by omega) (by omega)]
    · rw [h3 h]
  clear h2 h3 h4 h5 he
  go_enter Tryd.func15, Tryd.ntmps15
  go_wp2_with (go_at_call 47; refine (within_any _ _ _ _).mono ?_; rintro e w' ⟨rfl, rfl⟩)
  all_goals go_ret
  · exact ⟨ret_int (H.out.1 ‹_›), rfl⟩
  · exact ⟨ret_int (H.out.2 ‹_›), rfl⟩
def strLen : Value → Nat | .string s => s.size | _ => 0
theorem bytes_cat (a b : List UInt8) : (⟨a.toArray⟩ : ByteArray) ++ ⟨b.toArray⟩ = ⟨(a ++ b).toArray⟩ := by
  apply ByteArray.ext
  simp
theorem digit_cut : ∀ d : Fin 10, (⟨#[48, 49, 50, 51, 52, 53, 54, 55, 56, 57]⟩ : ByteArray).extract d.val (d.val + 1) = ⟨[UInt8.ofNat (48 + d.val)].toArray⟩ := by
  decide +kernel
theorem digit_cat (d : Nat) (h : d < 10) (l : List UInt8) : (⟨#[48, 49, 50, 51, 52, 53, 54, 55, 56, 57]⟩ : ByteArray).extract d (d + 1) ++ ⟨l.toArray⟩ = ⟨(UInt8.ofNat (48 + d) :: l).toArray⟩ := by
  have := digit_cut ⟨d, h⟩
  simp only at this
  rw [this, bytes_cat]
  rfl
theorem digits_keep (M m : Nat) (l : List UInt8) (hm : 0 < m ∨ l = []) (h : Go.Lib.decDigits M = (if m = 0 ∧ l ≠ [] then [] else Go.Lib.decDigits m) ++ l) :
    Go.Lib.decDigits M = (if m / 10 = 0 ∧ UInt8.ofNat (48 + m % 10) :: l ≠ [] then [] else Go.Lib.decDigits (m / 10)) ++ (UInt8.ofNat (48 + m % 10) :: l) := by
  rw [if_neg (fun hh => hm.elim (fun h3 => by omega) (fun h3 => hh.2 h3))] at h
  rw [h]
  by_cases h10 : 10 ≤ m
  · rw [decDigits_step m h10, if_neg (by omega)]
    simp
  · rw [decDigits_one m (by omega), if_pos (by simp; omega), show m % 10 = m from by omega]
    rfl
theorem digits_room (M m k : Nat) (hM : M ≤ 9223372036854775808) (h : 10 ^ k * m ≤ M) (hm : 0 < m) : k ≤ 18 := by
  rcases Nat.lt_or_ge 18 k with hk | hk
  · have h1 : 10 ^ 19 ≤ 10 ^ k := Nat.pow_le_pow_right (by omega) hk
    have h2 : 10 ^ k * 1 ≤ 10 ^ k * m := Nat.mul_le_mul_left _ hm
    omega
  · exact hk
theorem digits_room' (M m k : Nat) (h : 10 ^ k * m ≤ M) : 10 ^ (k + 1) * (m / 10) ≤ M := by
  have h2 : 10 ^ k * (10 * (m / 10)) ≤ 10 ^ k * m := Nat.mul_le_mul_left _ (Nat.mul_div_le m 10)
  rw [Nat.pow_succ, Nat.mul_assoc]
  omega
/-- What a round of the document's digits keeps. -/
def DigitsRel (M : Nat) (x s : Value) : Prop := ∃ (m : Nat) (l : List UInt8), x = .int .i64 (-(m : Int)) ∧ s = .string ⟨l.toArray⟩ ∧ m ≤ M ∧ l.length ≤ 20 ∧
  Hid (Go.Lib.decDigits M = (if m = 0 ∧ l ≠ [] then [] else Go.Lib.decDigits m) ++ l) ∧ 10 ^ l.length * m ≤ M
theorem digits_r (n0 : Int) (h0 : -9223372036854775808 ≤ n0) (h1 : n0 ≤ 9223372036854775807) (w : World) :
    Calls Tryd.prog 56 #[.int .i64 n0] w fun e w' => e = .returned (.string ⟨(digits n0).toArray⟩) ∧ w = w' := by
  obtain ⟨M, hM, hMn⟩ : ∃ M : Nat, M ≤ 9223372036854775808 ∧ M = n0.natAbs := ⟨n0.natAbs, by omega, rfl⟩
  have Hd : Hid (digits n0 = (if n0 < 0 then [45] else []) ++ Go.Lib.decDigits M) := by
    unfold Hid digits Go.Lib.itoa
    subst hMn
    by_cases hneg : n0 < 0
    · rw [if_pos hneg, if_pos hneg]; rfl
    · rw [if_neg hneg, if_neg hneg, show n0.natAbs = n0.toNat from by omega]; rfl
  by_cases hneg : n0 < 0
  · obtain rfl : n0 = -(M : Int) := by omega
    clear hMn
    rw [if_pos hneg] at Hd
    go_enter Tryd.func56, Tryd.ntmps56
    go_wp2
    go_loop [0, 4] (fun x s => DigitsRel M x s) (fun x s => (-(intOf x)).toNat + (1 - min 1 (strLen s)))
    case atStart => exact ⟨M, [], rfl, rfl, by omega, by simp, by unfold Hid; simp, by simp⟩
    case round =>
      obtain ⟨m, l, rfl, rfl, hm, hl, H, hr⟩ := hrel
      by_cases hlt : 0 < m
      · have hlt' : (-(m : Int) < 0) := by omega
        have hd : decide (-(m : Int) < 0) = true := by simp; omega
        have hk := digits_room M m l.length hM hr hlt
        have hc := Lib.hid (digit_cat (m % 10) (by omega) l)
        have hr2 := digits_room' M m l.length hr
        have H2 := Lib.hid (digits_keep M m l (.inl hlt) H.out)
        clear H
        go_wp2
        all_goals (rw [hc.out])
        all_goals refine ⟨⟨m / 10, UInt8.ofNat (48 + m % 10) :: l, by simp, rfl, by omega, by simp; omega, H2.out, by simpa using hr2⟩, ?_⟩
        all_goals simp [intOf, strLen, ByteArray.size]
        all_goals omega
      · obtain rfl : m = 0 := by omega
        cases l with
        | nil =>
          have hc := Lib.hid (digit_cat 0 (by omega) [])
          have hr2 := digits_room' M 0 0 hr
          have H2 := Lib.hid (digits_keep M 0 [] (.inr rfl) H.out)
          clear H
          go_wp2
          all_goals (rw [show (⟨#[]⟩ : ByteArray) = ⟨([] : List UInt8).toArray⟩ from rfl, hc.out])
          all_goals refine ⟨⟨0, [UInt8.ofNat (48 + 0)], rfl, rfl, by omega, by simp, H2.out, by simp⟩, ?_⟩
          all_goals simp [intOf, strLen, ByteArray.size]
        | cons x l =>
          have H2 : Hid (Go.Lib.decDigits M = x :: l) := by
            have := H.out
            rw [if_pos (by simp)] at this
            exact this
          have hl2 : l.length ≤ 19 := by simpa using hl
          clear H hl hr
          go_wp2
          go_ret
          refine ⟨?_, rfl⟩
          rw [Hd.out, H2.out]
          exact congrArg (fun b => Ending.returned (.string b)) (bytes_cat [45] (x :: l))
  · obtain rfl : n0 = (M : Int) := by omega
    clear hMn
    rw [if_neg hneg] at Hd
    go_enter Tryd.func56, Tryd.ntmps56
    go_wp2
    go_loop [0, 4] (fun x s => DigitsRel M x s) (fun x s => (-(intOf x)).toNat + (1 - min 1 (strLen s)))
    case atStart => exact ⟨M, [], rfl, rfl, by omega, by simp, by unfold Hid; simp, by simp⟩
    case round =>
      obtain ⟨m, l, rfl, rfl, hm, hl, H, hr⟩ := hrel
      by_cases hlt : 0 < m
      · have hlt' : (-(m : Int) < 0) := by omega
        have hd : decide (-(m : Int) < 0) = true := by simp; omega
        have hk := digits_room M m l.length hM hr hlt
        have hc := Lib.hid (digit_cat (m % 10) (by omega) l)
        have hr2 := digits_room' M m l.length hr
        have H2 := Lib.hid (digits_keep M m l (.inl hlt) H.out)
        clear H
        go_wp2
        all_goals (rw [hc.out])
        all_goals refine ⟨⟨m / 10, UInt8.ofNat (48 + m % 10) :: l, by simp, rfl, by omega, by simp; omega, H2.out, by simpa using hr2⟩, ?_⟩
        all_goals simp [intOf, strLen, ByteArray.size]
        all_goals omega
      · obtain rfl : m = 0 := by omega
        cases l with
        | nil =>
          have hc := Lib.hid (digit_cat 0 (by omega) [])
          have hr2 := digits_room' M 0 0 hr
          have H2 := Lib.hid (digits_keep M 0 [] (.inr rfl) H.out)
          clear H
          go_wp2
          all_goals (rw [show (⟨#[]⟩ : ByteArray) = ⟨([] : List UInt8).toArray⟩ from rfl, hc.out])
          all_goals refine ⟨⟨0, [UInt8.ofNat (48 + 0)], rfl, rfl, by omega, by simp, H2.out, by simp⟩, ?_⟩
          all_goals simp [intOf, strLen, ByteArray.size]
        | cons x l =>
          have H2 : Hid (Go.Lib.decDigits M = x :: l) := by
            have := H.out
            rw [if_pos (by simp)] at this
            exact this
          have hl2 : l.length ≤ 19 := by simpa using hl
          clear H hl hr
          go_wp2
          go_ret
          refine ⟨?_, rfl⟩
          rw [Hd.out, H2.out]
          exact congrArg (fun b => Ending.returned (.string b)) (bytes_cat [] (x :: l))
end Go.Proofs.YtiahgcaenneonaaDoor
