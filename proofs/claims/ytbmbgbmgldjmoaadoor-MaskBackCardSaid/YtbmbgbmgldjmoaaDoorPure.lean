/-
  Plain mathematics of the numbers of layer 1: what clamping, wrapping, packing, unpacking, levels and digits are, and their laws.
-/
import Derived.Lib.ItoaNum
import Derived.Lib.BitFns
namespace Kv

def within (n lo hi : Int) : Int := if n < lo then lo else if hi < n then hi else n
def clamp (n top : Int) : Int := within n 0 (within top 0 1099511627776)
def room (top : Int) : Int := within top 0 1048576
def wrapI (n top : Int) : Int := n % (clamp top 1099511627776 + 1)
def packI (hi lo top : Int) : Int := room hi * (room top + 1) + within lo 0 (room top)
def unX (x : Int) : Int := within x 0 4398046511104
def unHi (x top : Int) : Int := unX x / (room top + 1)
def unLo (x top : Int) : Int := unX x % (room top + 1)

theorem within_bd (n lo hi : Int) (h : lo ≤ hi) : lo ≤ within n lo hi ∧ within n lo hi ≤ hi := by unfold within; omega
theorem within_id (n lo hi : Int) (h : lo ≤ n) (h' : n ≤ hi) : within n lo hi = n := by unfold within; omega
theorem clamp_bd (n top : Int) : 0 ≤ clamp n top ∧ clamp n top ≤ 1099511627776 := by unfold clamp within; omega
theorem room_bd (top : Int) : 0 ≤ room top ∧ room top ≤ 1048576 := by unfold room within; omega
theorem clamp_eq (n top : Int) (h : 0 ≤ top) (h' : top ≤ 1099511627776) : clamp n top = within n 0 top := by unfold clamp within; omega
theorem clamp_word (n : Int) : clamp n 1099511627776 = within n 0 1099511627776 := by unfold clamp within; omega
theorem clamp_room (n : Int) : clamp n 1048576 = room n := by unfold clamp room within; omega
theorem clamp_of_room (n top : Int) : clamp n (room top) = within n 0 (room top) := clamp_eq _ _ (room_bd top).1 (by have := (room_bd top).2; omega)

theorem tmod_neg_fix (n m : Int) (hm : 0 < m) (h : n.tmod m < 0) : n.tmod m + m = n % m := by
  have h1 := Int.tmod_eq_emod (a := n) (b := m)
  by_cases h0 : 0 ≤ n
  · have := Int.tmod_nonneg m h0; omega
  · rw [h1]
    have hd : ¬ m ∣ n := by
      intro hd
      have : n.tmod m = 0 := Int.tmod_eq_zero_of_dvd hd
      omega
    rw [if_neg (by simp [h0, hd])]
    have := Int.natAbs_of_nonneg (Int.le_of_lt hm)
    omega
theorem tmod_pos_fix (n m : Int) (hm : 0 < m) (h : 0 ≤ n.tmod m) : n.tmod m = n % m := by
  have h1 := Int.tmod_eq_emod (a := n) (b := m)
  have h2 := Int.emod_lt_of_pos n hm
  have h3 := Int.natAbs_of_nonneg (Int.le_of_lt hm)
  rw [h1]
  rw [h1] at h
  split at h <;> rename_i h'
  · rw [if_pos h']; omega
  · omega
theorem wrapI_bd (n top : Int) : 0 ≤ wrapI n top ∧ wrapI n top ≤ clamp top 1099511627776 := by
  unfold wrapI
  have := clamp_bd top 1099511627776
  have h1 := Int.emod_nonneg n (b := clamp top 1099511627776 + 1) (by omega)
  have h2 := Int.emod_lt_of_pos n (b := clamp top 1099511627776 + 1) (by omega)
  omega
theorem pack_bd (hi lo top : Int) : 0 ≤ packI hi lo top ∧ packI hi lo top ≤ 1099512676352 + 1048576 := by
  unfold packI
  have h1 := room_bd hi
  have h2 := room_bd top
  have h3 := within_bd lo 0 (room top) h2.1
  have h4 : 0 ≤ room hi * (room top + 1) := Int.mul_nonneg h1.1 (by omega)
  have h5 : room hi * (room top + 1) ≤ 1048576 * 1048577 := Int.mul_le_mul h1.2 (by omega) (by omega) (by omega)
  omega
theorem unX_bd (x : Int) : 0 ≤ unX x ∧ unX x ≤ 4398046511104 := by unfold unX within; omega

/-- How often 1 is doubled till it is not below n. -/
def levelsFrom (n : Nat) : Nat → Nat → Nat
  | 0, _ => 0
  | f + 1, p => if p < n then levelsFrom n f (2 * p) + 1 else 0
def levels (n : Int) : Nat := levelsFrom n.toNat 64 1

theorem bitLenAux_zero : ∀ f, Go.Lib.bitLenAux f 0 = 0
  | 0 => rfl
  | _ + 1 => by simp [Go.Lib.bitLenAux]
theorem levelsFrom_scale : ∀ (f n p : Nat), levelsFrom (n + 1) f (2 * p) = levelsFrom (n / 2 + 1) f p
  | 0, _, _ => rfl
  | f + 1, n, p => by
    simp only [levelsFrom]
    have h : (2 * p < n + 1) = (p < n / 2 + 1) := by apply propext; omega
    have ih := levelsFrom_scale f n (2 * p)
    by_cases hp : p < n / 2 + 1
    · rw [if_pos hp, if_pos (by rw [h]; exact hp), ih]
    · rw [if_neg hp, if_neg (by rw [h]; exact hp)]
theorem levelsFrom_bitLen : ∀ (f n : Nat), levelsFrom (n + 1) f 1 = Go.Lib.bitLenAux f n
  | 0, _ => rfl
  | f + 1, n => by
    simp only [levelsFrom, Go.Lib.bitLenAux]
    by_cases h : n = 0
    · subst h; simp
    · rw [if_pos (by omega), if_neg h]
      have h2 := levelsFrom_scale f n 1
      rw [h2, levelsFrom_bitLen f (n / 2), Nat.add_comm]
theorem levels_bitLen (n : Int) (h : 1 < n) : (levels n) = Go.Lib.bitLen (n - 1).toNat := by
  unfold levels Go.Lib.bitLen
  have := levelsFrom_bitLen 64 (n - 1).toNat
  rw [← this]
  congr 1
  omega
theorem levels_small (n : Int) (h : n ≤ 1) : levels n = 0 := by
  show (if 1 < n.toNat then _ else 0) = 0
  rw [if_neg (by omega)]
theorem levelsFrom_le : ∀ f n p, levelsFrom n f p ≤ f
  | 0, _, _ => Nat.le_refl _
  | f + 1, n, p => by
    simp only [levelsFrom]
    have := levelsFrom_le f n (2 * p)
    split <;> omega
theorem levels_le (n : Int) : levels n ≤ 64 := levelsFrom_le _ _ _
/-- One doubling more. -/
theorem levelsFrom_step (n f p : Nat) (h : p < n) : levelsFrom n (f + 1) p = levelsFrom n f (2 * p) + 1 := by simp [levelsFrom, h]

/-- The decimal text of a number, as bytes. -/
def digits (n : Int) : List UInt8 := Go.Lib.itoa n

/-- The document's digits of a number not above 0, ahead of what is there. -/
theorem decDigits_step (u : Nat) (h : 10 ≤ u) : Go.Lib.decDigits u = Go.Lib.decDigits (u / 10) ++ [UInt8.ofNat (48 + u % 10)] := by
  rw [Go.Lib.decDigits, dif_neg (by omega)]
theorem decDigits_one (u : Nat) (h : u < 10) : Go.Lib.decDigits u = [UInt8.ofNat (48 + u)] := by
  rw [Go.Lib.decDigits, dif_pos h]
end Kv
