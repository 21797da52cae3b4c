/-
  Plain mathematics of sets of threads: a set is a number below 2^64, a thread a bit of it.
-/
import Derived.Test.YtbmbgbmgldjmoaaDoorPure
import Derived.Lib.TrailingZeros
namespace Kv

def inSet (t : Int) : Prop := 0 ≤ t ∧ t < 64
instance (t : Int) : Decidable (inSet t) := inferInstanceAs (Decidable (_ ∧ _))
def hasM (s : Nat) (t : Int) : Bool := if inSet t then s.testBit t.toNat else false
def withM (s : Nat) (t : Int) : Nat := if inSet t then s ||| 2 ^ t.toNat else s
def woutM (s : Nat) (t : Int) : Nat := if inSet t then s &&& (18446744073709551615 - 2 ^ t.toNat) else s
def listM (s : Nat) : List Nat := (List.range 64).filter s.testBit
def firstM (n : Int) : Nat := if n ≤ 0 then 0 else if 64 ≤ n then 18446744073709551615 else 2 ^ n.toNat - 1
def ofM (l : List Int) : Nat := l.foldl withM 0

theorem withM_lt {s : Nat} (h : s < 18446744073709551616) (t : Int) : withM s t < 18446744073709551616 := by
  unfold withM
  split
  · rename_i ht
    refine Nat.or_lt_two_pow (n := 64) h ?_
    exact Nat.pow_lt_pow_right (by omega) (by have := ht.2; have := ht.1; omega)
  · exact h
theorem woutM_lt {s : Nat} (h : s < 18446744073709551616) (t : Int) : woutM s t < 18446744073709551616 := by
  unfold woutM
  split
  · exact Nat.lt_of_le_of_lt Nat.and_le_left h
  · exact h
theorem firstM_lt (n : Int) : firstM n < 18446744073709551616 := by
  unfold firstM
  split
  · omega
  · split
    · omega
    · have : 2 ^ n.toNat ≤ 2 ^ 64 := Nat.pow_le_pow_right (by omega) (by omega)
      omega
theorem testBit_hi {s : Nat} (h : s < 18446744073709551616) (i : Nat) (hi : 64 ≤ i) : s.testBit i = false :=
  Nat.testBit_lt_two_pow (Nat.lt_of_lt_of_le h (Nat.pow_le_pow_right (n := 2) (by omega) hi))
theorem withM_testBit (s : Nat) (t : Int) (i : Nat) : (withM s t).testBit i = (s.testBit i || (decide (inSet t) && decide (i = t.toNat))) := by
  unfold withM
  by_cases ht : inSet t
  · rw [if_pos ht, Nat.testBit_or, Nat.testBit_two_pow]
    simp [ht, eq_comm]
  · simp [ht]
theorem mask_testBit (k i : Nat) (hk : k < 64) : (18446744073709551615 - 2 ^ k).testBit i = (decide (i < 64) && !decide (i = k)) := by
  have e : (18446744073709551615 - 2 ^ k : Nat) = 2 ^ 64 - (2 ^ k + 1) := by omega
  rw [e, Nat.testBit_two_pow_sub_succ (Nat.pow_lt_pow_right (by omega) hk), Nat.testBit_two_pow]
  simp [eq_comm]
theorem woutM_testBit {s : Nat} (hs : s < 18446744073709551616) (t : Int) (i : Nat) : (woutM s t).testBit i = (s.testBit i && !(decide (inSet t) && decide (i = t.toNat))) := by
  unfold woutM
  by_cases ht : inSet t
  · rw [if_pos ht, Nat.testBit_and, mask_testBit _ _ (by have := ht.1; have := ht.2; omega)]
    by_cases hi : i < 64
    · simp [ht, hi]
    · rw [testBit_hi hs i (by omega)]; simp
  · simp [ht]
theorem hasM_testBit (s : Nat) (t : Int) : hasM s t = (decide (inSet t) && s.testBit t.toNat) := by
  unfold hasM; split <;> simp_all
theorem firstM_testBit (n : Int) (i : Nat) : (firstM n).testBit i = (decide (i < 64) && decide ((i : Int) < n)) := by
  unfold firstM
  split
  · simp; omega
  · split
    · have e : (18446744073709551615 : Nat) = 2 ^ 64 - (0 + 1) := by omega
      rw [e, Nat.testBit_two_pow_sub_succ (by omega)]
      by_cases hi : i < 64 <;> simp [hi]
      omega
    · have e : 2 ^ n.toNat - 1 = 2 ^ n.toNat - (0 + 1) := by omega
      rw [e, Nat.testBit_two_pow_sub_succ (Nat.two_pow_pos _)]
      by_cases hi : i < n.toNat
      · simp [hi]; omega
      · simp [hi]; omega
theorem eq_of_bits {a b : Nat} (h : ∀ i, a.testBit i = b.testBit i) : a = b := Nat.eq_of_testBit_eq h

theorem mem_listM {s i : Nat} : i ∈ listM s ↔ i < 64 ∧ s.testBit i = true := by simp [listM]
theorem listM_length_le (s : Nat) : (listM s).length ≤ 64 := by
  have := List.length_filter_le s.testBit (List.range 64)
  simpa [listM] using this
/-- Unlike sets have unlike lists. -/
theorem listM_inj {a b : Nat} (ha : a < 18446744073709551616) (hb : b < 18446744073709551616) (h : listM a = listM b) : a = b := by
  refine eq_of_bits fun i => ?_
  by_cases hi : i < 64
  · have : i ∈ listM a ↔ i ∈ listM b := by rw [h]
    simp only [mem_listM, hi, true_and] at this
    exact Bool.eq_iff_iff.2 this
  · rw [testBit_hi ha i (by omega), testBit_hi hb i (by omega)]

/-- The set gone through upwards: what is left from a bit on. -/
def fromM (s k : Nat) : List Nat := (List.range' k (64 - k)).filter s.testBit
theorem fromM_zero (s : Nat) : fromM s 0 = listM s := by simp [fromM, listM, List.range_eq_range']
theorem fromM_step (s k : Nat) (hk : k < 64) : fromM s k = if s.testBit k then k :: fromM s (k + 1) else fromM s (k + 1) := by
  unfold fromM
  rw [show 64 - k = (64 - (k + 1)) + 1 from by omega, List.range'_succ, List.filter_cons]
theorem fromM_end (s : Nat) : fromM s 64 = [] := by simp [fromM]
/-- The greatest sub-list that lies below a bit. -/
def belowM (s k : Nat) : List Nat := (List.range k).filter s.testBit
theorem belowM_succ (s k : Nat) : belowM s (k + 1) = belowM s k ++ if s.testBit k then [k] else [] := by
  unfold belowM
  rw [List.range_succ, List.filter_append]
  congr 1
  simp [List.filter_cons]
theorem belowM_all (s : Nat) : belowM s 64 = listM s := rfl

/-- Threads one by one. -/
theorem ofM_testBit (l : List Int) (s i : Nat) : (l.foldl withM s).testBit i = (s.testBit i || l.any fun t => decide (inSet t) && decide (i = t.toNat)) := by
  induction l generalizing s with
  | nil => simp
  | cons t l ih => rw [List.foldl_cons, ih, withM_testBit, List.any_cons, Bool.or_assoc]
theorem ofM_lt (l : List Int) {s : Nat} (h : s < 18446744073709551616) : l.foldl withM s < 18446744073709551616 := by
  induction l generalizing s with
  | nil => exact h
  | cons t l ih => exact ih (withM_lt h t)

theorem or_add (a b : Nat) (h : a &&& b = 0) : a ||| b = a + b := by
  induction a using Nat.strongRecOn generalizing b with
  | _ a ih =>
    by_cases ha : a = 0
    · subst ha; simp
    · have h2 : a / 2 &&& b / 2 = 0 := by rw [← Nat.and_div_two, h]
      have i2 := ih (a / 2) (by omega) (b / 2) h2
      have m : (a % 2) &&& (b % 2) = 0 := by
        have := Nat.and_mod_two_pow (a := a) (b := b) (n := 1)
        rw [h] at this
        simpa using this.symm
      have e1 : (a ||| b) / 2 = (a / 2 ||| b / 2) := Nat.or_div_two
      have e2 : (a ||| b) % 2 = (a % 2 ||| b % 2) := Nat.or_mod_two_pow (a := a) (b := b) (n := 1)
      rcases Nat.mod_two_eq_zero_or_one a with h3 | h3 <;> rcases Nat.mod_two_eq_zero_or_one b with h4 | h4 <;> rw [h3, h4] at e2 m <;> first | exact absurd m (by decide) | (have e3 : (a ||| b) % 2 = 1 := e2; omega) | (have e3 : (a ||| b) % 2 = 0 := e2; omega)


/-- A set's lowest thread, and the set without it. -/
theorem low_form (x : Nat) (h0 : x ≠ 0) (hx : x < 18446744073709551616) : ∃ m, x = 2 ^ (Go.Lib.ctz 64 x) * (2 * m + 1) ∧ Go.Lib.ctz 64 x < 64 := by
  obtain ⟨m, hm, hk⟩ := Go.Lib.ctzFrom_spec 64 x (by omega) hx
  have e : Go.Lib.ctz 64 x = Go.Lib.ctzFrom 64 x := by simp [Go.Lib.ctz, h0]
  exact ⟨m, by rw [e]; exact hm, by rw [e]; exact hk⟩
theorem odd_bits (k m i : Nat) : (2 ^ k * (2 * m + 1)).testBit i = (decide (i = k) || (decide (k < i) && m.testBit (i - k - 1))) := by
  rw [Nat.testBit_two_pow_mul]
  by_cases h : i < k
  · have h1 : ¬ k ≤ i := by omega
    have h2 : ¬ i = k := by omega
    have h3 : ¬ k < i := by omega
    simp [h1, h2, h3]
  · by_cases h2 : i = k
    · subst h2; simp
    · have h1 : k ≤ i := by omega
      have h3 : k < i := by omega
      obtain ⟨j, rfl⟩ : ∃ j, i = k + 1 + j := ⟨i - k - 1, by omega⟩
      have e : k + 1 + j - k = j + 1 := by omega
      have e2 : k + 1 + j - k - 1 = j := by omega
      simp only [h1, h2, h3, decide_true, decide_false, Bool.true_and, Bool.false_or, e, Nat.testBit_succ]
      congr 1
      omega
theorem pred_bits (k m i : Nat) : (2 ^ k * (2 * m + 1) - 1).testBit i = (decide (i < k) || (decide (k < i) && m.testBit (i - k - 1))) := by
  have hp := Nat.two_pow_pos k
  have e : 2 ^ k * (2 * m + 1) - 1 = 2 ^ k * (2 * m) + (2 ^ k - 1) := by rw [Nat.mul_add]; omega
  rw [e, Nat.testBit_two_pow_mul_add _ (by omega)]
  by_cases h : i < k
  · rw [if_pos h, show 2 ^ k - 1 = 2 ^ k - (0 + 1) from by omega, Nat.testBit_two_pow_sub_succ (by omega)]
    simp [h]
  · rw [if_neg h]
    by_cases h2 : i = k
    · subst h2; simp
    · obtain ⟨j, rfl⟩ : ∃ j, i = k + 1 + j := ⟨i - k - 1, by omega⟩
      have e1 : k + 1 + j - k = j + 1 := by omega
      have e2 : k + 1 + j - k - 1 = j := by omega
      have h3 : k < k + 1 + j := by omega
      rw [e2, e1]
      simp only [h, h3, decide_true, decide_false, Bool.true_and, Bool.false_or, Nat.testBit_succ]
      congr 1
      omega
def dropLow (x : Nat) : Nat := x &&& (x - 1)
theorem dropLow_bits (x : Nat) (h0 : x ≠ 0) (hx : x < 18446744073709551616) (i : Nat) : (dropLow x).testBit i = (decide (Go.Lib.ctz 64 x < i) && x.testBit i) := by
  obtain ⟨m, hm, hk⟩ := low_form x h0 hx
  unfold dropLow
  generalize Go.Lib.ctz 64 x = k at *
  subst hm
  rw [Nat.testBit_and, odd_bits, pred_bits]
  by_cases h1 : i < k
  · have h2 : ¬ k < i := by omega
    have h3 : ¬ i = k := by omega
    simp [h2, h3]
  · by_cases h3 : i = k
    · subst h3; simp
    · have h2 : k < i := by omega
      simp [h1, h2, h3]
theorem low_bits (x : Nat) (h0 : x ≠ 0) (hx : x < 18446744073709551616) : x.testBit (Go.Lib.ctz 64 x) = true ∧ ∀ i, i < Go.Lib.ctz 64 x → x.testBit i = false := by
  obtain ⟨m, hm, hk⟩ := low_form x h0 hx
  generalize Go.Lib.ctz 64 x = k at *
  subst hm
  refine ⟨by rw [odd_bits]; simp, fun i hi => ?_⟩
  rw [odd_bits]
  have h2 : ¬ k < i := by omega
  have h3 : ¬ i = k := by omega
  simp [h2, h3]
theorem fromM_skip (x : Nat) : ∀ k, k ≤ 64 → (∀ i, i < k → x.testBit i = false) → fromM x 0 = fromM x k
  | 0, _, _ => rfl
  | k + 1, hk, h => by
    rw [fromM_skip x k (by omega) (fun i hi => h i (by omega)), fromM_step x k (by omega), if_neg (by rw [h k (by omega)]; simp)]
theorem listM_low (x : Nat) (h0 : x ≠ 0) (hx : x < 18446744073709551616) : listM x = Go.Lib.ctz 64 x :: listM (dropLow x) := by
  obtain ⟨m, hm, hk⟩ := low_form x h0 hx
  obtain ⟨hb, hl⟩ := low_bits x h0 hx
  have hd := dropLow_bits x h0 hx
  rw [← fromM_zero, ← fromM_zero, fromM_skip x _ (by omega) hl, fromM_step x _ hk, if_pos hb]
  rw [fromM_skip (dropLow x) (Go.Lib.ctz 64 x + 1) (by omega) (fun i hi => by rw [hd, show decide (Go.Lib.ctz 64 x < i) = false from by simp; omega]; rfl)]
  congr 1
  unfold fromM
  refine List.filter_congr fun i hi => ?_
  have : Go.Lib.ctz 64 x < i := by have := (List.mem_range'_1.1 hi).1; omega
  rw [hd]
  simp [this]
theorem dropLow_lt (x : Nat) (h0 : x ≠ 0) : dropLow x < x := by
  unfold dropLow
  have : x &&& (x - 1) ≤ x - 1 := Nat.and_le_right
  omega
theorem listM_zero : listM 0 = [] := by decide
theorem listM_lt {s x : Nat} (h : x ∈ listM s) : x < 64 := (mem_listM.1 h).1
end Kv
