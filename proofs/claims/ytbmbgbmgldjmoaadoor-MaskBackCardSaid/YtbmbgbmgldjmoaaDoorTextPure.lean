/-
  Plain mathematics: unlike sets have unlike texts; threads handed in one by one are the set of them.
-/
import Derived.Test.YtbmbgbmgldjmoaaDoorMaskPure
namespace Kv
def txtStep (acc : List UInt8) (x : Int) : List UInt8 := (if acc = [] then [] else acc ++ [43]) ++ digits x
def txt (l : List Int) : List UInt8 := l.foldl txtStep []
theorem txt_snoc (l : List Int) (x : Int) : txt (l ++ [x]) = txtStep (txt l) x := by simp [txt]
theorem decDigits_ne (u : Nat) : Go.Lib.decDigits u ≠ [] := by
  rw [Go.Lib.decDigits]
  split <;> simp
theorem digits_ne (x : Int) : digits x ≠ [] := by
  unfold digits Go.Lib.itoa
  split
  · simp
  · exact decDigits_ne _
theorem txt_nil_iff (l : List Int) : txt l = [] ↔ l = [] := by
  constructor
  · intro h
    rcases List.eq_nil_or_concat l with rfl | ⟨l', x, rfl⟩
    · rfl
    · rw [List.concat_eq_append, txt_snoc] at h
      unfold txtStep at h
      simp [digits_ne] at h
  · rintro rfl; rfl
/-- The text from the front. -/
def txtR : List Int → List UInt8
  | [] => []
  | [x] => digits x
  | x :: y :: l => digits x ++ 43 :: txtR (y :: l)
theorem foldl_txtR : ∀ (l : List Int) (acc : List UInt8), acc ≠ [] → l.foldl txtStep acc = acc ++ (match l with | [] => [] | x :: r => 43 :: txtR (x :: r))
  | [], acc, _ => by simp
  | x :: l, acc, h => by
    have h2 : txtStep acc x ≠ [] := by unfold txtStep; simp [digits_ne]
    rw [List.foldl_cons, foldl_txtR l _ h2]
    unfold txtStep
    rw [if_neg h]
    cases l with
    | nil => simp [txtR]
    | cons y l => simp [txtR]
theorem txt_eq (l : List Int) : txt l = txtR l := by
  cases l with
  | nil => rfl
  | cons x l =>
    unfold txt
    rw [List.foldl_cons, foldl_txtR l _ (by unfold txtStep; simp [digits_ne])]
    cases l with
    | nil => simp [txtR, txtStep]
    | cons y l => simp [txtR, txtStep]
theorem digits_form (x : Nat) (h : x < 64) : digits (x : Int) = if x < 10 then [UInt8.ofNat (48 + x)] else [UInt8.ofNat (48 + x / 10), UInt8.ofNat (48 + x % 10)] := by
  unfold digits Go.Lib.itoa
  rw [if_neg (by omega), Int.toNat_natCast]
  split
  · rename_i h1; rw [decDigits_one _ h1]
  · rename_i h1; rw [decDigits_step _ (by omega), decDigits_one _ (by omega)]; rfl
theorem digits_plus (x : Nat) (h : x < 64) : (43 : UInt8) ∉ digits (x : Int) := by
  rw [digits_form x h]
  have key : ∀ d : Fin 10, (43 : UInt8) ≠ UInt8.ofNat (48 + d.val) := by decide
  split
  · rename_i h1
    simpa using key ⟨x, h1⟩
  · have h1 := key ⟨x / 10, by omega⟩
    have h2 := key ⟨x % 10, by omega⟩
    simp only [List.mem_cons, List.not_mem_nil, or_false, not_or]
    exact ⟨h1, h2⟩
theorem digits_inj (x y : Nat) (hx : x < 64) (hy : y < 64) (h : digits (x : Int) = digits (y : Int)) : x = y := by
  rw [digits_form x hx, digits_form y hy] at h
  have key : ∀ a b : Fin 10, UInt8.ofNat (48 + a.val) = UInt8.ofNat (48 + b.val) → a = b := by decide
  split at h <;> split at h
  · rename_i h1 h2
    have := key ⟨x, h1⟩ ⟨y, h2⟩ (by simpa using h)
    simpa using this
  · simp at h
  · simp at h
  · simp only [List.cons.injEq, and_true] at h
    have h1 := key ⟨x / 10, by omega⟩ ⟨y / 10, by omega⟩ h.1
    have h2 := key ⟨x % 10, by omega⟩ ⟨y % 10, by omega⟩ h.2
    simp only [Fin.mk.injEq] at h1 h2
    omega
theorem cut_plus : ∀ {a b : List UInt8} {r t : List UInt8}, (43 : UInt8) ∉ a → 43 ∉ b → (r = [] ∨ ∃ r', r = 43 :: r') → (t = [] ∨ ∃ t', t = 43 :: t') → a ++ r = b ++ t → a = b ∧ r = t
  | [], [], r, t, _, _, _, _, h => ⟨rfl, h⟩
  | [], y :: b, r, t, _, hb, hr, _, h => by
    rcases hr with rfl | ⟨r', rfl⟩
    · simp at h
    · simp only [List.nil_append, List.cons_append, List.cons.injEq] at h
      exact absurd (by rw [h.1]; simp) hb
  | x :: a, [], r, t, ha, _, _, ht, h => by
    rcases ht with rfl | ⟨t', rfl⟩
    · simp at h
    · simp only [List.nil_append, List.cons_append, List.cons.injEq] at h
      exact absurd (by rw [h.1]; simp) ha
  | x :: a, y :: b, r, t, ha, hb, hr, ht, h => by
    simp only [List.cons_append, List.cons.injEq] at h
    obtain ⟨rfl, h2⟩ := h
    obtain ⟨rfl, h3⟩ := cut_plus (fun hm => ha (by simp [hm])) (fun hm => hb (by simp [hm])) hr ht h2
    exact ⟨rfl, h3⟩
def smallI (l : List Int) : Prop := ∀ x ∈ l, ∃ k : Nat, x = (k : Int) ∧ k < 64
theorem txtR_ne (x : Int) (l : List Int) : txtR (x :: l) ≠ [] := by
  cases l <;> simp [txtR, digits_ne]
theorem txtR_cons (x : Int) (l : List Int) : txtR (x :: l) = digits x ++ (match l with | [] => [] | y :: r => 43 :: txtR (y :: r)) := by
  cases l <;> simp [txtR]
theorem txtR_inj : ∀ {a b : List Int}, smallI a → smallI b → txtR a = txtR b → a = b
  | [], [], _, _, _ => rfl
  | [], y :: b, _, _, h => absurd h.symm (txtR_ne y b)
  | x :: a, [], _, _, h => absurd h (txtR_ne x a)
  | x :: a, y :: b, ha, hb, h => by
    obtain ⟨k, rfl, hk⟩ := ha x (by simp)
    obtain ⟨m, rfl, hm⟩ := hb y (by simp)
    rw [txtR_cons, txtR_cons] at h
    obtain ⟨h1, h2⟩ := cut_plus (digits_plus k hk) (digits_plus m hm) (by cases a with | nil => exact .inl rfl | cons _ _ => exact .inr ⟨_, rfl⟩) (by cases b with | nil => exact .inl rfl | cons _ _ => exact .inr ⟨_, rfl⟩) h
    have e := digits_inj k m hk hm h1
    subst e
    have ha' : smallI a := fun z hz => ha z (by simp [hz])
    have hb' : smallI b := fun z hz => hb z (by simp [hz])
    cases a with
    | nil =>
      cases b with
      | nil => rfl
      | cons z b => simp at h2
    | cons z a =>
      cases b with
      | nil => simp at h2
      | cons z' b =>
        simp only [List.cons.injEq, true_and] at h2
        rw [txtR_inj ha' hb' h2]

/-- Of what is handed in, as many at most are in the set. -/
theorem countP_le_one (p : Nat → Bool) (k : Nat) (h : ∀ i, p i = true → i = k) : ∀ n, (List.range n).countP p ≤ 1 := by
  intro n
  have h1 : (List.range n).countP p ≤ (List.range n).countP (· == k) := by
    refine List.countP_mono_left fun i _ hp => ?_
    simp [h i hp]
  have h2 : (List.range n).countP (· == k) = (List.range n).count k := rfl
  have h3 := List.nodup_iff_count.1 (List.nodup_range (n := n)) k
  omega
theorem with_count (s : Nat) (t : Int) : (listM (withM s t)).length ≤ (listM s).length + 1 := by
  unfold listM
  rw [← List.countP_eq_length_filter, ← List.countP_eq_length_filter]
  have h : ∀ i, (withM s t).testBit i = true → (s.testBit i || decide (inSet t) && decide (i = t.toNat)) = true := fun i hi => by rw [← withM_testBit]; exact hi
  have h1 : (List.range 64).countP (withM s t).testBit ≤ (List.range 64).countP (fun i => s.testBit i || (decide (inSet t) && decide (i = t.toNat))) :=
    List.countP_mono_left fun i _ hi => h i hi
  have h2 : ∀ (l : List Nat) (p q : Nat → Bool), l.countP (fun i => p i || q i) ≤ l.countP p + l.countP q := by
    intro l p q
    induction l with
    | nil => simp
    | cons x l ih =>
      simp only [List.countP_cons]
      cases p x <;> cases q x <;> simp <;> omega
  have h3 := h2 (List.range 64) s.testBit (fun i => decide (inSet t) && decide (i = t.toNat))
  have h4 := countP_le_one (fun i => decide (inSet t) && decide (i = t.toNat)) t.toNat (fun i hi => by simp at hi; exact hi.2) 64
  omega
theorem of_count (l : List Int) : ∀ s, (listM (l.foldl withM s)).length ≤ (listM s).length + l.length := by
  induction l with
  | nil => intro s; simp
  | cons t l ih =>
    intro s
    have h1 := ih (withM s t)
    have h2 := with_count s t
    simp only [List.foldl_cons, List.length_cons]
    omega
theorem ofM_has (l : List Int) (t : Int) : hasM (ofM l) t = (l.any (fun x => x == t) && (decide (0 ≤ t) && decide (t < 64))) := by
  unfold ofM
  rw [hasM_testBit, ofM_testBit]
  simp only [Nat.zero_testBit, Bool.false_or]
  by_cases ht : inSet t
  · have h1 : 0 ≤ t := ht.1
    have h2 : t < 64 := ht.2
    simp only [ht, h1, h2, decide_true, Bool.true_and, Bool.and_true]
    congr 1
    funext x
    rw [Bool.eq_iff_iff]
    simp only [Bool.and_eq_true, decide_eq_true_eq, beq_iff_eq]
    constructor
    · rintro ⟨h3, h4⟩
      have := h3.1
      omega
    · rintro rfl
      exact ⟨ht, rfl⟩
  · have : (decide (0 ≤ t) && decide (t < 64)) = false := by
      rw [Bool.and_eq_false_iff]
      simp only [decide_eq_false_iff_not]
      unfold inSet at ht
      omega
    simp [ht, this]
end Kv
