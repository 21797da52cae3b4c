/-
  Plain mathematics: which locals reads of registers set; what a thread reads of its own register behind a write of 0.
-/
import Derived.Test.YtpcohbpeglledaaJBlackwhiteDoorSaid0
import Derived.Ground.Names2Prog
import Derived.Shelf.Slices.Clone
import Derived.Ground.SlgnProg
import Derived.Shelf.SlicesE.Clone
import Derived.Test.YtpcohbpeglledaaProg
import Derived.Lib.LaidTab
import Derived.Deep.DeepCutAuto
/-
  Plain mathematics: which locals reads of registers set; what a thread reads of its own register behind a write of 0.
-/
namespace Kv
theorem sets_manyRs {b l n top me : Int} (hn : 1 ≤ n) (hm : 0 ≤ me) (hm2 : me < n) : ∀ (k : Nat) (j s v : Int), 0 ≤ j → j + k ≤ n → (manyRs b l n top me k j s v).Sets l (l + n * (2 + 18 * ((n - 1) * (n - 1))))
  | 0, j, s, v, _, _ => .ret _
  | k + 1, j, s, v, hj, hk => by
    have hq : 0 ≤ (n - 1) * (n - 1) := Int.mul_nonneg (by omega) (by omega)
    have hX : 0 ≤ 2 + 18 * ((n - 1) * (n - 1)) := by omega
    have e1 : manyL l n j = l + j * (2 + 18 * ((n - 1) * (n - 1))) := by unfold manyL; rw [Int.mul_assoc 18]
    have e2 : 0 ≤ j * (2 + 18 * ((n - 1) * (n - 1))) := Int.mul_nonneg hj hX
    have e3 : (j + 1) * (2 + 18 * ((n - 1) * (n - 1))) ≤ n * (2 + 18 * ((n - 1) * (n - 1))) := Int.mul_le_mul_of_nonneg_right (by omega) hX
    rw [Int.add_mul, Int.one_mul] at e3
    unfold manyRs
    refine ((sets_tableR hj (by omega) hm hm2).mono ?_ ?_).bind fun y => ?_
    · rw [e1]; omega
    · rw [e1]; omega
    · split <;> exact sets_manyRs hn hm hm2 k _ _ _ (by omega) (by omega)
theorem localsM_eq (r : Reg) : localsM r = if r.kind = 1 then 0 else if r.kind = 6 then 2 + 18 * ((r.n - 1) * (r.n - 1)) else r.n * (2 + 18 * ((r.n - 1) * (r.n - 1))) := by
  unfold localsM
  rw [Int.mul_assoc 18]
theorem sets_regR {r : Reg} (h : r.ok) {me : Int} (hm : 0 ≤ me) (hm2 : me < r.n) : (regR r me).Sets r.loc (r.loc + localsM r) := by
  rw [localsM_eq]
  unfold regR
  split
  · exact sets_rd _ _ _
  · split
    · rename_i h6
      exact sets_tableR (h.wr h6).1 (h.wr h6).2 hm hm2
    · unfold manyR
      exact (sets_manyRs h.n.1 hm hm2 _ _ _ _ (by omega) (by have := h.n.1; omega)).bind fun p => .ret _
theorem sets_zeroP {r : Reg} (h : r.ok) {me : Int} (hm : 0 ≤ me) (hm2 : me < r.n) : ∀ n : Nat, (zeroP r me n).Sets r.loc (r.loc + localsM r)
  | 0 => .ret _
  | n + 1 => (sets_regR h hm hm2).bind fun x => by
    split
    · exact .ret _
    · exact sets_zeroP h hm hm2 n
theorem Prog.bind_some {α β : Type} {p : Prog α} {f : α → Prog β} {S S' : TS} {b : β} (h : (p.bind f).run S = (some b, S')) : ∃ a S1, p.run S = (some a, S1) ∧ (f a).run S1 = (some b, S') := by
  rw [Prog.run_bind] at h
  rcases hr : p.run S with ⟨o, S1⟩
  rw [hr] at h
  cases o with
  | none => simp [thenR] at h
  | some a => exact ⟨a, S1, rfl, h⟩
theorem layFrom_from {n mode : Int} (hn : 1 ≤ n ∧ n ≤ 8) : ∀ (l : List Want) (b c : Int) (rs : List Reg), layFrom n mode l b c = some rs → ∀ (i : Nat) r, rs[i]? = some r → c ≤ r.loc
  | [], b, c, rs, h, i, r, hi => by
    obtain rfl : [] = rs := by simpa [layFrom] using h
    simp at hi
  | q :: l, b, c, rs, h, i, r, hi => by
    unfold layFrom at h
    split at h
    · have hz := cells_nat (regOf n mode b c q) hn
      cases hr : layFrom n mode l (b + cellsM (regOf n mode b c q)) (c + localsM (regOf n mode b c q)) with
      | none => rw [hr] at h; cases h
      | some rs' =>
        rw [hr] at h
        obtain rfl : regOf n mode b c q :: rs' = rs := by simpa using h
        cases i with
        | zero =>
          obtain rfl : regOf n mode b c q = r := by simpa using hi
          exact Int.le_refl _
        | succ i =>
          have := layFrom_from hn l _ _ rs' hr i r (by simpa using hi)
          omega
    · cases h
/-- Registers laid in a row have locals of their own. -/
theorem layFrom_apart {n mode : Int} (hn : 1 ≤ n ∧ n ≤ 8) : ∀ (l : List Want) (b c : Int) (rs : List Reg), layFrom n mode l b c = some rs → ∀ (i j : Nat) r s, i < j → rs[i]? = some r → rs[j]? = some s → r.loc + localsM r ≤ s.loc
  | [], b, c, rs, h, i, j, r, s, _, hi, _ => by
    obtain rfl : [] = rs := by simpa [layFrom] using h
    simp at hi
  | q :: l, b, c, rs, h, i, j, r, s, hij, hi, hj => by
    unfold layFrom at h
    split at h
    · cases hr : layFrom n mode l (b + cellsM (regOf n mode b c q)) (c + localsM (regOf n mode b c q)) with
      | none => rw [hr] at h; cases h
      | some rs' =>
        rw [hr] at h
        obtain rfl : regOf n mode b c q :: rs' = rs := by simpa using h
        cases j with
        | zero => omega
        | succ j =>
          have hj' : rs'[j]? = some s := by simpa using hj
          cases i with
          | zero =>
            obtain rfl : regOf n mode b c q = r := by simpa using hi
            exact layFrom_from hn l _ _ rs' hr j s hj'
          | succ i => exact layFrom_apart hn l _ _ rs' hr i j r s (by omega) (by simpa using hi) hj'
    · cases h
theorem layM_apart {l : List Want} {n mode b c : Int} {rs : List Reg} (h : layM l n mode b c = some rs) {i j : Nat} {r s : Reg} (hij : i < j) (hi : rs[i]? = some r) (hj : rs[j]? = some s) : r.loc + localsM r ≤ s.loc := by
  obtain ⟨⟨_, _, n1, n2, _, _⟩, _, hf⟩ := layM_args h
  exact layFrom_apart ⟨n1, n2⟩ l b c rs hf i j r s hij hi hj
theorem TS.got_upd {S : TS} {i v : Int} (h1 : 0 ≤ i) (h2 : i < 32768) : (S.upd i v).got i = v := by
  unfold TS.upd
  rw [if_pos ⟨h1, h2⟩]
  unfold TS.got
  rw [if_neg (by omega)]
  simp
/-- What a thread's own register of a fast lock tells it: 0. -/
def ownZ (r : Reg) (S : TS) : Prop := r.kind = 6 → S.got (r.loc + 1) = 0
theorem ownZ_wrote {r : Reg} {m : Int} (h0 : 0 ≤ r.loc) (hf : r.loc + localsM r ≤ 32768) (hn : 1 ≤ r.n) (hw : r.kind = 6 → r.wr = m) {S S' : TS} (h : (regW r m 0).run S = (some (), S')) : ownZ r S' := by
  intro h6
  rw [localsM_eq, if_neg (by omega), if_pos h6] at hf
  have hq : 0 ≤ (r.n - 1) * (r.n - 1) := Int.mul_nonneg (by omega) (by omega)
  unfold regW at h
  rw [if_neg (by omega), if_pos h6] at h
  unfold tableW at h
  rw [if_neg (by rw [hw h6]; simp)] at h
  obtain ⟨a1, S1, -, h⟩ := Prog.bind_some h
  obtain ⟨a2, S2, -, h⟩ := Prog.bind_some h
  obtain ⟨a3, S3, -, h⟩ := Prog.bind_some h
  have e : S3.upd (r.loc + 1) (clamp 0 (clamp r.top 1048576)) = S' := by
    have := h
    simp only [st, Prog.run, Prod.mk.injEq, true_and] at this
    exact this
  have hc : clamp 0 (clamp r.top 1048576) = 0 := by unfold clamp within; omega
  rw [← e, hc]
  exact TS.got_upd (by omega) (by omega)
theorem ownZ_kept {r s : Reg} {m : Int} (_h0 : 0 ≤ r.loc) (hn : 1 ≤ r.n) (hs : s.ok) (hm : 0 ≤ m) (hm2 : m < s.n) (ha : r.loc + localsM r ≤ s.loc ∨ s.loc + localsM s ≤ r.loc) {D : Nat} {S S' : TS} (h : (zeroP s m D).run S = (some (), S')) (hz : ownZ r S) : ownZ r S' := by
  intro h6
  have hq : 0 ≤ (r.n - 1) * (r.n - 1) := Int.mul_nonneg (by omega) (by omega)
  rw [localsM_eq r, if_neg (by omega), if_pos h6] at ha
  have e := (sets_zeroP hs hm hm2 D).got (i := r.loc + 1) (by omega) S
  rw [h] at e
  rw [← hz h6]
  exact e
theorem zeroP_own {r : Reg} {m : Int} (hk : r.kind = 6) (hw : r.wr = m) : ∀ (D : Nat) (S S' : TS), (zeroP r m D).run S = (some (), S') → S = S'
  | 0, S, S', h => by
    have := h
    simp only [zeroP, Prog.run, Prod.mk.injEq, true_and] at this
    exact this
  | D + 1, S, S', h => by
    rw [show zeroP r m (D + 1) = (regR r m).bind fun x => if x = 0 then .ret () else zeroP r m D from rfl] at h
    have e : regR r m = gt (r.loc + 1) := by
      unfold regR tableR
      rw [if_neg (by omega), if_pos hk, if_pos hw.symm]
    rw [e] at h
    have h : (if S.got (r.loc + 1) = 0 then Prog.ret () else zeroP r m D).run S = (some (), S') := h
    split at h
    · simp only [Prog.run, Prod.mk.injEq, true_and] at h
      exact h
    · exact zeroP_own hk hw D S S' h
theorem ownZ_read {r : Reg} {m : Int} (hk : r.kind = 6) (hw : r.wr = m) {S : TS} (hz : ownZ r S) : (regR r m).run S = (some 0, S) := by
  unfold regR tableR
  rw [if_neg (by omega), if_pos hk, if_pos hw.symm]
  show (some (S.got (r.loc + 1)), S) = _
  rw [hz hk]
end Kv
namespace Go.Proofs.Ytpcohbpeglledaa
open Kv
theorem fast_told {N : Nat} {mode b c : Int} {rs : List Reg} {m : Nat} (h : layM (fastWants N) N mode b c = some rs) (hN : ¬(N = 1 ∧ mode = 2)) : ∀ (i : Nat) r, rs[i]? = some r → i ≠ 2 + m → r.told m := by
  intro i r hi hm
  obtain ⟨⟨h1, h2, n1, _⟩, _⟩ := layM_args h
  have hL := laid_want h hi
  by_cases hm2 : mode = 2
  · refine laid_told hL ⟨h1, h2⟩ (by omega) ?_ ?_
    · unfold fastWant; split <;> simp <;> omega
    · unfold fastWant; split <;> simp <;> omega
  · obtain ⟨⟨b, c, rfl, _, _⟩, _⟩ := hL
    refine .inl ?_
    show kindM mode _ = 1
    unfold kindM
    rw [if_neg hm2]
/-- The own register of a fast lock: told by accesses, or by a local. -/
theorem fast_own {N : Nat} {mode b c : Int} {rs : List Reg} {m : Nat} {rm : Reg} (h : layM (fastWants N) N mode b c = some rs) (hr : rs[2 + m]? = some rm) : rm.kind = 1 ∨ rm.kind = 6 ∧ rm.wr = m := by
  obtain ⟨⟨h1, h2, n1, _⟩, _⟩ := layM_args h
  obtain ⟨⟨b, c, rfl, _, _⟩, _⟩ := laid_want h hr
  have e : (fastWant N (2 + m)).wr = m := by unfold fastWant; rw [if_neg (by omega)]; simp; omega
  show kindM mode _ = 1 ∨ kindM mode _ = 6 ∧ _ = _
  unfold kindM
  split
  · rw [e, if_pos (by omega)]
    exact .inr ⟨rfl, e⟩
  · exact .inl rfl
theorem laid_fine {l : List Want} {n mode b c : Int} {rs : List Reg} (h : layM l n mode b c = some rs) : ∀ r ∈ rs, fineM r = true := by
  intro r hr
  obtain ⟨i, hi⟩ := List.getElem?_of_mem hr
  have hil := (List.getElem?_eq_some_iff.1 hi).1
  rw [layM_len h] at hil
  obtain ⟨r', hr', hL⟩ := layM_at h (List.getElem?_eq_getElem hil)
  obtain rfl : r = r' := by rw [hi] at hr'; simpa using hr'
  exact hL.fine
theorem fast_hz {N : Nat} {mode b c : Int} {rs : List Reg} {m D : Nat} (h : layM (fastWants N) N mode b c = some rs) (hm : m < N) :
    ∃ Z : TS → Prop, (∀ rm, rs[2 + m]? = some rm → ∀ S S', (regW rm m 0).run S = (some (), S') → Z S') ∧
      (∀ (j : Nat) r, rs[j]? = some r → ∀ S S', (zeroP r m D).run S = (some (), S') → Z S → Z S') ∧
      (∀ rm, rs[2 + m]? = some rm → ∀ S, Z S → rm.told m ∨ (regR rm m).run S = (some 0, S)) := by
  have hlen := layM_len h
  rw [fastWants_len] at hlen
  obtain ⟨rm, hrm⟩ : ∃ r, rs[2 + m]? = some r := ⟨_, List.getElem?_eq_getElem (by omega)⟩
  obtain ⟨okm, nm⟩ := laid_all h rm (List.mem_of_getElem? hrm)
  have hown := fast_own h hrm
  refine ⟨ownZ rm, ?_, ?_, ?_⟩
  · intro r hr S S' hS
    obtain rfl : rm = r := by rw [hrm] at hr; simpa using hr
    refine ownZ_wrote okm.loc.1 ?_ (by have := okm.n; omega) (fun h6 => ?_) hS
    · have := laid_fine h rm (List.mem_of_getElem? hrm)
      unfold fineM at this
      simp only [Bool.and_eq_true, decide_eq_true_eq] at this
      exact this.2
    · rcases hown with h1 | h1
      · omega
      · exact h1.2
  · intro j r hr S S' hS hz
    obtain ⟨okr, nr⟩ := laid_all h r (List.mem_of_getElem? hr)
    by_cases hj : j = 2 + m
    · subst hj
      obtain rfl : rm = r := by rw [hrm] at hr; simpa using hr
      rcases hown with h1 | h1
      · intro h6; omega
      · rw [← zeroP_own h1.1 h1.2 D S S' hS]; exact hz
    · refine ownZ_kept okm.loc.1 (by have := okm.n; omega) okr (by omega) (by rw [nr]; omega) ?_ hS hz
      by_cases hlt : j < 2 + m
      · exact .inr (layM_apart h hlt hr hrm)
      · exact .inl (layM_apart h (by omega) hrm hr)
  · intro r hr S hz
    obtain rfl : rm = r := by rw [hrm] at hr; simpa using hr
    rcases hown with h1 | h1
    · exact .inl (.inl h1)
    · exact .inr (ownZ_read h1.1 h1.2 hz)
end Go.Proofs.Ytpcohbpeglledaa
/-
  Plain mathematics: within which bounds a read of a register that one does not write oneself tells.
-/
namespace Kv
theorem unLo_bd (x : Int) {top : Int} (h : 0 ≤ room top) : 0 ≤ unLo x top ∧ unLo x top ≤ room top := by
  unfold unLo
  have h1 := Int.emod_nonneg (unX x) (show room top + 1 ≠ 0 by omega)
  have h2 := Int.emod_lt_of_pos (unX x) (show 0 < room top + 1 by omega)
  omega
/-- All answers are within bounds. -/
def TameA (S : TS) : Prop := ∀ v ∈ S.ans, 0 ≤ v ∧ v ≤ 1048576
theorem TameA.run {α : Type} {S S' : TS} {p : Prog α} {a : Option α} (h : TameA S) (hr : p.run S = (a, S')) : TameA S' := by
  have := Prog.run_ans p S
  rw [hr] at this
  unfold TameA
  rw [this]
  exact h
theorem rd_bd {c v : Int} {S S' : TS} (h : TameA S) (hr : (rd c).run S = (some v, S')) : 0 ≤ v ∧ v ≤ 1048576 := by
  unfold rd at hr
  simp only [Prog.run] at hr
  cases hn : S.next with
  | none => rw [hn] at hr; simp at hr
  | some u =>
    rw [hn] at hr
    simp only [Prod.mk.injEq, Option.some.injEq] at hr
    rw [← hr.1]
    exact h u (List.mem_of_getElem? hn)
theorem ret_run {α : Type} {a b : α} {S S' : TS} (h : (Prog.ret a).run S = (some b, S')) : a = b ∧ S = S' := by
  simpa [Prog.run] using h
theorem tableR_bd {b l n wr top me v : Int} {S S' : TS} (hne : me ≠ wr) (hr : (tableR b l n wr top me).run S = (some v, S')) : 0 ≤ v ∧ v ≤ 1048576 := by
  unfold tableR at hr
  rw [if_neg hne] at hr
  obtain ⟨x1, S1, -, hr⟩ := Prog.bind_some hr
  obtain ⟨x2, S2, -, hr⟩ := Prog.bind_some hr
  obtain ⟨x3, S3, -, hr⟩ := Prog.bind_some hr
  obtain ⟨rfl, -⟩ := ret_run hr
  have h1 := room_bd (clamp top 1048576)
  have h2 := unLo_bd x2 (top := clamp top 1048576) h1.1
  omega
theorem manyRs_bd {b l n top me : Int} : ∀ (k : Nat) (j s v : Int) {S S' : TS} {p : Int × Int}, 0 ≤ v → v ≤ 1048576 → (manyRs b l n top me k j s v).run S = (some p, S') → 0 ≤ p.2 ∧ p.2 ≤ 1048576
  | 0, j, s, v, S, S', p, h1, h2, hr => by
    unfold manyRs at hr
    obtain ⟨rfl, -⟩ := ret_run hr
    exact ⟨h1, h2⟩
  | k + 1, j, s, v, S, S', p, h1, h2, hr => by
    unfold manyRs at hr
    obtain ⟨y, S1, -, hr⟩ := Prog.bind_some hr
    split at hr
    · have h3 := room_bd (clamp top 255)
      have h4 := unLo_bd y (top := clamp top 255) h3.1
      exact manyRs_bd k _ _ _ (by omega) (by omega) hr
    · exact manyRs_bd k _ _ _ h1 h2 hr
/-- Whatever is told by accesses is within bounds. -/
theorem regR_bd {r : Reg} {me v : Int} {S S' : TS} (_hok : r.ok) (ht : r.kind = 6 → me ≠ r.wr) (h : TameA S) (hr : (regR r me).run S = (some v, S')) : 0 ≤ v ∧ v ≤ 1048576 := by
  unfold regR at hr
  split at hr
  · exact rd_bd h hr
  · split at hr
    · rename_i h6
      exact tableR_bd (ht h6) hr
    · unfold manyR at hr
      obtain ⟨p, S1, hp, hr⟩ := Prog.bind_some hr
      obtain ⟨rfl, -⟩ := ret_run hr
      exact manyRs_bd _ _ _ _ (by omega) (by omega) hp
end Kv
/-
  Plain mathematics of the black-white bakery: its loops taken apart, what they ask and how many notes they leave.
-/
namespace Kv
theorem bwChoose_eq (r : Reg) (me : Int) : ∀ n : Nat, bwChoose r me n = zeroP r me n
  | 0 => rfl
  | n + 1 => by
    rw [show bwChoose r me (n + 1) = (regR r me).bind fun x => if x = 0 then .ret () else bwChoose r me n from rfl, show zeroP r me (n + 1) = (regR r me).bind fun x => if x = 0 then .ret () else zeroP r me n from rfl, bwChoose_eq r me n]
theorem bwWait_bind {β : Type} (l : List Reg) (n me j t c : Int) (k : Nat) (f : Unit → Prog β) : (bwWait l n me j t c (k + 1)).bind f =
    (regR (regAt l (1 + n + j)) me).bind fun x =>
      if x / 2 = 0 then f () else if x % 2 = c then (if t < x / 2 ∨ (x / 2 = t ∧ me < j) then f () else (bwWait l n me j t c k).bind f)
      else (regR (regAt l 0) me).bind fun y => if bitM y = c then (bwWait l n me j t c k).bind f else f () := by
  rw [show bwWait l n me j t c (k + 1) = (regR (regAt l (1 + n + j)) me).bind fun x =>
      if x / 2 = 0 then .ret () else if x % 2 = c then (if t < x / 2 ∨ (x / 2 = t ∧ me < j) then .ret () else bwWait l n me j t c k)
      else (regR (regAt l 0) me).bind fun y => if bitM y = c then bwWait l n me j t c k else .ret () from rfl, Prog.bind_assoc]
  congr 1
  funext x
  by_cases h1 : x / 2 = 0
  · rw [if_pos h1, if_pos h1]; rfl
  · rw [if_neg h1, if_neg h1]
    by_cases h2 : x % 2 = c
    · rw [if_pos h2, if_pos h2]
      by_cases h3 : t < x / 2 ∨ (x / 2 = t ∧ me < j)
      · rw [if_pos h3, if_pos h3]; rfl
      · rw [if_neg h3, if_neg h3]
    · rw [if_neg h2, if_neg h2, Prog.bind_assoc]
      congr 1
      funext y
      by_cases h4 : bitM y = c
      · rw [if_pos h4, if_pos h4]
      · rw [if_neg h4, if_neg h4]; rfl
theorem notes_bwWait (l : List Reg) (n me j t c : Int) : ∀ k : Nat, (bwWait l n me j t c k).Notes 0
  | 0 => .ret _ _
  | k + 1 => by
    rw [show bwWait l n me j t c (k + 1) = (regR (regAt l (1 + n + j)) me).bind fun x =>
      if x / 2 = 0 then .ret () else if x % 2 = c then (if t < x / 2 ∨ (x / 2 = t ∧ me < j) then .ret () else bwWait l n me j t c k)
      else (regR (regAt l 0) me).bind fun y => if bitM y = c then bwWait l n me j t c k else .ret () from rfl]
    refine (notes_regR _ _).bind0 fun x => ?_
    by_cases h1 : x / 2 = 0
    · rw [if_pos h1]; exact .ret _ _
    · rw [if_neg h1]
      by_cases h2 : x % 2 = c
      · rw [if_pos h2]
        by_cases h3 : t < x / 2 ∨ (x / 2 = t ∧ me < j)
        · rw [if_pos h3]; exact .ret _ _
        · rw [if_neg h3]; exact notes_bwWait l n me j t c k
      · rw [if_neg h2]
        refine (notes_regR _ _).bind0 fun y => ?_
        by_cases h4 : bitM y = c
        · rw [if_pos h4]; exact notes_bwWait l n me j t c k
        · rw [if_neg h4]; exact .ret _ _
/-- A round of the doorway's reads. -/
theorem bwMost_cons {β : Type} (l : List Reg) (n me c a t : Int) (r : List Int) (k : Int → Prog β) :
    (forP (fun j t => (regR (regAt l (1 + n + j)) me).bind fun x => .ret (if x % 2 = c then max t (x / 2) else t)) (a :: r) t).bind k =
      (regR (regAt l (1 + n + a)) me).bind fun x => (forP (fun j t => (regR (regAt l (1 + n + j)) me).bind fun x => .ret (if x % 2 = c then max t (x / 2) else t)) r (if x % 2 = c then max t (x / 2) else t)).bind k := by
  rw [forP_consB, Prog.bind_assoc]
  rfl
/-- Waiting for one thread. -/
def bwFor (l : List Reg) (N : Nat) (n me j t c : Int) : Prog Unit := (bwChoose (regAt l (1 + j)) me N).bind fun _ => bwWait l n me j t c N
theorem notes_bwFor (l : List Reg) (N : Nat) (n me j t c : Int) : (bwFor l N n me j t c).Notes 0 := by
  unfold bwFor
  rw [bwChoose_eq]
  exact (notes_zeroP _ _ _).bind0 fun _ => notes_bwWait _ _ _ _ _ _ _
theorem bwFor_bind {β : Type} (l : List Reg) (N : Nat) (n me j t c : Int) (f : Unit → Prog β) : (bwFor l N n me j t c).bind f = (zeroP (regAt l (1 + j)) me N).bind fun _ => (bwWait l n me j t c N).bind f := by
  unfold bwFor
  rw [bwChoose_eq, Prog.bind_assoc]
/-- Acquiring: into the doorway, through it, waiting for each one. -/
def bwIn (N : Nat) (l : List Reg) (n me c t : Int) : Prog Int :=
  (forP (fun j _ => bwFor l N n me j t c) (ranksFrom me n.toNat 0) ()).bind fun _ => (nt 3).bind fun _ => .ret 0
def bwThrough (N : Nat) (l : List Reg) (n me c t : Int) : Prog Int :=
  (regW (regAt l (1 + n + me)) me (2 * (t + 1) + c)).bind fun _ => (regW (regAt l (1 + me)) me 0).bind fun _ => (nt 2).bind fun _ => bwIn N l n me c (t + 1)
theorem bwA_eq (N : Nat) (l : List Reg) (own n me : Int) : bwA N l own n me =
    (nt 1).bind fun _ => (regW (regAt l (1 + me)) me 1).bind fun _ => (regR (regAt l 0) me).bind fun y => (st own (bitM y)).bind fun _ =>
      (forP (fun j t => (regR (regAt l (1 + n + j)) me).bind fun x => .ret (if x % 2 = bitM y then max t (x / 2) else t)) (ranksFrom me n.toNat 0) 0).bind (bwThrough N l n me (bitM y)) := rfl
theorem told_ne {r : Reg} {me : Int} (h : r.told me) : r.kind = 6 → me ≠ r.wr := by
  intro h6
  rcases h with h | ⟨_, h⟩ | ⟨h, _⟩
  · omega
  · exact h
  · omega
end Kv
/-
  Plain mathematics: the doorway of the black-white bakery on native cells.
-/
namespace Kv
/-- No note goes. -/
theorem Prog.run_nts {α : Type} : ∀ (p : Prog α) (S : TS), ∃ l, (p.run S).2.nts = S.nts ++ l
  | .ret a, S => ⟨[], by simp [Prog.run]⟩
  | .read c k, S => by
    simp only [Prog.run]
    cases S.next with
    | none => exact ⟨[], by simp [TS.put]⟩
    | some v => exact run_nts (k v) (S.put ⟨1, c, 0⟩)
  | .write c v k, S => by
    simp only [Prog.run]
    cases S.next with
    | none => exact ⟨[], by simp [TS.put]⟩
    | some _ => exact run_nts (k ()) (S.put ⟨2, c, v⟩)
  | .get i k, S => run_nts (k _) _
  | .set i v k, S => by
    obtain ⟨l, h⟩ := run_nts (k ()) (S.upd i v)
    exact ⟨l, by rw [show (Prog.set i v k).run S = (k ()).run (S.upd i v) from rfl, h, TS.upd_nts]⟩
  | .note n k, S => by
    obtain ⟨l, h⟩ := run_nts (k ()) (S.noted n)
    exact ⟨⟨n, S.acc.length⟩ :: l, by rw [show (Prog.note n k).run S = (k ()).run (S.noted n) from rfl, h]; simp [TS.noted]⟩
/-- The greatest ticket of a color among pairs. -/
def mostL (c : Int) : List Int → Int → Int
  | [], t => t
  | x :: l, t => mostL c l (if x % 2 = c then max t (x / 2) else t)
theorem mostL_snoc (c : Int) (x : Int) : ∀ (l : List Int) (t : Int), mostL c (l ++ [x]) t = if x % 2 = c then max (mostL c l t) (x / 2) else mostL c l t
  | [], _ => rfl
  | _ :: l, _ => mostL_snoc c x l _
theorem mostL_bd (c : Int) : ∀ (l : List Int) (t : Int), 0 ≤ t → t ≤ 1048576 → (∀ x ∈ l, 0 ≤ x ∧ x ≤ 1048576) → 0 ≤ mostL c l t ∧ mostL c l t ≤ 1048576
  | [], t, h0, h1, _ => ⟨h0, h1⟩
  | x :: l, t, h0, h1, h => by
    have hx := h x (by simp)
    refine mostL_bd c l _ ?_ ?_ fun y hy => h y (by simp [hy])
    · split <;> omega
    · split <;> omega
theorem rd_run {c v : Int} {S : TS} (h : S.next = some v) : (rd c).run S = (some v, S.put ⟨1, c, 0⟩) := by
  unfold rd
  simp only [Prog.run, h]
theorem wr_run {c x v : Int} {S : TS} (h : S.next = some v) : (wr c x).run S = (some (), S.put ⟨2, c, x⟩) := by
  unfold wr
  simp only [Prog.run, h]
theorem nt_run (n : Int) (S : TS) : (nt n).run S = (some (), S.noted n) := rfl
theorem st_run (i v : Int) (S : TS) : (st i v).run S = (some (), S.upd i v) := rfl
theorem regR_nat {r : Reg} (h : r.kind = 1) (me : Int) : regR r me = rd r.base := by
  unfold regR
  rw [if_pos h]
theorem regW_nat {r : Reg} (h : r.kind = 1) (me v : Int) : regW r me v = wr r.base v := by
  unfold regW
  rw [if_pos h]
/-- What stays and what came: accesses ahead stay, notes and answers are as they were. -/
structure Since (S S' : TS) (n : Nat) : Prop where
  acc : ∃ l, S'.acc = S.acc ++ l ∧ l.length = n
  ans : S'.ans = S.ans
  nts : S'.nts = S.nts
theorem most_run (rs : List Reg) (n me c : Int) : ∀ (L : List Int) (t : Int) (S : TS) (V : List Int), (∀ j ∈ L, (regAt rs (1 + n + j)).kind = 1) → V.length = L.length → (∀ i : Nat, i < V.length → S.ans[S.acc.length + i]? = V[i]?) →
    ∃ S', (forP (fun j t => (regR (regAt rs (1 + n + j)) me).bind fun x => .ret (if x % 2 = c then max t (x / 2) else t)) L t).run S = (some (mostL c V t), S') ∧ Since S S' L.length
  | [], t, S, V, _, hl, _ => by
    obtain rfl : V = [] := List.length_eq_zero_iff.1 hl
    exact ⟨S, rfl, ⟨[], by simp, rfl⟩, rfl, rfl⟩
  | j :: L, t, S, V, hk, hl, ha => by
    cases V with
    | nil => simp at hl
    | cons v V =>
      have h0 : S.next = some v := by
        have := ha 0 (by simp)
        simpa [TS.next] using this
      rw [show forP (fun j t => (regR (regAt rs (1 + n + j)) me).bind fun x => .ret (if x % 2 = c then max t (x / 2) else t)) (j :: L) t = ((regR (regAt rs (1 + n + j)) me).bind fun x => .ret (if x % 2 = c then max t (x / 2) else t)).bind fun y => forP (fun j t => (regR (regAt rs (1 + n + j)) me).bind fun x => .ret (if x % 2 = c then max t (x / 2) else t)) L y from rfl]
      rw [Prog.bind_assoc, regR_nat (hk j (by simp)), Prog.run_bind_some (rd_run h0)]
      obtain ⟨S', hr, ⟨l, hl1, hl2⟩, hans, hnts⟩ := most_run rs n me c L (if v % 2 = c then max t (v / 2) else t) (S.put ⟨1, (regAt rs (1 + n + j)).base, 0⟩) V (fun i hi => hk i (by simp [hi])) (by simpa using hl) (fun i hi => by
        have := ha (i + 1) (by simp; omega)
        simp only [TS.put, List.length_append, List.length_cons, List.length_nil, List.getElem?_cons_succ] at this ⊢
        rw [← this]
        congr 1
        omega)
      refine ⟨S', hr, ⟨⟨1, (regAt rs (1 + n + j)).base, 0⟩ :: l, by rw [hl1]; simp [TS.put], by simp [hl2]⟩, hans, hnts⟩
theorem ranks_len (but : Int) : ∀ (n : Nat) (i : Int), (but < i ∨ i + n ≤ but) → (ranksFrom but n i).length = n
  | 0, _, _ => rfl
  | n + 1, i, h => by
    rw [ranks_cons _ _ _ (by omega)]
    simp [ranks_len but n (i + 1) (by omega)]
theorem ranks_len1 (but : Int) : ∀ (n : Nat) (i : Int), i ≤ but → but < i + (n + 1 : Nat) → (ranksFrom but (n + 1) i).length = n
  | n, i, h1, h2 => by
    by_cases h : i = but
    · subst h
      rw [ranks_skip]
      exact ranks_len _ _ _ (by omega)
    · rw [ranks_cons _ _ _ h]
      cases n with
      | zero => omega
      | succ n =>
        simp [ranks_len1 but n (i + 1) (by omega) (by omega)]
theorem mem_ranks (but : Int) : ∀ (n : Nat) (i j : Int), j ∈ ranksFrom but n i → i ≤ j ∧ j < i + n
  | 0, i, j, h => by simp [ranksFrom] at h
  | n + 1, i, j, h => by
    unfold ranksFrom at h
    split at h
    · have := mem_ranks but n (i + 1) j h; omega
    · rcases List.mem_cons.1 h with rfl | h
      · omega
      · have := mem_ranks but n (i + 1) j h; omega
/-- The bakery's registers on native cells. -/
def natB (N : Nat) : List Reg := (List.range (2 * N + 1)).map fun i : Nat => ⟨1, i, 0, N, (bwWant N i).wr, -1, (bwWant N i).top⟩
theorem natB_at {N : Nat} {i : Int} {k : Nat} (hi : i = k) (hk : k < 2 * N + 1) : regAt (natB N) i = ⟨1, k, 0, N, (bwWant N k).wr, -1, (bwWant N k).top⟩ := by
  refine regAt_of hi ?_
  unfold natB
  rw [List.getElem?_map, List.getElem?_range hk]
  rfl
theorem bitM_01 {y : Int} (h : y = 0 ∨ y = 1) : bitM y = y := by
  rcases h with rfl | rfl <;> rfl
end Kv
namespace Go.Proofs.Ytpcohbpeglledaa
open Kv
/-- The doorway, by its accesses and notes. -/
theorem door_run {N m D : Nat} (own : Int) (h1 : 1 ≤ N) (hm : m < N) (F : List Int) (hF : N + 3 ≤ F.length) {y : Int} (hy : F[1]? = some y) (hy2 : y = 0 ∨ y = 1) :
    ∃ (S : TS) (rest : Prog Int), (bwA D (natB N) own N m).run (TS0 [] F) = rest.run S ∧ S.acc.length = N + 3 ∧ S.acc[N + 1]? = some ⟨2, 1 + N + m, 2 * (mostL y ((F.drop 2).take (N - 1)) 0 + 1) + y⟩ ∧ S.nts = [⟨1, 0⟩, ⟨2, (N : Int) + 3⟩] ∧ S.ans = F := by
  have hb : ∀ k : Nat, k < 2 * N + 1 → ∀ i : Int, i = k → (regAt (natB N) i).kind = 1 ∧ (regAt (natB N) i).base = i := by
    intro k hk i hi
    rw [natB_at hi hk]
    exact ⟨rfl, hi.symm⟩
  obtain ⟨k1, b1⟩ := hb (1 + m) (by omega) (1 + (m : Int)) (by omega)
  obtain ⟨k0, b0⟩ := hb 0 (by omega) 0 rfl
  obtain ⟨kp, bp⟩ := hb (1 + N + m) (by omega) (1 + (N : Int) + (m : Int)) (by omega)
  obtain ⟨M, rfl⟩ : ∃ M, N = M + 1 := ⟨N - 1, by omega⟩
  unfold bwA bwMost
  rw [regW_nat k1, regR_nat k0, regW_nat k1, b1, b0, Prog.run_bind_some (nt_run _ _)]
  obtain ⟨f0, hf0⟩ : ∃ v, F[0]? = some v := ⟨_, List.getElem?_eq_getElem (by omega)⟩
  rw [Prog.run_bind_some (wr_run (v := f0) (by simpa [TS.next, TS.noted, TS0] using hf0))]
  rw [Prog.run_bind_some (rd_run (v := y) (by simpa [TS.next, TS.noted, TS.put, TS0] using hy))]
  rw [Prog.run_bind_some (st_run _ _ _), bitM_01 hy2]
  obtain ⟨S1, hS1⟩ : ∃ S1, S1 = (((TS0 [] F).noted 1).put ⟨2, 1 + (m : Int), 1⟩ |>.put ⟨1, 0, 0⟩).upd own y := ⟨_, rfl⟩
  rw [← hS1]
  have a1 : S1.ans = F := by rw [hS1, TS.upd_ans]; rfl
  have a2 : S1.acc = [⟨2, 1 + (m : Int), 1⟩, ⟨1, 0, 0⟩] := by rw [hS1, TS.upd_acc]; rfl
  have a3 : S1.nts = [⟨1, 0⟩] := by rw [hS1, TS.upd_nts]; rfl
  clear hS1
  have hlen : (ranksFrom (m : Int) (M + 1) 0).length = M := ranks_len1 _ M 0 (by omega) (by omega)
  obtain ⟨S2, hr, ⟨l, hl1, hl2⟩, hans, hnts⟩ := most_run (natB (M + 1)) ((M + 1 : Nat) : Int) m y (ranksFrom (m : Int) (M + 1) 0) 0 S1 ((F.drop 2).take M) (fun j hj => by
    have := mem_ranks _ _ _ _ hj
    exact (hb (1 + (M + 1) + j.toNat) (by omega) _ (by omega)).1) (by rw [hlen]; simp; omega) (fun i hi => by
    rw [a1, a2]
    simp only [List.length_take, List.length_drop] at hi
    rw [List.getElem?_take_of_lt (by omega), List.getElem?_drop]
    rfl)
  rw [Int.toNat_natCast, Prog.run_bind_some hr, regW_nat kp, bp]
  rw [hlen] at hl2
  have a4 : S2.acc.length = M + 2 := by rw [hl1, a2]; simp [hl2]; try omega
  obtain ⟨g1, hg1⟩ : ∃ v, F[M + 2]? = some v := ⟨_, List.getElem?_eq_getElem (by omega)⟩
  obtain ⟨g2, hg2⟩ : ∃ v, F[M + 3]? = some v := ⟨_, List.getElem?_eq_getElem (by omega)⟩
  rw [Prog.run_bind_some (wr_run (v := g1) (by unfold TS.next; rw [a4, hans, a1]; exact hg1))]
  rw [Prog.run_bind_some (wr_run (v := g2) (by simp only [TS.next, TS.put, List.length_append, List.length_cons, List.length_nil, a4]; rw [hans, a1]; exact hg2))]
  rw [Prog.run_bind_some (nt_run _ _)]
  refine ⟨_, _, rfl, ?_, ?_, ?_, ?_⟩
  · simp [TS.noted, TS.put, a4]
  · simp only [TS.noted, TS.put]
    rw [List.getElem?_append_left (by simp [a4]), List.getElem?_append_right (by omega), a4]
    simp
  · simp only [TS.noted, TS.put, hnts, a3]
    simp [a4]
    omega
  · simp only [TS.noted, TS.put]
    rw [hans, a1]
/-- Whatever comes behind the doorway, its accesses and notes stay. -/
theorem door_is {N m D : Nat} (own : Int) (h1 : 1 ≤ N) (hm : m < N) (F : List Int) (hF : N + 3 ≤ F.length) {y : Int} (hy : F[1]? = some y) (hy2 : y = 0 ∨ y = 1) :
    N + 3 ≤ ((bwA D (natB N) own N m).run (TS0 [] F)).2.acc.length ∧ ((bwA D (natB N) own N m).run (TS0 [] F)).2.acc[N + 1]? = some ⟨2, 1 + N + m, 2 * (mostL y ((F.drop 2).take (N - 1)) 0 + 1) + y⟩ ∧
      2 ≤ ((bwA D (natB N) own N m).run (TS0 [] F)).2.nts.length ∧ ((bwA D (natB N) own N m).run (TS0 [] F)).2.nts[1]? = some ⟨2, (N : Int) + 3⟩ := by
  obtain ⟨S, rest, hr, h2, h3, h4, _⟩ := door_run (D := D) own h1 hm F hF hy hy2
  rw [hr]
  obtain ⟨l, hl⟩ := Prog.run_acc rest S
  obtain ⟨q, hq⟩ := Prog.run_nts rest S
  rw [hl, hq, h4]
  refine ⟨by simp; omega, ?_, by simp, rfl⟩
  rw [List.getElem?_append_left (by omega)]
  exact h3
end Go.Proofs.Ytpcohbpeglledaa
/-
  The cells and locals of a row of registers added up, both sides.
-/
namespace Kv
def sumC (l : List Reg) : Int := (l.map cellsM).sum
def sumL (l : List Reg) : Int := (l.map localsM).sum
theorem sumC_next {l : List Reg} {j : Nat} {r : Reg} (h : l[j]? = some r) : sumC (l.take (j + 1)) = sumC (l.take j) + cellsM r := by
  unfold sumC
  rw [List.take_add_one, h]
  simp [List.sum_append]
theorem sumL_next {l : List Reg} {j : Nat} {r : Reg} (h : l[j]? = some r) : sumL (l.take (j + 1)) = sumL (l.take j) + localsM r := by
  unfold sumL
  rw [List.take_add_one, h]
  simp [List.sum_append]
theorem sum_bd {l : List Reg} (h : ∀ r ∈ l, r.ok) : ∀ j : Nat, j ≤ l.length → (0 ≤ sumC (l.take j) ∧ sumC (l.take j) ≤ 6272 * j) ∧ (0 ≤ sumL (l.take j) ∧ sumL (l.take j) ≤ 7072 * j)
  | 0, _ => by simp [sumC, sumL]
  | j + 1, hj => by
    obtain ⟨r, hr⟩ : ∃ r, l[j]? = some r := ⟨_, List.getElem?_eq_getElem (by omega)⟩
    have h1 := sum_bd h j (by omega)
    have h2 := cells_nat r (h r (List.mem_of_getElem? hr)).n
    rw [sumC_next hr, sumL_next hr]
    omega
end Kv
namespace Go.Proofs.Ytpcohbpeglledaa
open Go.RowKit Kv
set_option maxRecDepth 100000 in
set_option maxHeartbeats 1000000 in
theorem size_p (b c : Nat) (rs : List Reg) (w : World) (hb : b < w.heap.size) (hc : ∀ (i : Nat) u, (rs.flatMap regVals)[i]? = some u → w.cell? ⟨b, i, none⟩ = some u) (hok : ∀ r ∈ rs, r.ok) (hl : rs.length ≤ 100) :
    Calls Try.prog 91 #[.slice (some ⟨b, 0, none⟩) rs.length c] w fun e w' => e = .returned (.tuple #[.int .i64 (sumC rs), .int .i64 (sumL rs)]) ∧ Ext w w' := by
  have hokh := Lib.hid hok
  have hbd := Lib.hid (sum_bd hok)
  have hch := Lib.hid hc
  clear hok hc
  go_enter Try.func91, Try.ntmps91
  go_wp2_with fail
  go_loopw [4, 5, 10] (fun u v i wr => ∃ j : Nat, i = .int .i64 j ∧ j ≤ rs.length ∧ u = .int .i64 (sumC (rs.take j)) ∧ v = .int .i64 (sumL (rs.take j)) ∧ Ext w wr) (fun _ _ i _ => rs.length - (intOf i).toNat)
  case atStart => exact ⟨0, rfl, by omega, rfl, rfl, Ext.refl w⟩
  case round =>
    obtain ⟨j, rfl, hj, rfl, rfl, hX⟩ := hrel
    by_cases hlt : j < rs.length
    · have dl : decide ((j : Int) < (rs.length : Int)) = true := by rw [decide_eq_true_eq]; omega
      obtain ⟨r, hr⟩ : ∃ r, rs[j]? = some r := ⟨_, List.getElem?_eq_getElem hlt⟩
      have hrk := hokh.out r (List.mem_of_getElem? hr)
      have h1 := hbd.out j (by omega)
      have h2 := cells_nat r hrk.n
      have n1 := sumC_next hr
      have n2 := sumL_next hr
      obtain ⟨a0, a1, a2, a3, a4, a5, a6⟩ := reg_cells (w := wr) (b := b) (fun i u hu => (hX.cell (p := ⟨b, i, none⟩) hb).trans (hch.out i u hu)) hr
      have hC := fun w => cells_all r w hrk.kind hrk.n
      have hL := fun w => locals_p r w hrk.kind hrk.n
      unfold encR at hC hL
      have w1 : IntKind.i64.wrap (sumC (rs.take j) + cellsM r) = sumC (rs.take (j + 1)) := by rw [IntWalk.i64_in _ (by omega), n1]
      have w2 : IntKind.i64.wrap (sumL (rs.take j) + localsM r) = sumL (rs.take (j + 1)) := by rw [IntWalk.i64_in _ (by omega), n2]
      have c_n := fun i => cell_of_heap (heap_alloc_new wr (.cells #[.int .i64 r.kind, .int .i64 r.base, .int .i64 r.loc, .int .i64 r.n, .int .i64 r.wr, .int .i64 r.rd, .int .i64 r.top] 41)) i
      have hX1 := hX.alloc (.cells #[.int .i64 r.kind, .int .i64 r.base, .int .i64 r.loc, .int .i64 r.n, .int .i64 r.wr, .int .i64 r.rd, .int .i64 r.top] 41)
      have g1 := Blk.new wr (.cells #[.int .i64 r.kind, .int .i64 r.base, .int .i64 r.loc, .int .i64 r.n, .int .i64 r.wr, .int .i64 r.rd, .int .i64 r.top] 41)
      clear hr h1 h2 n1 n2
      go_wp2_with fail
      refine (hC _).mono ?_
      rintro e w2 ⟨rfl, hx2⟩
      clear c_n
      have g2 := g1.ext hx2
      have c_g := g2.cells
      replace hX1 := hX1.trans hx2
      clear hx2 a0 a1 a2 a3 a4 a5 a6 g1
      go_wp2_with fail
      refine (hL _).mono ?_
      rintro e w3 ⟨rfl, hx3⟩
      replace hX1 := hX1.trans hx3
      clear hx3 c_g g2
      go_wp2_with fail
      refine ⟨⟨j + 1, by go_num, by omega, rfl, rfl, hX1⟩, ?_⟩
      simp [intOf]; omega
    · obtain rfl : j = rs.length := by omega
      have dl : decide ((rs.length : Int) < (rs.length : Int)) = false := by rw [decide_eq_false_iff_not]; omega
      rw [List.take_length]
      go_wp2_with fail
      first | go_ret2 | go_ret
      exact ⟨rfl, hX⟩
end Go.Proofs.Ytpcohbpeglledaa
/-
  The black-white bakery's registers, by the document.
-/
namespace Go.Proofs.Ytpcohbpeglledaa
open Go.RowKit Kv
end Go.Proofs.Ytpcohbpeglledaa
/-
  Contracts of the library at this translation, as the shelf lays them.
-/
namespace Go.Proofs
open Go.Shelf
def Try.laysNm215_ren : Go.Shelf.Ren := ⟨fun | 15 => 39 | n => n, fun | 22 => 22 | 3 => 3 | 4 => 4 | n => n, fun | n => n⟩
theorem Try.laysNm215 : Go.Proofs.Lays2.n15 Try.prog Try.laysNm215_ren := {
  mixed := by kernel_rfl
  f15 := Try.func39.trans (congrArg some (by kernel_rfl))
  t3 := Try.underlying3
  a3 := Try.isAgg3
  z3 := Try.sizeOf3
  v3 := Try.zeroValue3
  t4 := Try.underlying4
  a4 := Try.isAgg4
  z4 := Try.sizeOf4
  v4 := Try.zeroValue4
  t22 := Try.underlying22
  a22 := Try.isAgg22
  z22 := Try.sizeOf22
  v22 := Try.zeroValue22
  i3 := by kernel_rfl }
open Go.RowKit Go.Lib in
theorem Try.slices_Clone_int (b off n c : Nat) (zs : List Int) (w : World) (hz : n ≤ zs.length) (hbig : n * 8 ≤ 140737488355328) (hc : ∀ j, j < zs.length → w.cell? ⟨b, off + j, none⟩ = some (.int .i64 (zs.getD j 0))) :
    Calls Try.prog 39 #[.slice (some ⟨b, off, none⟩) n c] w fun e w' => ∃ v', e = .returned v' ∧ w'.ownsRow w.heap.size 3 1 v' n ((zs.take n).map (Value.int .i64)) ∧ v' ≠ .slice none 0 0 ∧ Below w.heap.size w w' := Any.slices_Clone_int Try.laysNm215 b off n c zs w hz hbig hc
open Go.RowKit Go.Lib in
theorem Try.slices_Clone_int_nil (n c : Nat) (w : World) :
    Calls Try.prog 39 #[.slice none n c] w fun e w' => e = .returned (.slice none 0 0) ∧ w' = w := Any.slices_Clone_int_nil Try.laysNm215 n c w
open Go.RowKit Go.Lib in
theorem Try.slices_Clone_int_zero (a : Addr) (c : Nat) (w : World) :
    Calls Try.prog 39 #[.slice (some a) 0 c] w fun e w' => ∃ v', e = .returned v' ∧ w'.ownsRow w.heap.size 3 1 v' 0 [] ∧ v' ≠ .slice none 0 0 ∧ Below w.heap.size w w' := Any.slices_Clone_int_zero Try.laysNm215 a c w
def Try.laysSlE041_f39_ren : Go.Shelf.Ren := ⟨fun | 41 => 39 | n => n, fun | 22 => 22 | 23 => 3 | 4 => 4 | n => n, fun | n => n⟩
theorem Try.laysSlE041_f39 : Go.Proofs.SlLaysE0.n41 Try.prog Try.laysSlE041_f39_ren := {
  mixed := by kernel_rfl
  f41 := ⟨Try.f39.name, by decide, Try.func39.trans (congrArg some (by kernel_rfl))⟩
  t4 := Try.underlying4
  a4 := Try.isAgg4
  z4 := Try.sizeOf4
  v4 := Try.zeroValue4
  t22 := Try.underlying22
  a22 := Try.isAgg22
  z22 := Try.sizeOf22
  v22 := Try.zeroValue22 }
open Go.RowKit Go.Lib in
theorem Try.slices_Clone (i0 : TypeInfo) (z : Value) (size bytes : Nat) (hi : Try.prog.info? 3 = some i0) (hz0 : i0.zero = some z) (hz1 : i0.size = size) (hz2 : i0.bytes = bytes) (hzs : z.cells.size = size) (hsz : 0 < size) (z23 : ∀ w, (Go.sizeOf 3).run Try.prog w = .ok size w) (b off n c : Nat) (news : List Value) (w : World) (hl : news.length = n * size) (hn : n ≤ maxLen) (hbig : n * bytes ≤ 140737488355328) (hc : ∀ j u, news[j]? = some u → w.cell? ⟨b, off + j, none⟩ = some u) (h1 : ∀ u ∈ news, u.oneCell' = true) :
    Calls Try.prog 39 #[.slice (some ⟨b, off, none⟩) n c] w fun e w' => ∃ v', e = .returned v' ∧ w'.ownsRow w.heap.size 3 size v' n news ∧ v' ≠ .slice none 0 0 ∧ Below w.heap.size w w' := AnyE.slices_Clone Try.laysSlE041_f39 i0 z size bytes hi hz0 hz1 hz2 hzs hsz z23 b off n c news w hl hn hbig hc h1
open Go.RowKit Go.Lib in
theorem Try.slices_Clone_nil (n c : Nat) (w : World) :
    Calls Try.prog 39 #[.slice none n c] w fun e w' => e = .returned (.slice none 0 0) ∧ w' = w := AnyE.slices_Clone_nil Try.laysSlE041_f39 n c w
end Go.Proofs
/-
  The library's tables that stay through whatever only makes memory of its own.
-/
namespace Go.Proofs.Ytpcohbpeglledaa
open Go.RowKit Kv
def deBruijn64 : List Int := [0, 1, 56, 2, 57, 49, 28, 3, 61, 58, 42, 50, 38, 29, 17, 4, 62, 47, 59, 36, 45, 43, 51, 22, 53, 39, 33, 30, 24, 18, 12, 5, 63, 55, 48, 27, 60, 41, 37, 16, 46, 35, 44, 21, 52, 32, 23, 11, 54, 26, 40, 15, 34, 20, 31, 10, 25, 14, 19, 9, 13, 8, 7, 6]
/-- The tables that the library reads. -/
structure Tabs (w : World) : Prop where
  pow10 : Lib.TabIs Try.prog w "internal/strconv.uint64pow10" .u64 Lib.pow10Tab
  bruijn : Lib.TabIs Try.prog w "math/bits.deBruijn64tab" .u8 deBruijn64
theorem Tabs.ext {w w' : World} (h : Tabs w) (hx : Ext w w') : Tabs w' :=
  ⟨Lib.tabBelow_of_tabIs h.pow10 _ hx, Lib.tabBelow_of_tabIs h.bruijn _ hx⟩
end Go.Proofs.Ytpcohbpeglledaa
/-
  Layer 1: the two functions that call the library (levels, digits), and the chapter's examples.
-/
namespace Go.Proofs.Ytpcohbpeglledaa
open Go.RowKit Kv
theorem lev5 : levels 5 = 3 := by decide
theorem dig40 : digits (-40) = [45, 52, 48] := by
  unfold digits Go.Lib.itoa
  rw [if_pos (by omega), show (-40 : Int).natAbs = 40 from rfl, decDigits_step 40 (by omega), decDigits_one (40 / 10) (by omega)]
  decide
end Go.Proofs.Ytpcohbpeglledaa
/-
  Plain mathematics of Kessels' lock: entering and leaving as trees.
-/
namespace Kv
def kesFree (s t y : Int) : Bool := if s = 1 then decide (bitM y = t) else decide (bitM y ≠ t)
def kesT (s x : Int) : Int := if s = 1 then 1 - bitM x else bitM x
/-- Spinning, so many rounds at most. -/
def kesSpin (qo ro : Reg) (s t me : Int) : Nat → Prog Unit
  | 0 => .ret ()
  | n + 1 => (regR qo me).bind fun x => if x = 0 then .ret () else (regR ro me).bind fun y => if kesFree s t y then .ret () else kesSpin qo ro s t me n
def kesEnter (n : Nat) (qs qo rs ro : Reg) (s me : Int) : Prog Unit :=
  (regW qs me 1).bind fun _ => (regR ro me).bind fun x => (regW rs me (kesT s x)).bind fun _ => kesSpin qo ro s (kesT s x) me n
end Kv
/-
  Kessels: entering, by the program.
-/
namespace Go.Proofs.Ytpcohbpeglledaa
open Go.RowKit Kv
theorem kbit_p (x : Int) (w : World) : Calls Try.prog 42 #[.int .i64 x] w fun e w' => e = .returned (.int .i64 (bitM x)) ∧ w = w' := by
  unfold bitM
  by_cases h : x = 0
  · rw [if_pos h]
    go_enter Try.func42, Try.ntmps42
    go_wp2_with fail
    go_ret
    exact ⟨rfl, rfl⟩
  · rw [if_neg h]
    have hb : (x != 0) = true := by rw [bne_iff_ne]; exact h
    go_enter Try.func42, Try.ntmps42
    go_wp2_with fail
    go_ret
    exact ⟨rfl, rfl⟩
theorem kfree0_p (x t : Int) (b : Nat) (w : World) (h : w.cell? ⟨b, 0, none⟩ = some (.int .i64 t)) : Calls Try.prog 45 #[.int .i64 x, .pointer (some ⟨b, 0, none⟩)] w fun e w' => e = .returned (.bool (x != t)) ∧ w = w' := by
  go_enter Try.func45, Try.ntmps45
  go_wp2_with fail
  go_ret
  exact ⟨rfl, rfl⟩
theorem kfree1_p (x t : Int) (b : Nat) (w : World) (h : w.cell? ⟨b, 0, none⟩ = some (.int .i64 t)) : Calls Try.prog 46 #[.int .i64 x, .pointer (some ⟨b, 0, none⟩)] w fun e w' => e = .returned (.bool (x == t)) ∧ w = w' := by
  go_enter Try.func46, Try.ntmps46
  go_wp2_with fail
  go_ret
  exact ⟨rfl, rfl⟩
theorem cells_pm (r : Reg) (me : Int) (w : World) (ho : r.ok) (ht : r.told me) (hm : 0 ≤ me ∧ me < r.n) : Calls Try.prog 47 #[encR r] w fun e w' => ∃ c : Int, e = .returned (.int .i64 c) ∧ (c == 0) = false ∧ Ext w w' := by
  refine (cells_p r w (by rcases ht with h | ⟨h, _⟩ | ⟨h, h2⟩; exact .inl h; exact .inr (.inl h); exact .inr (.inr ⟨h, h2⟩)) ho.n (fun w => mthreads_p r.n w ho.n.1 ho.n.2)).mono fun e w' h => ⟨_, h.1, ?_, h.2⟩
  rw [beq_eq_false_iff_ne]
  have hn := ho.n
  have h2 : r.kind ≠ 1 → 2 ≤ r.n := fun h1 => by
    rcases ht with h | ⟨h, h3⟩ | ⟨h, h3⟩
    · exact absurd h h1
    · have := ho.wr h; omega
    · exact h3
  unfold cellsM
  split
  · decide
  · rename_i h1
    have h3 := h2 h1
    have p1 : 0 < 16 * (r.n - 1) * (r.n - 1) := Int.mul_pos (by omega) (by omega)
    split
    · omega
    · have p2 : 0 < 16 * (r.n - 1) * (r.n - 1) * r.n := Int.mul_pos p1 (by omega)
      omega
set_option maxRecDepth 100000 in
set_option maxHeartbeats 1000000 in
theorem kes_enter_p0 (B p N : Nat) (S : TS) (q0 q1 r0 r1 : Reg) (side me : Int) (b c : Nat) (w : World) (h : Plays B w p S) (hl : RegsAt [2, 3, 4] w p b [q0, q1, r0, r1]) (hq0 : q0.ok) (hq1 : q1.ok) (hr0 : r0.ok) (hr1 : r1.ok)
    (hm0 : 0 ≤ me) (hm1 : me < q0.n) (hm2 : me < q1.n) (hm3 : me < r0.n) (hm4 : me < r1.n) (ht1 : q1.told me) (_ht2 : r1.told me) (hN : S.left < N) (hs : bitM side = 0) (hc4 : 4 ≤ c) (hc5 : c ≤ 9223372036854775807) :
    Calls Try.prog 14 #[.pointer (some ⟨p, 0, none⟩), .slice (some ⟨b, 0, none⟩) 4 c, .int .i64 side, .int .i64 me] w (Post encU B p w ((kesEnter N q0 q1 r0 r1 0 me).run S)) := by
  generalize hR : Post encU B p w ((kesEnter N q0 q1 r0 r1 0 me).run S) = R
  have hO : Owes R encU B p w ((kesEnter N q0 q1 r0 r1 0 me).run S) := hR ▸ owes _ _ _ _ _
  clear hR
  have hmf : ∀ (fn : Fn) (first cap : Array Value) (w : World), (Instr.makeFunc fn first cap).run Try.prog w = .ok (.func fn first cap) w := fun _ _ _ _ => rfl
  have hK := Keep.refl [2, 3, 4] B p w
  have hP := h
  clear h
  unfold kesEnter at hO
  obtain ⟨⟨a0, a1, a2, a3, a4, a5, a6⟩, ⟨e0, e1, e2, e3, e4, e5, e6⟩, ⟨f0, f1, f2, f3, f4, f5, f6⟩, ⟨g0, g1, g2, g3, g4, g5, g6⟩⟩ := hl.four
  have hc6 : (2 : Int) ≤ (c : Int) := by omega
  have hc7 : (4 : Int) ≤ (c : Int) := by omega
  have hb := kbit_p side w
  rw [hs] at hb
  clear hs
  go_enter Try.func14, Try.ntmps14
  go_wp2_with fail
  refine hb.mono ?_
  rintro e w' ⟨rfl, rfl⟩
  clear hb
  go_wp2_with fail
  go_quiet (fail)
  have hx := (Ext.refl w).drewN nq
  replace hl := hl.extL hx hP.lt
  replace hK := hK.trans (Keep.of_ext hx hP.lt hP.le)
  replace hP := hP.ext hx
  clear a0 a1 a2 a3 a4 a5 a6 e0 e1 e2 e3 e4 e5 e6 f0 f1 f2 f3 f4 f5 f6 g0 g1 g2 g3 g4 g5 g6 hx
  generalize w.drewN nq = wz at *
  obtain ⟨⟨a0, a1, a2, a3, a4, a5, a6⟩, ⟨e0, e1, e2, e3, e4, e5, e6⟩, ⟨f0, f1, f2, f3, f4, f5, f6⟩, ⟨g0, g1, g2, g3, g4, g5, g6⟩⟩ := hl.four
  go_wp2_with fail
  refine tstepL hO hK (reg_write_p B p S q0 me 1 _ hP hq0 ⟨hm0, by omega⟩) (fun _ h => ⟨rfl, h⟩) ?_
  clear hO hK hP
  intro u S w1 hlf _ hP hk hK hO
  replace hN := Nat.lt_of_le_of_lt hlf hN
  replace hl := hl.keep hk
  clear a0 a1 a2 a3 a4 a5 a6 e0 e1 e2 e3 e4 e5 e6 f0 f1 f2 f3 f4 f5 f6 g0 g1 g2 g3 g4 g5 g6 hk hlf
  obtain ⟨⟨a0, a1, a2, a3, a4, a5, a6⟩, ⟨e0, e1, e2, e3, e4, e5, e6⟩, ⟨f0, f1, f2, f3, f4, f5, f6⟩, ⟨g0, g1, g2, g3, g4, g5, g6⟩⟩ := hl.four
  go_wp2_with fail
  refine tstepL hO hK (reg_read_p B p S r1 me _ hP hr1 ⟨hm0, by omega⟩) (fun _ h => ⟨rfl, h⟩) ?_
  clear hO hK hP
  intro x S w2 hlf _ hP hk hK hO
  replace hN := Nat.lt_of_le_of_lt hlf hN
  replace hl := hl.keep hk
  clear a0 a1 a2 a3 a4 a5 a6 e0 e1 e2 e3 e4 e5 e6 f0 f1 f2 f3 f4 f5 f6 g0 g1 g2 g3 g4 g5 g6 hk hlf
  obtain ⟨⟨a0, a1, a2, a3, a4, a5, a6⟩, ⟨e0, e1, e2, e3, e4, e5, e6⟩, ⟨f0, f1, f2, f3, f4, f5, f6⟩, ⟨g0, g1, g2, g3, g4, g5, g6⟩⟩ := hl.four
  go_wp2_with fail
  have hbx : 0 ≤ bitM x ∧ bitM x ≤ 1 := by unfold bitM; split <;> omega
  have hwx := w64 (1 - bitM x) (by omega) (by omega)
  refine (kbit_p x _).mono ?_
  rintro e w' ⟨rfl, rfl⟩
  go_wp2_with fail
  have hPo := hP
  have bT := hP.held (.cells #[.int .i64 (bitM x)] 3)
  replace hK := hK.trans (Keep.alloc (.cells #[.int .i64 (bitM x)] 3) hP.lt hP.le)
  replace hP := hP.alloc (.cells #[.int .i64 (bitM x)] 3)
  have c_bT := bT.cells
  replace hl := hl.extL ((Ext.refl _).alloc (.cells #[.int .i64 (bitM x)] 3)) hPo.lt
  clear hPo
  clear a0 a1 a2 a3 a4 a5 a6 e0 e1 e2 e3 e4 e5 e6 f0 f1 f2 f3 f4 f5 f6 g0 g1 g2 g3 g4 g5 g6
  rw [show kesT 0 x = (bitM x) from rfl] at hO
  replace hP := hP.drew
  replace hK := hK.drew
  replace bT := bT.drew
  replace hl := hl.extL (Ext.refl _).drew hP.lt
  have hS : ∀ w', RegsAt [2, 3, 4] w' p b [q0, q1, r0, r1] → HeldP w' p w2.heap.size (.cells #[.int .i64 (bitM x)] 3) → (w'.cell? ⟨b, 14, none⟩ = some (.int .i64 r0.kind) ∧ w'.cell? ⟨b, 15, none⟩ = some (.int .i64 r0.base) ∧ w'.cell? ⟨b, 16, none⟩ = some (.int .i64 r0.loc) ∧ w'.cell? ⟨b, 17, none⟩ = some (.int .i64 r0.n) ∧ w'.cell? ⟨b, 18, none⟩ = some (.int .i64 r0.wr) ∧ w'.cell? ⟨b, 19, none⟩ = some (.int .i64 r0.rd) ∧ w'.cell? ⟨b, 20, none⟩ = some (.int .i64 r0.top)) ∧ (∀ i, w'.cell? ⟨w2.heap.size, i, none⟩ = (#[.int .i64 (bitM x)] : Array Value)[i]?) := fun w' h1 h2 => by
    obtain ⟨y0, y1, y2, y3, y4, y5, y6⟩ := h1.four.2.2.1
    exact ⟨⟨y0, y1, y2, y3, y4, y5, y6⟩, h2.cells⟩
  go_region_held2 (fun w' => (w'.cell? ⟨b, 14, none⟩ = some (.int .i64 r0.kind) ∧ w'.cell? ⟨b, 15, none⟩ = some (.int .i64 r0.base) ∧ w'.cell? ⟨b, 16, none⟩ = some (.int .i64 r0.loc) ∧ w'.cell? ⟨b, 17, none⟩ = some (.int .i64 r0.n) ∧ w'.cell? ⟨b, 18, none⟩ = some (.int .i64 r0.wr) ∧ w'.cell? ⟨b, 19, none⟩ = some (.int .i64 r0.rd) ∧ w'.cell? ⟨b, 20, none⟩ = some (.int .i64 r0.top)) ∧ (∀ i, w'.cell? ⟨w2.heap.size, i, none⟩ = (#[.int .i64 (bitM x)] : Array Value)[i]?)) (exact hS _ hl bT)
    (first
      | (go_at_call 43
         refine tstepL hO hK (reg_write_p B p S r0 me (bitM x) _ hP hr0 ⟨hm0, by omega⟩) (fun _ h => ⟨rfl, h⟩) ?_
         clear hO hK hP
         intro u S w3 hlf _ hP hk hK hO
         replace hN := Nat.lt_of_le_of_lt hlf hN
         replace hl := hl.keep hk
         replace bT := bT.keep hk
         clear hk hlf))
  rename_i hh
  clear hh c_bT
  generalize htx : (bitM x) = t at *
  go_wp2_with fail
  go_loopw [] (fun wr => ∃ (n : Nat) (S1 : TS), Plays B wr p S1 ∧ KeepP B p w wr ∧ HeldP wr p w2.heap.size (.cells #[.int .i64 t] 3) ∧ RegsAt [2, 3, 4] wr p b [q0, q1, r0, r1] ∧ Hid (Owes R encU B p w ((kesSpin q1 r1 0 t me n).run S1)) ∧ S1.left < n) (fun wr => leftW 1 3 wr p)
  case atStart => exact ⟨N, S, hP, hK, bT, hl, hO, hN⟩
  case round =>
    clear hS hP hK bT hl hO hN
    obtain ⟨n, S1, hP, hK, bT, hl, hO, hN⟩ := hrel
    have hO := hO.out
    have hlw := Lib.hid hP.left
    cases n with
    | zero => omega
    | succ n =>
      unfold kesSpin at hO
      obtain ⟨⟨a0, a1, a2, a3, a4, a5, a6⟩, ⟨e0, e1, e2, e3, e4, e5, e6⟩, ⟨f0, f1, f2, f3, f4, f5, f6⟩, ⟨g0, g1, g2, g3, g4, g5, g6⟩⟩ := hl.four
      go_wp2_with fail
      refine tstepL hO hK (reg_read_p B p S1 q1 me _ hP hq1 ⟨hm0, by omega⟩) (fun _ h => ⟨rfl, h⟩) ?_
      clear hO hK hP
      intro v S2 w4 _ hlf hP hk hK hO
      replace hlf := hlf (asks_regR _ _ ht1)
      replace hl := hl.keep hk
      replace bT := bT.keep hk
      clear a0 a1 a2 a3 a4 a5 a6 e0 e1 e2 e3 e4 e5 e6 f0 f1 f2 f3 f4 f5 f6 g0 g1 g2 g3 g4 g5 g6 hk
      by_cases hv : v = 0
      · rw [if_pos hv] at hO
        subst hv
        have hf : R (.returned (encU ())) w4 := hO.done hP hK
        clear hO hP hK hl bT
        go_wp2_with fail
        first | exact hf | (refine bodyPost_ret (results_none rfl _ _ _) rfl ?_; exact hf)
      · rw [if_neg hv] at hO
        have hv2 : (v == 0) = false := by rw [beq_eq_false_iff_ne]; exact hv
        obtain ⟨⟨a0, a1, a2, a3, a4, a5, a6⟩, ⟨e0, e1, e2, e3, e4, e5, e6⟩, ⟨f0, f1, f2, f3, f4, f5, f6⟩, ⟨g0, g1, g2, g3, g4, g5, g6⟩⟩ := hl.four
        clear hv
        go_wp2_with fail
        refine tstepL hO hK (reg_read_p B p S2 r1 me _ hP hr1 ⟨hm0, by omega⟩) (fun _ h => ⟨rfl, h⟩) ?_
        clear hO hK hP
        intro y S3 w5 hlf2 _ hP hk hK hO
        replace hl := hl.keep hk
        replace bT := bT.keep hk
        clear a0 a1 a2 a3 a4 a5 a6 e0 e1 e2 e3 e4 e5 e6 f0 f1 f2 f3 f4 f5 f6 g0 g1 g2 g3 g4 g5 g6 hk
        have c_bT := bT.cells
        go_wp2_with fail
        refine (kbit_p y _).mono ?_
        rintro e w' ⟨rfl, rfl⟩
        go_wp2_with fail
        refine (kfree0_p (bitM y) t _ _ (c_bT 0)).mono ?_
        rintro e w' ⟨rfl, rfl⟩
        by_cases hy : kesFree 0 t y = true
        · rw [if_pos hy] at hO
          have hy2 : (bitM y != t) = true := by unfold kesFree at hy; simpa using hy
          have hf : R (.returned (encU ())) w5 := hO.done hP hK
          clear hO hP hK hl bT hy
          go_wp2_with fail
          first | exact hf | (refine bodyPost_ret (results_none rfl _ _ _) rfl ?_; exact hf)
        · rw [if_neg hy] at hO
          have hy2 : (bitM y != t) = false := by unfold kesFree at hy; simpa using hy
          obtain ⟨⟨a0, a1, a2, a3, a4, a5, a6⟩, ⟨e0, e1, e2, e3, e4, e5, e6⟩, ⟨f0, f1, f2, f3, f4, f5, f6⟩, ⟨g0, g1, g2, g3, g4, g5, g6⟩⟩ := hl.four
          clear hy c_bT
          go_wp2_with fail
          refine (cells_pm q1 me _ hq1 ht1 ⟨hm0, by omega⟩).mono ?_
          rintro e w6 ⟨cc, rfl, hcc, hx⟩
          replace hl := hl.extL hx hP.lt
          replace bT := bT.ext hx hP.lt
          replace hK := hK.trans (Keep.of_ext hx hP.lt hP.le)
          replace hP := hP.ext hx
          clear a0 a1 a2 a3 a4 a5 a6 e0 e1 e2 e3 e4 e5 e6 f0 f1 f2 f3 f4 f5 f6 g0 g1 g2 g3 g4 g5 g6 hx
          have hlw2 := Lib.hid hP.left
          have hOh := Lib.hid hO
          clear hO
          go_wp2_with fail
          refine ⟨⟨n, S3, hP, hK, bT, hl, hOh, by omega⟩, ?_⟩
          rw [hlw.out, hlw2.out]
          omega
set_option maxRecDepth 100000 in
set_option maxHeartbeats 1000000 in
theorem kes_enter_p1 (B p N : Nat) (S : TS) (q0 q1 r0 r1 : Reg) (side me : Int) (b c : Nat) (w : World) (h : Plays B w p S) (hl : RegsAt [2, 3, 4] w p b [q0, q1, r0, r1]) (hq0 : q0.ok) (hq1 : q1.ok) (hr0 : r0.ok) (hr1 : r1.ok)
    (hm0 : 0 ≤ me) (hm1 : me < q0.n) (hm2 : me < q1.n) (hm3 : me < r0.n) (hm4 : me < r1.n) (ht1 : q0.told me) (_ht2 : r0.told me) (hN : S.left < N) (hs : bitM side = 1) (hc4 : 4 ≤ c) (hc5 : c ≤ 9223372036854775807) :
    Calls Try.prog 14 #[.pointer (some ⟨p, 0, none⟩), .slice (some ⟨b, 0, none⟩) 4 c, .int .i64 side, .int .i64 me] w (Post encU B p w ((kesEnter N q1 q0 r1 r0 1 me).run S)) := by
  generalize hR : Post encU B p w ((kesEnter N q1 q0 r1 r0 1 me).run S) = R
  have hO : Owes R encU B p w ((kesEnter N q1 q0 r1 r0 1 me).run S) := hR ▸ owes _ _ _ _ _
  clear hR
  have hmf : ∀ (fn : Fn) (first cap : Array Value) (w : World), (Instr.makeFunc fn first cap).run Try.prog w = .ok (.func fn first cap) w := fun _ _ _ _ => rfl
  have hK := Keep.refl [2, 3, 4] B p w
  have hP := h
  clear h
  unfold kesEnter at hO
  obtain ⟨⟨a0, a1, a2, a3, a4, a5, a6⟩, ⟨e0, e1, e2, e3, e4, e5, e6⟩, ⟨f0, f1, f2, f3, f4, f5, f6⟩, ⟨g0, g1, g2, g3, g4, g5, g6⟩⟩ := hl.four
  have hc6 : (2 : Int) ≤ (c : Int) := by omega
  have hc7 : (4 : Int) ≤ (c : Int) := by omega
  have hb := kbit_p side w
  rw [hs] at hb
  clear hs
  go_enter Try.func14, Try.ntmps14
  go_wp2_with fail
  refine hb.mono ?_
  rintro e w' ⟨rfl, rfl⟩
  clear hb
  go_wp2_with fail
  go_quiet (fail)
  have hx := (Ext.refl w).drewN nq
  replace hl := hl.extL hx hP.lt
  replace hK := hK.trans (Keep.of_ext hx hP.lt hP.le)
  replace hP := hP.ext hx
  clear a0 a1 a2 a3 a4 a5 a6 e0 e1 e2 e3 e4 e5 e6 f0 f1 f2 f3 f4 f5 f6 g0 g1 g2 g3 g4 g5 g6 hx
  generalize w.drewN nq = wz at *
  obtain ⟨⟨a0, a1, a2, a3, a4, a5, a6⟩, ⟨e0, e1, e2, e3, e4, e5, e6⟩, ⟨f0, f1, f2, f3, f4, f5, f6⟩, ⟨g0, g1, g2, g3, g4, g5, g6⟩⟩ := hl.four
  go_wp2_with fail
  refine tstepL hO hK (reg_write_p B p S q1 me 1 _ hP hq1 ⟨hm0, by omega⟩) (fun _ h => ⟨rfl, h⟩) ?_
  clear hO hK hP
  intro u S w1 hlf _ hP hk hK hO
  replace hN := Nat.lt_of_le_of_lt hlf hN
  replace hl := hl.keep hk
  clear a0 a1 a2 a3 a4 a5 a6 e0 e1 e2 e3 e4 e5 e6 f0 f1 f2 f3 f4 f5 f6 g0 g1 g2 g3 g4 g5 g6 hk hlf
  obtain ⟨⟨a0, a1, a2, a3, a4, a5, a6⟩, ⟨e0, e1, e2, e3, e4, e5, e6⟩, ⟨f0, f1, f2, f3, f4, f5, f6⟩, ⟨g0, g1, g2, g3, g4, g5, g6⟩⟩ := hl.four
  go_wp2_with fail
  refine tstepL hO hK (reg_read_p B p S r0 me _ hP hr0 ⟨hm0, by omega⟩) (fun _ h => ⟨rfl, h⟩) ?_
  clear hO hK hP
  intro x S w2 hlf _ hP hk hK hO
  replace hN := Nat.lt_of_le_of_lt hlf hN
  replace hl := hl.keep hk
  clear a0 a1 a2 a3 a4 a5 a6 e0 e1 e2 e3 e4 e5 e6 f0 f1 f2 f3 f4 f5 f6 g0 g1 g2 g3 g4 g5 g6 hk hlf
  obtain ⟨⟨a0, a1, a2, a3, a4, a5, a6⟩, ⟨e0, e1, e2, e3, e4, e5, e6⟩, ⟨f0, f1, f2, f3, f4, f5, f6⟩, ⟨g0, g1, g2, g3, g4, g5, g6⟩⟩ := hl.four
  go_wp2_with fail
  have hbx : 0 ≤ bitM x ∧ bitM x ≤ 1 := by unfold bitM; split <;> omega
  have hwx := w64 (1 - bitM x) (by omega) (by omega)
  refine (kbit_p x _).mono ?_
  rintro e w' ⟨rfl, rfl⟩
  go_wp2_with fail
  have hPo := hP
  have bT := hP.held (.cells #[.int .i64 (1 - bitM x)] 3)
  replace hK := hK.trans (Keep.alloc (.cells #[.int .i64 (1 - bitM x)] 3) hP.lt hP.le)
  replace hP := hP.alloc (.cells #[.int .i64 (1 - bitM x)] 3)
  have c_bT := bT.cells
  replace hl := hl.extL ((Ext.refl _).alloc (.cells #[.int .i64 (1 - bitM x)] 3)) hPo.lt
  clear hPo
  clear a0 a1 a2 a3 a4 a5 a6 e0 e1 e2 e3 e4 e5 e6 f0 f1 f2 f3 f4 f5 f6 g0 g1 g2 g3 g4 g5 g6
  rw [show kesT 1 x = (1 - bitM x) from rfl] at hO
  replace hP := hP.drew
  replace hK := hK.drew
  replace bT := bT.drew
  replace hl := hl.extL (Ext.refl _).drew hP.lt
  have hS : ∀ w', RegsAt [2, 3, 4] w' p b [q0, q1, r0, r1] → HeldP w' p w2.heap.size (.cells #[.int .i64 (1 - bitM x)] 3) → (w'.cell? ⟨b, 21, none⟩ = some (.int .i64 r1.kind) ∧ w'.cell? ⟨b, 22, none⟩ = some (.int .i64 r1.base) ∧ w'.cell? ⟨b, 23, none⟩ = some (.int .i64 r1.loc) ∧ w'.cell? ⟨b, 24, none⟩ = some (.int .i64 r1.n) ∧ w'.cell? ⟨b, 25, none⟩ = some (.int .i64 r1.wr) ∧ w'.cell? ⟨b, 26, none⟩ = some (.int .i64 r1.rd) ∧ w'.cell? ⟨b, 27, none⟩ = some (.int .i64 r1.top)) ∧ (∀ i, w'.cell? ⟨w2.heap.size, i, none⟩ = (#[.int .i64 (1 - bitM x)] : Array Value)[i]?) := fun w' h1 h2 => by
    obtain ⟨y0, y1, y2, y3, y4, y5, y6⟩ := h1.four.2.2.2
    exact ⟨⟨y0, y1, y2, y3, y4, y5, y6⟩, h2.cells⟩
  go_region_held2 (fun w' => (w'.cell? ⟨b, 21, none⟩ = some (.int .i64 r1.kind) ∧ w'.cell? ⟨b, 22, none⟩ = some (.int .i64 r1.base) ∧ w'.cell? ⟨b, 23, none⟩ = some (.int .i64 r1.loc) ∧ w'.cell? ⟨b, 24, none⟩ = some (.int .i64 r1.n) ∧ w'.cell? ⟨b, 25, none⟩ = some (.int .i64 r1.wr) ∧ w'.cell? ⟨b, 26, none⟩ = some (.int .i64 r1.rd) ∧ w'.cell? ⟨b, 27, none⟩ = some (.int .i64 r1.top)) ∧ (∀ i, w'.cell? ⟨w2.heap.size, i, none⟩ = (#[.int .i64 (1 - bitM x)] : Array Value)[i]?)) (exact hS _ hl bT)
    (first
      | (go_at_call 43
         refine tstepL hO hK (reg_write_p B p S r1 me (1 - bitM x) _ hP hr1 ⟨hm0, by omega⟩) (fun _ h => ⟨rfl, h⟩) ?_
         clear hO hK hP
         intro u S w3 hlf _ hP hk hK hO
         replace hN := Nat.lt_of_le_of_lt hlf hN
         replace hl := hl.keep hk
         replace bT := bT.keep hk
         clear hk hlf))
  rename_i hh
  clear hh c_bT
  generalize htx : (1 - bitM x) = t at *
  go_wp2_with fail
  go_loopw [] (fun wr => ∃ (n : Nat) (S1 : TS), Plays B wr p S1 ∧ KeepP B p w wr ∧ HeldP wr p w2.heap.size (.cells #[.int .i64 t] 3) ∧ RegsAt [2, 3, 4] wr p b [q0, q1, r0, r1] ∧ Hid (Owes R encU B p w ((kesSpin q0 r0 1 t me n).run S1)) ∧ S1.left < n) (fun wr => leftW 1 3 wr p)
  case atStart => exact ⟨N, S, hP, hK, bT, hl, hO, hN⟩
  case round =>
    clear hS hP hK bT hl hO hN
    obtain ⟨n, S1, hP, hK, bT, hl, hO, hN⟩ := hrel
    have hO := hO.out
    have hlw := Lib.hid hP.left
    cases n with
    | zero => omega
    | succ n =>
      unfold kesSpin at hO
      obtain ⟨⟨a0, a1, a2, a3, a4, a5, a6⟩, ⟨e0, e1, e2, e3, e4, e5, e6⟩, ⟨f0, f1, f2, f3, f4, f5, f6⟩, ⟨g0, g1, g2, g3, g4, g5, g6⟩⟩ := hl.four
      go_wp2_with fail
      refine tstepL hO hK (reg_read_p B p S1 q0 me _ hP hq0 ⟨hm0, by omega⟩) (fun _ h => ⟨rfl, h⟩) ?_
      clear hO hK hP
      intro v S2 w4 _ hlf hP hk hK hO
      replace hlf := hlf (asks_regR _ _ ht1)
      replace hl := hl.keep hk
      replace bT := bT.keep hk
      clear a0 a1 a2 a3 a4 a5 a6 e0 e1 e2 e3 e4 e5 e6 f0 f1 f2 f3 f4 f5 f6 g0 g1 g2 g3 g4 g5 g6 hk
      by_cases hv : v = 0
      · rw [if_pos hv] at hO
        subst hv
        have hf : R (.returned (encU ())) w4 := hO.done hP hK
        clear hO hP hK hl bT
        go_wp2_with fail
        first | exact hf | (refine bodyPost_ret (results_none rfl _ _ _) rfl ?_; exact hf)
      · rw [if_neg hv] at hO
        have hv2 : (v == 0) = false := by rw [beq_eq_false_iff_ne]; exact hv
        obtain ⟨⟨a0, a1, a2, a3, a4, a5, a6⟩, ⟨e0, e1, e2, e3, e4, e5, e6⟩, ⟨f0, f1, f2, f3, f4, f5, f6⟩, ⟨g0, g1, g2, g3, g4, g5, g6⟩⟩ := hl.four
        clear hv
        go_wp2_with fail
        refine tstepL hO hK (reg_read_p B p S2 r0 me _ hP hr0 ⟨hm0, by omega⟩) (fun _ h => ⟨rfl, h⟩) ?_
        clear hO hK hP
        intro y S3 w5 hlf2 _ hP hk hK hO
        replace hl := hl.keep hk
        replace bT := bT.keep hk
        clear a0 a1 a2 a3 a4 a5 a6 e0 e1 e2 e3 e4 e5 e6 f0 f1 f2 f3 f4 f5 f6 g0 g1 g2 g3 g4 g5 g6 hk
        have c_bT := bT.cells
        go_wp2_with fail
        refine (kbit_p y _).mono ?_
        rintro e w' ⟨rfl, rfl⟩
        go_wp2_with fail
        refine (kfree1_p (bitM y) t _ _ (c_bT 0)).mono ?_
        rintro e w' ⟨rfl, rfl⟩
        by_cases hy : kesFree 1 t y = true
        · rw [if_pos hy] at hO
          have hy2 : (bitM y == t) = true := by unfold kesFree at hy; simpa using hy
          have hf : R (.returned (encU ())) w5 := hO.done hP hK
          clear hO hP hK hl bT hy
          go_wp2_with fail
          first | exact hf | (refine bodyPost_ret (results_none rfl _ _ _) rfl ?_; exact hf)
        · rw [if_neg hy] at hO
          have hy2 : (bitM y == t) = false := by unfold kesFree at hy; simpa using hy
          obtain ⟨⟨a0, a1, a2, a3, a4, a5, a6⟩, ⟨e0, e1, e2, e3, e4, e5, e6⟩, ⟨f0, f1, f2, f3, f4, f5, f6⟩, ⟨g0, g1, g2, g3, g4, g5, g6⟩⟩ := hl.four
          clear hy c_bT
          go_wp2_with fail
          refine (cells_pm q0 me _ hq0 ht1 ⟨hm0, by omega⟩).mono ?_
          rintro e w6 ⟨cc, rfl, hcc, hx⟩
          replace hl := hl.extL hx hP.lt
          replace bT := bT.ext hx hP.lt
          replace hK := hK.trans (Keep.of_ext hx hP.lt hP.le)
          replace hP := hP.ext hx
          clear a0 a1 a2 a3 a4 a5 a6 e0 e1 e2 e3 e4 e5 e6 f0 f1 f2 f3 f4 f5 f6 g0 g1 g2 g3 g4 g5 g6 hx
          have hlw2 := Lib.hid hP.left
          have hOh := Lib.hid hO
          clear hO
          go_wp2_with fail
          refine ⟨⟨n, S3, hP, hK, bT, hl, hOh, by omega⟩, ?_⟩
          rw [hlw.out, hlw2.out]
          omega
end Go.Proofs.Ytpcohbpeglledaa
/-
  Kessels: leaving, by the program.
-/
namespace Go.Proofs.Ytpcohbpeglledaa
open Go.RowKit Kv
theorem kbit_p' (x : Int) (w : World) : Calls Try.prog 42 #[.int .i64 x] w fun e w' => e = .returned (.int .i64 (bitM x)) ∧ w = w' := by
  unfold bitM
  by_cases h : x = 0
  · rw [if_pos h]
    go_enter Try.func42, Try.ntmps42
    go_wp2_with fail
    go_ret
    exact ⟨rfl, rfl⟩
  · rw [if_neg h]
    have hb : (x != 0) = true := by rw [bne_iff_ne]; exact h
    go_enter Try.func42, Try.ntmps42
    go_wp2_with fail
    go_ret
    exact ⟨rfl, rfl⟩
theorem kes_leave_p (B p : Nat) (S : TS) (q0 q1 r0 r1 : Reg) (side me : Int) (b c : Nat) (w : World) (h : Plays B w p S) (hl : RegsAt [2, 3, 4] w p b [q0, q1, r0, r1]) (hq0 : q0.ok) (hq1 : q1.ok)
    (hm0 : 0 ≤ me) (hm1 : me < q0.n) (hm2 : me < q1.n) :
    Calls Try.prog 16 #[.pointer (some ⟨p, 0, none⟩), .slice (some ⟨b, 0, none⟩) 4 c, .int .i64 side, .int .i64 me] w (Post encU B p w ((regW (if bitM side = 1 then q1 else q0) me 0).run S)) := by
  have hb := kbit_p' side w
  obtain ⟨⟨a0, a1, a2, a3, a4, a5, a6⟩, ⟨e0, e1, e2, e3, e4, e5, e6⟩, -, -⟩ := hl.four
  have hs : bitM side = 0 ∨ bitM side = 1 := by unfold bitM; split <;> simp
  rcases hs with hs | hs
  · rw [hs] at hb ⊢
    rw [if_neg (by omega)]
    generalize hR : Post encU B p w ((regW q0 me 0).run S) = R
    have hO : Owes R encU B p w ((regW q0 me 0).run S) := hR ▸ owes _ _ _ _ _
    clear hR
    go_enter Try.func16, Try.ntmps16
    go_wp2_with fail
    refine hb.mono ?_
    rintro e w' ⟨rfl, rfl⟩
    go_wp2_with fail
    clear a0 a1 a2 a3 a4 a5 a6 e0 e1 e2 e3 e4 e5 e6 hl hb
    refine tlast hO (Keep.refl _ _ _ _) (reg_write_p B p S q0 me 0 _ h hq0 ⟨hm0, hm1⟩) (fun _ h => ⟨rfl, h⟩) ?_
    intro v S1 w1 hr hP1 hk1 hK1 hO1
    have hf := hO1.done hP1 hK1
    clear hO1 hP1 hK1 hr hk1 hO h
    go_wp2_with fail
    first | exact hf | (refine bodyPost_ret (results_none rfl _ _ _) rfl ?_; exact hf)
  · rw [hs] at hb ⊢
    rw [if_pos rfl]
    generalize hR : Post encU B p w ((regW q1 me 0).run S) = R
    have hO : Owes R encU B p w ((regW q1 me 0).run S) := hR ▸ owes _ _ _ _ _
    clear hR
    go_enter Try.func16, Try.ntmps16
    go_wp2_with fail
    refine hb.mono ?_
    rintro e w' ⟨rfl, rfl⟩
    go_wp2_with fail
    clear a0 a1 a2 a3 a4 a5 a6 e0 e1 e2 e3 e4 e5 e6 hl hb
    refine tlast hO (Keep.refl _ _ _ _) (reg_write_p B p S q1 me 0 _ h hq1 ⟨hm0, hm2⟩) (fun _ h => ⟨rfl, h⟩) ?_
    intro v S1 w1 hr hP1 hk1 hK1 hO1
    have hf := hO1.done hP1 hK1
    clear hO1 hP1 hK1 hr hk1 hO h
    go_wp2_with fail
    first | exact hf | (refine bodyPost_ret (results_none rfl _ _ _) rfl ?_; exact hf)
end Go.Proofs.Ytpcohbpeglledaa
/-
  Kessels: entering, by the document.
-/
namespace Go.Proofs.Ytpcohbpeglledaa
open Go.RowKit Kv
end Go.Proofs.Ytpcohbpeglledaa
/-
  Kessels: entering and leaving, both sides.
-/
namespace Kv
/-- Entering on a side, and leaving. -/
def kesM (n : Nat) (q0 q1 r0 r1 : Reg) (side me : Int) : Prog Unit := if bitM side = 1 then kesEnter n q1 q0 r1 r0 1 me else kesEnter n q0 q1 r0 r1 0 me
def kesL (q0 q1 : Reg) (side me : Int) : Prog Unit := regW (if bitM side = 1 then q1 else q0) me 0
theorem bitM_or (x : Int) : bitM x = 0 ∨ bitM x = 1 := by unfold bitM; split <;> simp
end Kv
namespace Go.Proofs.Ytpcohbpeglledaa
open Go.RowKit Kv
theorem kes_enter_p (B p N : Nat) (S : TS) (q0 q1 r0 r1 : Reg) (side me : Int) (b c : Nat) (w : World) (h : Plays B w p S) (hl : RegsAt [2, 3, 4] w p b [q0, q1, r0, r1]) (hq0 : q0.ok) (hq1 : q1.ok) (hr0 : r0.ok) (hr1 : r1.ok)
    (hm0 : 0 ≤ me) (hm1 : me < q0.n) (hm2 : me < q1.n) (hm3 : me < r0.n) (hm4 : me < r1.n) (ht1 : q0.told me) (ht2 : q1.told me) (ht3 : r0.told me) (ht4 : r1.told me) (hN : S.left < N) (hc4 : 4 ≤ c) (hc5 : c ≤ 9223372036854775807) :
    Calls Try.prog 14 #[.pointer (some ⟨p, 0, none⟩), .slice (some ⟨b, 0, none⟩) 4 c, .int .i64 side, .int .i64 me] w (Post encU B p w ((kesM N q0 q1 r0 r1 side me).run S)) := by
  unfold kesM
  rcases bitM_or side with hs | hs
  · rw [if_neg (by omega)]
    exact kes_enter_p0 B p N S q0 q1 r0 r1 side me b c w h hl hq0 hq1 hr0 hr1 hm0 hm1 hm2 hm3 hm4 ht2 ht4 hN hs hc4 hc5
  · rw [if_pos hs]
    exact kes_enter_p1 B p N S q0 q1 r0 r1 side me b c w h hl hq0 hq1 hr0 hr1 hm0 hm1 hm2 hm3 hm4 ht1 ht3 hN hs hc4 hc5
end Go.Proofs.Ytpcohbpeglledaa
/-
  Peterson's lock of two sides: entering and leaving, by the program.
-/
namespace Kv
/-- Spinning, so many rounds at most. -/
def arbSpin (qo rt : Reg) (s me : Int) : Nat → Prog Unit
  | 0 => .ret ()
  | n + 1 => (regR qo me).bind fun x => if x = 0 then .ret () else (regR rt me).bind fun y => if y = s then arbSpin qo rt s me n else .ret ()
def arbEnter (n : Nat) (qs qo rt : Reg) (s me : Int) : Prog Unit := (regW qs me 1).bind fun _ => (regW rt me s).bind fun _ => arbSpin qo rt s me n
def arbM (n : Nat) (q0 q1 rt : Reg) (side me : Int) : Prog Unit := if bitM side = 1 then arbEnter n q1 q0 rt 1 me else arbEnter n q0 q1 rt 0 me
theorem arbSpin_succ (qo rt : Reg) (s me : Int) (n : Nat) : arbSpin qo rt s me (n + 1) = (regR qo me).bind fun x => if x = 0 then .ret () else (regR rt me).bind fun y => if y = s then arbSpin qo rt s me n else .ret () := rfl
end Kv
namespace Go.Proofs.Ytpcohbpeglledaa
open Go.RowKit Kv
theorem RegsAt.three {ix : List Nat} {p b : Nat} {w : World} {x y z : Reg} (h : RegsAt ix w p b [x, y, z]) : RegCells w b 0 x ∧ RegCells w b 7 y ∧ RegCells w b 14 z :=
  ⟨⟨h.cells 0 _ rfl, h.cells 1 _ rfl, h.cells 2 _ rfl, h.cells 3 _ rfl, h.cells 4 _ rfl, h.cells 5 _ rfl, h.cells 6 _ rfl⟩, ⟨h.cells 7 _ rfl, h.cells 8 _ rfl, h.cells 9 _ rfl, h.cells 10 _ rfl, h.cells 11 _ rfl, h.cells 12 _ rfl, h.cells 13 _ rfl⟩,
    ⟨h.cells 14 _ rfl, h.cells 15 _ rfl, h.cells 16 _ rfl, h.cells 17 _ rfl, h.cells 18 _ rfl, h.cells 19 _ rfl, h.cells 20 _ rfl⟩⟩
theorem abit_p (x : Int) (w : World) : Calls Try.prog 52 #[.int .i64 x] w fun e w' => e = .returned (.int .i64 (bitM x)) ∧ w = w' := by
  unfold bitM
  by_cases h : x = 0
  · rw [if_pos h]
    go_enter Try.func52, Try.ntmps52
    go_wp2_with fail
    go_ret
    exact ⟨rfl, rfl⟩
  · rw [if_neg h]
    have hb : (x != 0) = true := by rw [bne_iff_ne]; exact h
    go_enter Try.func52, Try.ntmps52
    go_wp2_with fail
    go_ret
    exact ⟨rfl, rfl⟩
theorem two_held {B p b : Nat} {w : World} {S : TS} {rs : List Reg} (h : Plays B w p S) (hl : RegsAt [2, 3, 4] w p b rs) (o1 o2 : Obj) :
    HeldP ((w.alloc o1).alloc o2).drew p w.heap.size o1 ∧ HeldP ((w.alloc o1).alloc o2).drew p (w.heap.size + 1) o2 ∧ Plays B ((w.alloc o1).alloc o2).drew p S ∧ KeepP B p w ((w.alloc o1).alloc o2).drew ∧ RegsAt [2, 3, 4] ((w.alloc o1).alloc o2).drew p b rs := by
  have h2 := (h.alloc o1).held o2
  rw [World.size_alloc] at h2
  exact ⟨((h.held o1).alloc o2 (h.alloc o1).lt).drew, h2.drew, ((h.alloc o1).alloc o2).drew, ((Keep.alloc o1 h.lt h.le).trans (Keep.alloc o2 (h.alloc o1).lt (h.alloc o1).le)).drew, hl.extL ((((Ext.refl w).alloc o1).alloc o2).drew) h.lt⟩
set_option maxRecDepth 100000 in
set_option maxHeartbeats 1000000 in
theorem arb_enter_p0 (B p N : Nat) (S : TS) (q0 q1 rt : Reg) (side me : Int) (b c : Nat) (w : World) (h : Plays B w p S) (hl : RegsAt [2, 3, 4] w p b [q0, q1, rt]) (hq0 : q0.ok) (hq1 : q1.ok) (hrt : rt.ok)
    (hm0 : 0 ≤ me) (hm1 : me < q0.n) (hm2 : me < q1.n) (hm3 : me < rt.n) (ht1 : q1.told me) (hN : S.left < N) (hs : bitM side = 0) :
    Calls Try.prog 20 #[.pointer (some ⟨p, 0, none⟩), .slice (some ⟨b, 0, none⟩) 3 c, .int .i64 side, .int .i64 me] w (Post encU B p w ((arbEnter N q0 q1 rt 0 me).run S)) := by
  generalize hR : Post encU B p w ((arbEnter N q0 q1 rt 0 me).run S) = R
  have hO : Owes R encU B p w ((arbEnter N q0 q1 rt 0 me).run S) := hR ▸ owes _ _ _ _ _
  clear hR
  have hP := h
  clear h
  unfold arbEnter at hO
  have hb := abit_p side
  rw [hs] at hb
  clear hs
  have hS : ∀ w', RegsAt [2, 3, 4] w' p b [q0, q1, rt] → ((w'.cell? ⟨b, 0, none⟩ = some (.int .i64 q0.kind) ∧ w'.cell? ⟨b, 1, none⟩ = some (.int .i64 q0.base) ∧ w'.cell? ⟨b, 2, none⟩ = some (.int .i64 q0.loc) ∧ w'.cell? ⟨b, 3, none⟩ = some (.int .i64 q0.n) ∧ w'.cell? ⟨b, 4, none⟩ = some (.int .i64 q0.wr) ∧ w'.cell? ⟨b, 5, none⟩ = some (.int .i64 q0.rd) ∧ w'.cell? ⟨b, 6, none⟩ = some (.int .i64 q0.top)) ∧ (w'.cell? ⟨b, 7, none⟩ = some (.int .i64 q1.kind) ∧ w'.cell? ⟨b, 8, none⟩ = some (.int .i64 q1.base) ∧ w'.cell? ⟨b, 9, none⟩ = some (.int .i64 q1.loc) ∧ w'.cell? ⟨b, 10, none⟩ = some (.int .i64 q1.n) ∧ w'.cell? ⟨b, 11, none⟩ = some (.int .i64 q1.wr) ∧ w'.cell? ⟨b, 12, none⟩ = some (.int .i64 q1.rd) ∧ w'.cell? ⟨b, 13, none⟩ = some (.int .i64 q1.top)) ∧ (w'.cell? ⟨b, 14, none⟩ = some (.int .i64 rt.kind) ∧ w'.cell? ⟨b, 15, none⟩ = some (.int .i64 rt.base) ∧ w'.cell? ⟨b, 16, none⟩ = some (.int .i64 rt.loc) ∧ w'.cell? ⟨b, 17, none⟩ = some (.int .i64 rt.n) ∧ w'.cell? ⟨b, 18, none⟩ = some (.int .i64 rt.wr) ∧ w'.cell? ⟨b, 19, none⟩ = some (.int .i64 rt.rd) ∧ w'.cell? ⟨b, 20, none⟩ = some (.int .i64 rt.top))) := fun w' y => by
    obtain ⟨⟨a0, a1, a2, a3, a4, a5, a6⟩, ⟨e0, e1, e2, e3, e4, e5, e6⟩, ⟨f0, f1, f2, f3, f4, f5, f6⟩⟩ := y.three
    exact ⟨⟨a0, a1, a2, a3, a4, a5, a6⟩, ⟨e0, e1, e2, e3, e4, e5, e6⟩, ⟨f0, f1, f2, f3, f4, f5, f6⟩⟩
  go_enter Try.func20, Try.ntmps20
  go_wp2_with fail
  have hOh := Lib.hid hO
  have hbh := Lib.hid hb
  clear hO hb
  go_upto_region 1 with fail
  go_cut [8, 9] (fun s8 s9 wx => ∃ (x y : Nat), s8 = .pointer (some ⟨x, 0, none⟩) ∧ s9 = .pointer (some ⟨y, 0, none⟩) ∧ HeldP wx p x (.cells #[.int .i64 q0.kind, .int .i64 q0.base, .int .i64 q0.loc, .int .i64 q0.n, .int .i64 q0.wr, .int .i64 q0.rd, .int .i64 q0.top, .int .i64 q1.kind, .int .i64 q1.base, .int .i64 q1.loc, .int .i64 q1.n, .int .i64 q1.wr, .int .i64 q1.rd, .int .i64 q1.top] 71) ∧ HeldP wx p y (.cells #[.int .i64 rt.kind, .int .i64 rt.base, .int .i64 rt.loc, .int .i64 rt.n, .int .i64 rt.wr, .int .i64 rt.rd, .int .i64 rt.top] 41) ∧ Plays B wx p S ∧ KeepP B p w wx ∧ RegsAt [2, 3, 4] wx p b [q0, q1, rt])
  case first =>
    have hl2 := hl.extL (Ext.refl w).drew hP.lt
    obtain ⟨⟨a0, a1, a2, a3, a4, a5, a6⟩, ⟨e0, e1, e2, e3, e4, e5, e6⟩, ⟨f0, f1, f2, f3, f4, f5, f6⟩⟩ := hl.three
    go_region_held2 (fun w' => ((w'.cell? ⟨b, 0, none⟩ = some (.int .i64 q0.kind) ∧ w'.cell? ⟨b, 1, none⟩ = some (.int .i64 q0.base) ∧ w'.cell? ⟨b, 2, none⟩ = some (.int .i64 q0.loc) ∧ w'.cell? ⟨b, 3, none⟩ = some (.int .i64 q0.n) ∧ w'.cell? ⟨b, 4, none⟩ = some (.int .i64 q0.wr) ∧ w'.cell? ⟨b, 5, none⟩ = some (.int .i64 q0.rd) ∧ w'.cell? ⟨b, 6, none⟩ = some (.int .i64 q0.top)) ∧ (w'.cell? ⟨b, 7, none⟩ = some (.int .i64 q1.kind) ∧ w'.cell? ⟨b, 8, none⟩ = some (.int .i64 q1.base) ∧ w'.cell? ⟨b, 9, none⟩ = some (.int .i64 q1.loc) ∧ w'.cell? ⟨b, 10, none⟩ = some (.int .i64 q1.n) ∧ w'.cell? ⟨b, 11, none⟩ = some (.int .i64 q1.wr) ∧ w'.cell? ⟨b, 12, none⟩ = some (.int .i64 q1.rd) ∧ w'.cell? ⟨b, 13, none⟩ = some (.int .i64 q1.top)) ∧ (w'.cell? ⟨b, 14, none⟩ = some (.int .i64 rt.kind) ∧ w'.cell? ⟨b, 15, none⟩ = some (.int .i64 rt.base) ∧ w'.cell? ⟨b, 16, none⟩ = some (.int .i64 rt.loc) ∧ w'.cell? ⟨b, 17, none⟩ = some (.int .i64 rt.n) ∧ w'.cell? ⟨b, 18, none⟩ = some (.int .i64 rt.wr) ∧ w'.cell? ⟨b, 19, none⟩ = some (.int .i64 rt.rd) ∧ w'.cell? ⟨b, 20, none⟩ = some (.int .i64 rt.top)))) (first | with_reducible exact hS _ hl2 | go_keep) (fail)
    · rename_i hh
      clear hh
      obtain ⟨b1, b2, hP2, hK2, hl3⟩ := two_held hP hl (.cells #[.int .i64 q0.kind, .int .i64 q0.base, .int .i64 q0.loc, .int .i64 q0.n, .int .i64 q0.wr, .int .i64 q0.rd, .int .i64 q0.top, .int .i64 q1.kind, .int .i64 q1.base, .int .i64 q1.loc, .int .i64 q1.n, .int .i64 q1.wr, .int .i64 q1.rd, .int .i64 q1.top] 71) (.cells #[.int .i64 rt.kind, .int .i64 rt.base, .int .i64 rt.loc, .int .i64 rt.n, .int .i64 rt.wr, .int .i64 rt.rd, .int .i64 rt.top] 41)
      clear hS hl2 hl hP a0 a1 a2 a3 a4 a5 a6 e0 e1 e2 e3 e4 e5 e6 f0 f1 f2 f3 f4 f5 f6
      go_wp2_with fail
      go_meet
      exact ⟨_, _, rfl, rfl, b1, b2, hP2, hK2, hl3⟩
    · rename_i hh
      clear hh
      obtain ⟨b2, b1, hP2, hK2, hl3⟩ := two_held hP hl (.cells #[.int .i64 rt.kind, .int .i64 rt.base, .int .i64 rt.loc, .int .i64 rt.n, .int .i64 rt.wr, .int .i64 rt.rd, .int .i64 rt.top] 41) (.cells #[.int .i64 q0.kind, .int .i64 q0.base, .int .i64 q0.loc, .int .i64 q0.n, .int .i64 q0.wr, .int .i64 q0.rd, .int .i64 q0.top, .int .i64 q1.kind, .int .i64 q1.base, .int .i64 q1.loc, .int .i64 q1.n, .int .i64 q1.wr, .int .i64 q1.rd, .int .i64 q1.top] 71)
      clear hS hl2 hl hP a0 a1 a2 a3 a4 a5 a6 e0 e1 e2 e3 e4 e5 e6 f0 f1 f2 f3 f4 f5 f6
      go_wp2_with fail
      go_meet
      exact ⟨_, _, rfl, rfl, b1, b2, hP2, hK2, hl3⟩
  case rest =>
    clear hS hl hP
    obtain ⟨x, y, rfl, rfl, bx, bt, hP, hK, -⟩ := hcut
    go_wp2_with fail
    refine (hbh.out _).mono ?_
    rintro e w' ⟨rfl, rfl⟩
    have c_bx := bx.cells
    clear hbh
    have hPo := hP
    have bn := hP.held (.cells #[.int .i64 q1.kind, .int .i64 q1.base, .int .i64 q1.loc, .int .i64 q1.n, .int .i64 q1.wr, .int .i64 q1.rd, .int .i64 q1.top] 41)
    have hKn := hK.trans (Keep.alloc (.cells #[.int .i64 q1.kind, .int .i64 q1.base, .int .i64 q1.loc, .int .i64 q1.n, .int .i64 q1.wr, .int .i64 q1.rd, .int .i64 q1.top] 41) hP.lt hP.le)
    have hPn := hP.alloc (.cells #[.int .i64 q1.kind, .int .i64 q1.base, .int .i64 q1.loc, .int .i64 q1.n, .int .i64 q1.wr, .int .i64 q1.rd, .int .i64 q1.top] 41)
    have bxn := bx.alloc (.cells #[.int .i64 q1.kind, .int .i64 q1.base, .int .i64 q1.loc, .int .i64 q1.n, .int .i64 q1.wr, .int .i64 q1.rd, .int .i64 q1.top] 41) hP.lt
    have btn := bt.alloc (.cells #[.int .i64 q1.kind, .int .i64 q1.base, .int .i64 q1.loc, .int .i64 q1.n, .int .i64 q1.wr, .int .i64 q1.rd, .int .i64 q1.top] 41) hP.lt
    clear hP hK bx bt hPo
    have c_bxn := bxn.cells
    go_wp2_with fail
    clear c_bx c_bxn
    generalize hzn : wc.heap.size = z at *
    generalize wc.alloc _ = W at *
    clear hzn
    have hP := hPn
    have hK := hKn
    have bx := bxn
    have bt := btn
    clear hPn hKn bxn btn
    replace hO := hOh.out
    clear hOh
    refine tstepL hO hK (reg_write_p B p S q0 me 1 _ hP hq0 ⟨hm0, by omega⟩) (fun _ h => ⟨rfl, h⟩) ?_
    clear hO hK hP
    intro u S2 w2 hlf _ hP hk hK hO
    replace hN := Nat.lt_of_le_of_lt hlf hN
    replace bn := bn.keep hk
    replace bt := bt.keep hk
    have c_bt := bt.cells
    have hOh := Lib.hid hO
    clear hk hlf bx hO
    go_wp2_with fail
    replace hO := hOh.out
    clear hOh c_bt
    refine tstepL hO hK (reg_write_p B p S2 rt me 0 _ hP hrt ⟨hm0, hm3⟩) (fun _ h => ⟨rfl, h⟩) ?_
    clear hO hK hP
    intro u S3 w3 hlf _ hP hk hK hO
    replace hN := Nat.lt_of_le_of_lt hlf hN
    replace bn := bn.keep hk
    replace bt := bt.keep hk
    have hOh := Lib.hid hO
    clear hk hlf hO
    go_wp2_with fail
    go_loopw [] (fun wr => ∃ (n : Nat) (S4 : TS), Plays B wr p S4 ∧ KeepP B p w wr ∧ HeldP wr p z (.cells #[.int .i64 q1.kind, .int .i64 q1.base, .int .i64 q1.loc, .int .i64 q1.n, .int .i64 q1.wr, .int .i64 q1.rd, .int .i64 q1.top] 41) ∧ HeldP wr p y (.cells #[.int .i64 rt.kind, .int .i64 rt.base, .int .i64 rt.loc, .int .i64 rt.n, .int .i64 rt.wr, .int .i64 rt.rd, .int .i64 rt.top] 41) ∧ Hid (Owes R encU B p w ((arbSpin q1 rt 0 me n).run S4)) ∧ S4.left < n) (fun wr => leftW 1 3 wr p)
    case atStart => exact ⟨N, S3, hP, hK, bn, bt, hOh, hN⟩
    case round =>
      clear hP hK bn bt hOh hN
      obtain ⟨n, S4, hP, hK, bn, bt, hO, hN⟩ := hrel
      replace hO := hO.out
      have hlw := Lib.hid hP.left
      cases n with
      | zero => omega
      | succ n =>
        rw [arbSpin_succ] at hO
        have c_bn := bn.cells
        have hOh := Lib.hid hO
        clear hO
        go_wp2_with fail
        replace hO := hOh.out
        clear hOh c_bn
        refine tstepL hO hK (reg_read_p B p S4 q1 me _ hP hq1 ⟨hm0, by omega⟩) (fun _ h => ⟨rfl, h⟩) ?_
        clear hO hK hP
        intro v S5 w4 _ hlf hP hk hK hO
        replace hlf := hlf (asks_regR _ _ ht1)
        replace bn := bn.keep hk
        replace bt := bt.keep hk
        clear hk
        by_cases hv : v = 0
        · rw [if_pos hv] at hO
          subst hv
          have hf : R (.returned (encU ())) w4 := hO.done hP hK
          clear hO hP hK bn bt
          go_wp2_with fail
          first | exact hf | (refine bodyPost_ret (results_none rfl _ _ _) rfl ?_; exact hf)
        · rw [if_neg hv] at hO
          have hv2 : (v == 0) = false := by rw [beq_eq_false_iff_ne]; exact hv
          have c_bt := bt.cells
          have hOh := Lib.hid hO
          clear hv hO
          go_wp2_with fail
          replace hO := hOh.out
          clear hOh c_bt
          refine tstepL hO hK (reg_read_p B p S5 rt me _ hP hrt ⟨hm0, hm3⟩) (fun _ h => ⟨rfl, h⟩) ?_
          clear hO hK hP
          intro y0 S6 w5 hlf2 _ hP hk hK hO
          replace bn := bn.keep hk
          replace bt := bt.keep hk
          clear hk
          by_cases hy : y0 = 0
          · rw [if_pos hy] at hO
            have hy2 : (y0 != 0) = false := by simpa using hy
            have c_bn := bn.cells
            have hOh := Lib.hid hO
            clear hy hO
            go_wp2_with fail
            refine (cells_pm q1 me _ hq1 ht1 ⟨hm0, by omega⟩).mono ?_
            rintro e w6 ⟨cc, rfl, hcc, hx⟩
            replace bn := bn.ext hx hP.lt
            replace bt := bt.ext hx hP.lt
            replace hK := hK.trans (Keep.of_ext hx hP.lt hP.le)
            replace hP := hP.ext hx
            clear hx c_bn
            have hlw2 := Lib.hid hP.left
            go_wp2_with fail
            refine ⟨⟨n, S6, hP, hK, bn, bt, hOh, by omega⟩, ?_⟩
            rw [hlw.out, hlw2.out]
            omega
          · rw [if_neg hy] at hO
            have hy2 : (y0 != 0) = true := by simpa using hy
            have hf : R (.returned (encU ())) w5 := hO.done hP hK
            clear hO hP hK bn bt hy
            go_wp2_with fail
            first | exact hf | (refine bodyPost_ret (results_none rfl _ _ _) rfl ?_; exact hf)
set_option maxRecDepth 100000 in
set_option maxHeartbeats 1000000 in
theorem arb_enter_p1 (B p N : Nat) (S : TS) (q0 q1 rt : Reg) (side me : Int) (b c : Nat) (w : World) (h : Plays B w p S) (hl : RegsAt [2, 3, 4] w p b [q0, q1, rt]) (hq0 : q0.ok) (hq1 : q1.ok) (hrt : rt.ok)
    (hm0 : 0 ≤ me) (hm1 : me < q0.n) (hm2 : me < q1.n) (hm3 : me < rt.n) (ht1 : q0.told me) (hN : S.left < N) (hs : bitM side = 1) :
    Calls Try.prog 20 #[.pointer (some ⟨p, 0, none⟩), .slice (some ⟨b, 0, none⟩) 3 c, .int .i64 side, .int .i64 me] w (Post encU B p w ((arbEnter N q1 q0 rt 1 me).run S)) := by
  generalize hR : Post encU B p w ((arbEnter N q1 q0 rt 1 me).run S) = R
  have hO : Owes R encU B p w ((arbEnter N q1 q0 rt 1 me).run S) := hR ▸ owes _ _ _ _ _
  clear hR
  have hP := h
  clear h
  unfold arbEnter at hO
  have hb := abit_p side
  rw [hs] at hb
  clear hs
  have hS : ∀ w', RegsAt [2, 3, 4] w' p b [q0, q1, rt] → ((w'.cell? ⟨b, 0, none⟩ = some (.int .i64 q0.kind) ∧ w'.cell? ⟨b, 1, none⟩ = some (.int .i64 q0.base) ∧ w'.cell? ⟨b, 2, none⟩ = some (.int .i64 q0.loc) ∧ w'.cell? ⟨b, 3, none⟩ = some (.int .i64 q0.n) ∧ w'.cell? ⟨b, 4, none⟩ = some (.int .i64 q0.wr) ∧ w'.cell? ⟨b, 5, none⟩ = some (.int .i64 q0.rd) ∧ w'.cell? ⟨b, 6, none⟩ = some (.int .i64 q0.top)) ∧ (w'.cell? ⟨b, 7, none⟩ = some (.int .i64 q1.kind) ∧ w'.cell? ⟨b, 8, none⟩ = some (.int .i64 q1.base) ∧ w'.cell? ⟨b, 9, none⟩ = some (.int .i64 q1.loc) ∧ w'.cell? ⟨b, 10, none⟩ = some (.int .i64 q1.n) ∧ w'.cell? ⟨b, 11, none⟩ = some (.int .i64 q1.wr) ∧ w'.cell? ⟨b, 12, none⟩ = some (.int .i64 q1.rd) ∧ w'.cell? ⟨b, 13, none⟩ = some (.int .i64 q1.top)) ∧ (w'.cell? ⟨b, 14, none⟩ = some (.int .i64 rt.kind) ∧ w'.cell? ⟨b, 15, none⟩ = some (.int .i64 rt.base) ∧ w'.cell? ⟨b, 16, none⟩ = some (.int .i64 rt.loc) ∧ w'.cell? ⟨b, 17, none⟩ = some (.int .i64 rt.n) ∧ w'.cell? ⟨b, 18, none⟩ = some (.int .i64 rt.wr) ∧ w'.cell? ⟨b, 19, none⟩ = some (.int .i64 rt.rd) ∧ w'.cell? ⟨b, 20, none⟩ = some (.int .i64 rt.top))) := fun w' y => by
    obtain ⟨⟨a0, a1, a2, a3, a4, a5, a6⟩, ⟨e0, e1, e2, e3, e4, e5, e6⟩, ⟨f0, f1, f2, f3, f4, f5, f6⟩⟩ := y.three
    exact ⟨⟨a0, a1, a2, a3, a4, a5, a6⟩, ⟨e0, e1, e2, e3, e4, e5, e6⟩, ⟨f0, f1, f2, f3, f4, f5, f6⟩⟩
  go_enter Try.func20, Try.ntmps20
  go_wp2_with fail
  have hOh := Lib.hid hO
  have hbh := Lib.hid hb
  clear hO hb
  go_upto_region 1 with fail
  go_cut [8, 9] (fun s8 s9 wx => ∃ (x y : Nat), s8 = .pointer (some ⟨x, 0, none⟩) ∧ s9 = .pointer (some ⟨y, 0, none⟩) ∧ HeldP wx p x (.cells #[.int .i64 q0.kind, .int .i64 q0.base, .int .i64 q0.loc, .int .i64 q0.n, .int .i64 q0.wr, .int .i64 q0.rd, .int .i64 q0.top, .int .i64 q1.kind, .int .i64 q1.base, .int .i64 q1.loc, .int .i64 q1.n, .int .i64 q1.wr, .int .i64 q1.rd, .int .i64 q1.top] 71) ∧ HeldP wx p y (.cells #[.int .i64 rt.kind, .int .i64 rt.base, .int .i64 rt.loc, .int .i64 rt.n, .int .i64 rt.wr, .int .i64 rt.rd, .int .i64 rt.top] 41) ∧ Plays B wx p S ∧ KeepP B p w wx ∧ RegsAt [2, 3, 4] wx p b [q0, q1, rt])
  case first =>
    have hl2 := hl.extL (Ext.refl w).drew hP.lt
    obtain ⟨⟨a0, a1, a2, a3, a4, a5, a6⟩, ⟨e0, e1, e2, e3, e4, e5, e6⟩, ⟨f0, f1, f2, f3, f4, f5, f6⟩⟩ := hl.three
    go_region_held2 (fun w' => ((w'.cell? ⟨b, 0, none⟩ = some (.int .i64 q0.kind) ∧ w'.cell? ⟨b, 1, none⟩ = some (.int .i64 q0.base) ∧ w'.cell? ⟨b, 2, none⟩ = some (.int .i64 q0.loc) ∧ w'.cell? ⟨b, 3, none⟩ = some (.int .i64 q0.n) ∧ w'.cell? ⟨b, 4, none⟩ = some (.int .i64 q0.wr) ∧ w'.cell? ⟨b, 5, none⟩ = some (.int .i64 q0.rd) ∧ w'.cell? ⟨b, 6, none⟩ = some (.int .i64 q0.top)) ∧ (w'.cell? ⟨b, 7, none⟩ = some (.int .i64 q1.kind) ∧ w'.cell? ⟨b, 8, none⟩ = some (.int .i64 q1.base) ∧ w'.cell? ⟨b, 9, none⟩ = some (.int .i64 q1.loc) ∧ w'.cell? ⟨b, 10, none⟩ = some (.int .i64 q1.n) ∧ w'.cell? ⟨b, 11, none⟩ = some (.int .i64 q1.wr) ∧ w'.cell? ⟨b, 12, none⟩ = some (.int .i64 q1.rd) ∧ w'.cell? ⟨b, 13, none⟩ = some (.int .i64 q1.top)) ∧ (w'.cell? ⟨b, 14, none⟩ = some (.int .i64 rt.kind) ∧ w'.cell? ⟨b, 15, none⟩ = some (.int .i64 rt.base) ∧ w'.cell? ⟨b, 16, none⟩ = some (.int .i64 rt.loc) ∧ w'.cell? ⟨b, 17, none⟩ = some (.int .i64 rt.n) ∧ w'.cell? ⟨b, 18, none⟩ = some (.int .i64 rt.wr) ∧ w'.cell? ⟨b, 19, none⟩ = some (.int .i64 rt.rd) ∧ w'.cell? ⟨b, 20, none⟩ = some (.int .i64 rt.top)))) (first | with_reducible exact hS _ hl2 | go_keep) (fail)
    · rename_i hh
      clear hh
      obtain ⟨b1, b2, hP2, hK2, hl3⟩ := two_held hP hl (.cells #[.int .i64 q0.kind, .int .i64 q0.base, .int .i64 q0.loc, .int .i64 q0.n, .int .i64 q0.wr, .int .i64 q0.rd, .int .i64 q0.top, .int .i64 q1.kind, .int .i64 q1.base, .int .i64 q1.loc, .int .i64 q1.n, .int .i64 q1.wr, .int .i64 q1.rd, .int .i64 q1.top] 71) (.cells #[.int .i64 rt.kind, .int .i64 rt.base, .int .i64 rt.loc, .int .i64 rt.n, .int .i64 rt.wr, .int .i64 rt.rd, .int .i64 rt.top] 41)
      clear hS hl2 hl hP a0 a1 a2 a3 a4 a5 a6 e0 e1 e2 e3 e4 e5 e6 f0 f1 f2 f3 f4 f5 f6
      go_wp2_with fail
      go_meet
      exact ⟨_, _, rfl, rfl, b1, b2, hP2, hK2, hl3⟩
    · rename_i hh
      clear hh
      obtain ⟨b2, b1, hP2, hK2, hl3⟩ := two_held hP hl (.cells #[.int .i64 rt.kind, .int .i64 rt.base, .int .i64 rt.loc, .int .i64 rt.n, .int .i64 rt.wr, .int .i64 rt.rd, .int .i64 rt.top] 41) (.cells #[.int .i64 q0.kind, .int .i64 q0.base, .int .i64 q0.loc, .int .i64 q0.n, .int .i64 q0.wr, .int .i64 q0.rd, .int .i64 q0.top, .int .i64 q1.kind, .int .i64 q1.base, .int .i64 q1.loc, .int .i64 q1.n, .int .i64 q1.wr, .int .i64 q1.rd, .int .i64 q1.top] 71)
      clear hS hl2 hl hP a0 a1 a2 a3 a4 a5 a6 e0 e1 e2 e3 e4 e5 e6 f0 f1 f2 f3 f4 f5 f6
      go_wp2_with fail
      go_meet
      exact ⟨_, _, rfl, rfl, b1, b2, hP2, hK2, hl3⟩
  case rest =>
    clear hS hl hP
    obtain ⟨x, y, rfl, rfl, bx, bt, hP, hK, -⟩ := hcut
    go_wp2_with fail
    refine (hbh.out _).mono ?_
    rintro e w' ⟨rfl, rfl⟩
    have c_bx := bx.cells
    clear hbh
    have hPo := hP
    have bn := hP.held (.cells #[.int .i64 q0.kind, .int .i64 q0.base, .int .i64 q0.loc, .int .i64 q0.n, .int .i64 q0.wr, .int .i64 q0.rd, .int .i64 q0.top] 41)
    have hKn := hK.trans (Keep.alloc (.cells #[.int .i64 q0.kind, .int .i64 q0.base, .int .i64 q0.loc, .int .i64 q0.n, .int .i64 q0.wr, .int .i64 q0.rd, .int .i64 q0.top] 41) hP.lt hP.le)
    have hPn := hP.alloc (.cells #[.int .i64 q0.kind, .int .i64 q0.base, .int .i64 q0.loc, .int .i64 q0.n, .int .i64 q0.wr, .int .i64 q0.rd, .int .i64 q0.top] 41)
    have bxn := bx.alloc (.cells #[.int .i64 q0.kind, .int .i64 q0.base, .int .i64 q0.loc, .int .i64 q0.n, .int .i64 q0.wr, .int .i64 q0.rd, .int .i64 q0.top] 41) hP.lt
    have btn := bt.alloc (.cells #[.int .i64 q0.kind, .int .i64 q0.base, .int .i64 q0.loc, .int .i64 q0.n, .int .i64 q0.wr, .int .i64 q0.rd, .int .i64 q0.top] 41) hP.lt
    clear hP hK bx bt hPo
    have c_bxn := bxn.cells
    go_wp2_with fail
    clear c_bx c_bxn
    generalize hzn : wc.heap.size = z at *
    generalize wc.alloc _ = W at *
    clear hzn
    have hP := hPn
    have hK := hKn
    have bx := bxn
    have bt := btn
    clear hPn hKn bxn btn
    replace hO := hOh.out
    clear hOh
    refine tstepL hO hK (reg_write_p B p S q1 me 1 _ hP hq1 ⟨hm0, by omega⟩) (fun _ h => ⟨rfl, h⟩) ?_
    clear hO hK hP
    intro u S2 w2 hlf _ hP hk hK hO
    replace hN := Nat.lt_of_le_of_lt hlf hN
    replace bn := bn.keep hk
    replace bt := bt.keep hk
    have c_bt := bt.cells
    have hOh := Lib.hid hO
    clear hk hlf bx hO
    go_wp2_with fail
    replace hO := hOh.out
    clear hOh c_bt
    refine tstepL hO hK (reg_write_p B p S2 rt me 1 _ hP hrt ⟨hm0, hm3⟩) (fun _ h => ⟨rfl, h⟩) ?_
    clear hO hK hP
    intro u S3 w3 hlf _ hP hk hK hO
    replace hN := Nat.lt_of_le_of_lt hlf hN
    replace bn := bn.keep hk
    replace bt := bt.keep hk
    have hOh := Lib.hid hO
    clear hk hlf hO
    go_wp2_with fail
    go_loopw [] (fun wr => ∃ (n : Nat) (S4 : TS), Plays B wr p S4 ∧ KeepP B p w wr ∧ HeldP wr p z (.cells #[.int .i64 q0.kind, .int .i64 q0.base, .int .i64 q0.loc, .int .i64 q0.n, .int .i64 q0.wr, .int .i64 q0.rd, .int .i64 q0.top] 41) ∧ HeldP wr p y (.cells #[.int .i64 rt.kind, .int .i64 rt.base, .int .i64 rt.loc, .int .i64 rt.n, .int .i64 rt.wr, .int .i64 rt.rd, .int .i64 rt.top] 41) ∧ Hid (Owes R encU B p w ((arbSpin q0 rt 1 me n).run S4)) ∧ S4.left < n) (fun wr => leftW 1 3 wr p)
    case atStart => exact ⟨N, S3, hP, hK, bn, bt, hOh, hN⟩
    case round =>
      clear hP hK bn bt hOh hN
      obtain ⟨n, S4, hP, hK, bn, bt, hO, hN⟩ := hrel
      replace hO := hO.out
      have hlw := Lib.hid hP.left
      cases n with
      | zero => omega
      | succ n =>
        rw [arbSpin_succ] at hO
        have c_bn := bn.cells
        have hOh := Lib.hid hO
        clear hO
        go_wp2_with fail
        replace hO := hOh.out
        clear hOh c_bn
        refine tstepL hO hK (reg_read_p B p S4 q0 me _ hP hq0 ⟨hm0, by omega⟩) (fun _ h => ⟨rfl, h⟩) ?_
        clear hO hK hP
        intro v S5 w4 _ hlf hP hk hK hO
        replace hlf := hlf (asks_regR _ _ ht1)
        replace bn := bn.keep hk
        replace bt := bt.keep hk
        clear hk
        by_cases hv : v = 0
        · rw [if_pos hv] at hO
          subst hv
          have hf : R (.returned (encU ())) w4 := hO.done hP hK
          clear hO hP hK bn bt
          go_wp2_with fail
          first | exact hf | (refine bodyPost_ret (results_none rfl _ _ _) rfl ?_; exact hf)
        · rw [if_neg hv] at hO
          have hv2 : (v == 0) = false := by rw [beq_eq_false_iff_ne]; exact hv
          have c_bt := bt.cells
          have hOh := Lib.hid hO
          clear hv hO
          go_wp2_with fail
          replace hO := hOh.out
          clear hOh c_bt
          refine tstepL hO hK (reg_read_p B p S5 rt me _ hP hrt ⟨hm0, hm3⟩) (fun _ h => ⟨rfl, h⟩) ?_
          clear hO hK hP
          intro y0 S6 w5 hlf2 _ hP hk hK hO
          replace bn := bn.keep hk
          replace bt := bt.keep hk
          clear hk
          by_cases hy : y0 = 1
          · rw [if_pos hy] at hO
            have hy2 : (y0 != 1) = false := by simpa using hy
            have c_bn := bn.cells
            have hOh := Lib.hid hO
            clear hy hO
            go_wp2_with fail
            refine (cells_pm q0 me _ hq0 ht1 ⟨hm0, by omega⟩).mono ?_
            rintro e w6 ⟨cc, rfl, hcc, hx⟩
            replace bn := bn.ext hx hP.lt
            replace bt := bt.ext hx hP.lt
            replace hK := hK.trans (Keep.of_ext hx hP.lt hP.le)
            replace hP := hP.ext hx
            clear hx c_bn
            have hlw2 := Lib.hid hP.left
            go_wp2_with fail
            refine ⟨⟨n, S6, hP, hK, bn, bt, hOh, by omega⟩, ?_⟩
            rw [hlw.out, hlw2.out]
            omega
          · rw [if_neg hy] at hO
            have hy2 : (y0 != 1) = true := by simpa using hy
            have hf : R (.returned (encU ())) w5 := hO.done hP hK
            clear hO hP hK bn bt hy
            go_wp2_with fail
            first | exact hf | (refine bodyPost_ret (results_none rfl _ _ _) rfl ?_; exact hf)
set_option maxRecDepth 100000 in
theorem arb_leave_p0 (B p : Nat) (S : TS) (q0 q1 rt : Reg) (side me : Int) (b c : Nat) (w : World) (h : Plays B w p S) (hl : RegsAt [2, 3, 4] w p b [q0, q1, rt]) (hq : q0.ok)
    (hm0 : 0 ≤ me) (hm1 : me < q0.n) (hs : bitM side = 0) :
    Calls Try.prog 51 #[.pointer (some ⟨p, 0, none⟩), .slice (some ⟨b, 0, none⟩) 3 c, .int .i64 side, .int .i64 me] w (Post encU B p w ((regW q0 me 0).run S)) := by
  generalize hR : Post encU B p w ((regW q0 me 0).run S) = R
  have hO : Owes R encU B p w ((regW q0 me 0).run S) := hR ▸ owes _ _ _ _ _
  clear hR
  have hK := Keep.refl [2, 3, 4] B p w
  have hP := h
  clear h
  have hb := abit_p side
  rw [hs] at hb
  clear hs
  have hS : ∀ w', RegsAt [2, 3, 4] w' p b [q0, q1, rt] → ((w'.cell? ⟨b, 0, none⟩ = some (.int .i64 q0.kind) ∧ w'.cell? ⟨b, 1, none⟩ = some (.int .i64 q0.base) ∧ w'.cell? ⟨b, 2, none⟩ = some (.int .i64 q0.loc) ∧ w'.cell? ⟨b, 3, none⟩ = some (.int .i64 q0.n) ∧ w'.cell? ⟨b, 4, none⟩ = some (.int .i64 q0.wr) ∧ w'.cell? ⟨b, 5, none⟩ = some (.int .i64 q0.rd) ∧ w'.cell? ⟨b, 6, none⟩ = some (.int .i64 q0.top)) ∧ (w'.cell? ⟨b, 7, none⟩ = some (.int .i64 q1.kind) ∧ w'.cell? ⟨b, 8, none⟩ = some (.int .i64 q1.base) ∧ w'.cell? ⟨b, 9, none⟩ = some (.int .i64 q1.loc) ∧ w'.cell? ⟨b, 10, none⟩ = some (.int .i64 q1.n) ∧ w'.cell? ⟨b, 11, none⟩ = some (.int .i64 q1.wr) ∧ w'.cell? ⟨b, 12, none⟩ = some (.int .i64 q1.rd) ∧ w'.cell? ⟨b, 13, none⟩ = some (.int .i64 q1.top)) ∧ (w'.cell? ⟨b, 14, none⟩ = some (.int .i64 rt.kind) ∧ w'.cell? ⟨b, 15, none⟩ = some (.int .i64 rt.base) ∧ w'.cell? ⟨b, 16, none⟩ = some (.int .i64 rt.loc) ∧ w'.cell? ⟨b, 17, none⟩ = some (.int .i64 rt.n) ∧ w'.cell? ⟨b, 18, none⟩ = some (.int .i64 rt.wr) ∧ w'.cell? ⟨b, 19, none⟩ = some (.int .i64 rt.rd) ∧ w'.cell? ⟨b, 20, none⟩ = some (.int .i64 rt.top))) := fun w' y => by
    obtain ⟨⟨a0, a1, a2, a3, a4, a5, a6⟩, ⟨e0, e1, e2, e3, e4, e5, e6⟩, ⟨f0, f1, f2, f3, f4, f5, f6⟩⟩ := y.three
    exact ⟨⟨a0, a1, a2, a3, a4, a5, a6⟩, ⟨e0, e1, e2, e3, e4, e5, e6⟩, ⟨f0, f1, f2, f3, f4, f5, f6⟩⟩
  go_enter Try.func51, Try.ntmps51
  go_wp2_with fail
  have hOh := Lib.hid hO
  have hbh := Lib.hid hb
  clear hO hb
  have hl2 := hl.extL (Ext.refl w).drew hP.lt
  obtain ⟨⟨a0, a1, a2, a3, a4, a5, a6⟩, ⟨e0, e1, e2, e3, e4, e5, e6⟩, ⟨f0, f1, f2, f3, f4, f5, f6⟩⟩ := hl.three
  go_region_held2 (fun w' => ((w'.cell? ⟨b, 0, none⟩ = some (.int .i64 q0.kind) ∧ w'.cell? ⟨b, 1, none⟩ = some (.int .i64 q0.base) ∧ w'.cell? ⟨b, 2, none⟩ = some (.int .i64 q0.loc) ∧ w'.cell? ⟨b, 3, none⟩ = some (.int .i64 q0.n) ∧ w'.cell? ⟨b, 4, none⟩ = some (.int .i64 q0.wr) ∧ w'.cell? ⟨b, 5, none⟩ = some (.int .i64 q0.rd) ∧ w'.cell? ⟨b, 6, none⟩ = some (.int .i64 q0.top)) ∧ (w'.cell? ⟨b, 7, none⟩ = some (.int .i64 q1.kind) ∧ w'.cell? ⟨b, 8, none⟩ = some (.int .i64 q1.base) ∧ w'.cell? ⟨b, 9, none⟩ = some (.int .i64 q1.loc) ∧ w'.cell? ⟨b, 10, none⟩ = some (.int .i64 q1.n) ∧ w'.cell? ⟨b, 11, none⟩ = some (.int .i64 q1.wr) ∧ w'.cell? ⟨b, 12, none⟩ = some (.int .i64 q1.rd) ∧ w'.cell? ⟨b, 13, none⟩ = some (.int .i64 q1.top)) ∧ (w'.cell? ⟨b, 14, none⟩ = some (.int .i64 rt.kind) ∧ w'.cell? ⟨b, 15, none⟩ = some (.int .i64 rt.base) ∧ w'.cell? ⟨b, 16, none⟩ = some (.int .i64 rt.loc) ∧ w'.cell? ⟨b, 17, none⟩ = some (.int .i64 rt.n) ∧ w'.cell? ⟨b, 18, none⟩ = some (.int .i64 rt.wr) ∧ w'.cell? ⟨b, 19, none⟩ = some (.int .i64 rt.rd) ∧ w'.cell? ⟨b, 20, none⟩ = some (.int .i64 rt.top)))) (first | with_reducible exact hS _ hl2 | go_keep) (fail)
  rename_i hh
  clear hh
  have bx := (hP.held (.cells #[.int .i64 q0.kind, .int .i64 q0.base, .int .i64 q0.loc, .int .i64 q0.n, .int .i64 q0.wr, .int .i64 q0.rd, .int .i64 q0.top, .int .i64 q1.kind, .int .i64 q1.base, .int .i64 q1.loc, .int .i64 q1.n, .int .i64 q1.wr, .int .i64 q1.rd, .int .i64 q1.top] 71)).drew
  replace hK := (hK.trans (Keep.alloc (.cells #[.int .i64 q0.kind, .int .i64 q0.base, .int .i64 q0.loc, .int .i64 q0.n, .int .i64 q0.wr, .int .i64 q0.rd, .int .i64 q0.top, .int .i64 q1.kind, .int .i64 q1.base, .int .i64 q1.loc, .int .i64 q1.n, .int .i64 q1.wr, .int .i64 q1.rd, .int .i64 q1.top] 71) hP.lt hP.le)).drew
  replace hP := (hP.alloc (.cells #[.int .i64 q0.kind, .int .i64 q0.base, .int .i64 q0.loc, .int .i64 q0.n, .int .i64 q0.wr, .int .i64 q0.rd, .int .i64 q0.top, .int .i64 q1.kind, .int .i64 q1.base, .int .i64 q1.loc, .int .i64 q1.n, .int .i64 q1.wr, .int .i64 q1.rd, .int .i64 q1.top] 71)).drew
  clear hS hl2 hl a0 a1 a2 a3 a4 a5 a6 e0 e1 e2 e3 e4 e5 e6 f0 f1 f2 f3 f4 f5 f6
  have c_bx := bx.cells
  go_wp2_with fail
  refine (hbh.out _).mono ?_
  rintro e w' ⟨rfl, rfl⟩
  go_wp2_with fail
  replace hO := hOh.out
  clear hOh c_bx bx
  refine tlast hO hK (reg_write_p B p S q0 me 0 _ hP hq ⟨hm0, hm1⟩) (fun _ h => ⟨rfl, h⟩) ?_
  clear hO hK hP
  intro u S2 w3 hr hP hk hK hO
  have hf := hO.done hP hK
  clear hO hP hK hr hk
  go_wp2_with fail
  first | exact hf | (refine bodyPost_ret (results_none rfl _ _ _) rfl ?_; exact hf)
set_option maxRecDepth 100000 in
theorem arb_leave_p1 (B p : Nat) (S : TS) (q0 q1 rt : Reg) (side me : Int) (b c : Nat) (w : World) (h : Plays B w p S) (hl : RegsAt [2, 3, 4] w p b [q0, q1, rt]) (hq : q1.ok)
    (hm0 : 0 ≤ me) (hm1 : me < q1.n) (hs : bitM side = 1) :
    Calls Try.prog 51 #[.pointer (some ⟨p, 0, none⟩), .slice (some ⟨b, 0, none⟩) 3 c, .int .i64 side, .int .i64 me] w (Post encU B p w ((regW q1 me 0).run S)) := by
  generalize hR : Post encU B p w ((regW q1 me 0).run S) = R
  have hO : Owes R encU B p w ((regW q1 me 0).run S) := hR ▸ owes _ _ _ _ _
  clear hR
  have hK := Keep.refl [2, 3, 4] B p w
  have hP := h
  clear h
  have hb := abit_p side
  rw [hs] at hb
  clear hs
  have hS : ∀ w', RegsAt [2, 3, 4] w' p b [q0, q1, rt] → ((w'.cell? ⟨b, 0, none⟩ = some (.int .i64 q0.kind) ∧ w'.cell? ⟨b, 1, none⟩ = some (.int .i64 q0.base) ∧ w'.cell? ⟨b, 2, none⟩ = some (.int .i64 q0.loc) ∧ w'.cell? ⟨b, 3, none⟩ = some (.int .i64 q0.n) ∧ w'.cell? ⟨b, 4, none⟩ = some (.int .i64 q0.wr) ∧ w'.cell? ⟨b, 5, none⟩ = some (.int .i64 q0.rd) ∧ w'.cell? ⟨b, 6, none⟩ = some (.int .i64 q0.top)) ∧ (w'.cell? ⟨b, 7, none⟩ = some (.int .i64 q1.kind) ∧ w'.cell? ⟨b, 8, none⟩ = some (.int .i64 q1.base) ∧ w'.cell? ⟨b, 9, none⟩ = some (.int .i64 q1.loc) ∧ w'.cell? ⟨b, 10, none⟩ = some (.int .i64 q1.n) ∧ w'.cell? ⟨b, 11, none⟩ = some (.int .i64 q1.wr) ∧ w'.cell? ⟨b, 12, none⟩ = some (.int .i64 q1.rd) ∧ w'.cell? ⟨b, 13, none⟩ = some (.int .i64 q1.top)) ∧ (w'.cell? ⟨b, 14, none⟩ = some (.int .i64 rt.kind) ∧ w'.cell? ⟨b, 15, none⟩ = some (.int .i64 rt.base) ∧ w'.cell? ⟨b, 16, none⟩ = some (.int .i64 rt.loc) ∧ w'.cell? ⟨b, 17, none⟩ = some (.int .i64 rt.n) ∧ w'.cell? ⟨b, 18, none⟩ = some (.int .i64 rt.wr) ∧ w'.cell? ⟨b, 19, none⟩ = some (.int .i64 rt.rd) ∧ w'.cell? ⟨b, 20, none⟩ = some (.int .i64 rt.top))) := fun w' y => by
    obtain ⟨⟨a0, a1, a2, a3, a4, a5, a6⟩, ⟨e0, e1, e2, e3, e4, e5, e6⟩, ⟨f0, f1, f2, f3, f4, f5, f6⟩⟩ := y.three
    exact ⟨⟨a0, a1, a2, a3, a4, a5, a6⟩, ⟨e0, e1, e2, e3, e4, e5, e6⟩, ⟨f0, f1, f2, f3, f4, f5, f6⟩⟩
  go_enter Try.func51, Try.ntmps51
  go_wp2_with fail
  have hOh := Lib.hid hO
  have hbh := Lib.hid hb
  clear hO hb
  have hl2 := hl.extL (Ext.refl w).drew hP.lt
  obtain ⟨⟨a0, a1, a2, a3, a4, a5, a6⟩, ⟨e0, e1, e2, e3, e4, e5, e6⟩, ⟨f0, f1, f2, f3, f4, f5, f6⟩⟩ := hl.three
  go_region_held2 (fun w' => ((w'.cell? ⟨b, 0, none⟩ = some (.int .i64 q0.kind) ∧ w'.cell? ⟨b, 1, none⟩ = some (.int .i64 q0.base) ∧ w'.cell? ⟨b, 2, none⟩ = some (.int .i64 q0.loc) ∧ w'.cell? ⟨b, 3, none⟩ = some (.int .i64 q0.n) ∧ w'.cell? ⟨b, 4, none⟩ = some (.int .i64 q0.wr) ∧ w'.cell? ⟨b, 5, none⟩ = some (.int .i64 q0.rd) ∧ w'.cell? ⟨b, 6, none⟩ = some (.int .i64 q0.top)) ∧ (w'.cell? ⟨b, 7, none⟩ = some (.int .i64 q1.kind) ∧ w'.cell? ⟨b, 8, none⟩ = some (.int .i64 q1.base) ∧ w'.cell? ⟨b, 9, none⟩ = some (.int .i64 q1.loc) ∧ w'.cell? ⟨b, 10, none⟩ = some (.int .i64 q1.n) ∧ w'.cell? ⟨b, 11, none⟩ = some (.int .i64 q1.wr) ∧ w'.cell? ⟨b, 12, none⟩ = some (.int .i64 q1.rd) ∧ w'.cell? ⟨b, 13, none⟩ = some (.int .i64 q1.top)) ∧ (w'.cell? ⟨b, 14, none⟩ = some (.int .i64 rt.kind) ∧ w'.cell? ⟨b, 15, none⟩ = some (.int .i64 rt.base) ∧ w'.cell? ⟨b, 16, none⟩ = some (.int .i64 rt.loc) ∧ w'.cell? ⟨b, 17, none⟩ = some (.int .i64 rt.n) ∧ w'.cell? ⟨b, 18, none⟩ = some (.int .i64 rt.wr) ∧ w'.cell? ⟨b, 19, none⟩ = some (.int .i64 rt.rd) ∧ w'.cell? ⟨b, 20, none⟩ = some (.int .i64 rt.top)))) (first | with_reducible exact hS _ hl2 | go_keep) (fail)
  rename_i hh
  clear hh
  have bx := (hP.held (.cells #[.int .i64 q0.kind, .int .i64 q0.base, .int .i64 q0.loc, .int .i64 q0.n, .int .i64 q0.wr, .int .i64 q0.rd, .int .i64 q0.top, .int .i64 q1.kind, .int .i64 q1.base, .int .i64 q1.loc, .int .i64 q1.n, .int .i64 q1.wr, .int .i64 q1.rd, .int .i64 q1.top] 71)).drew
  replace hK := (hK.trans (Keep.alloc (.cells #[.int .i64 q0.kind, .int .i64 q0.base, .int .i64 q0.loc, .int .i64 q0.n, .int .i64 q0.wr, .int .i64 q0.rd, .int .i64 q0.top, .int .i64 q1.kind, .int .i64 q1.base, .int .i64 q1.loc, .int .i64 q1.n, .int .i64 q1.wr, .int .i64 q1.rd, .int .i64 q1.top] 71) hP.lt hP.le)).drew
  replace hP := (hP.alloc (.cells #[.int .i64 q0.kind, .int .i64 q0.base, .int .i64 q0.loc, .int .i64 q0.n, .int .i64 q0.wr, .int .i64 q0.rd, .int .i64 q0.top, .int .i64 q1.kind, .int .i64 q1.base, .int .i64 q1.loc, .int .i64 q1.n, .int .i64 q1.wr, .int .i64 q1.rd, .int .i64 q1.top] 71)).drew
  clear hS hl2 hl a0 a1 a2 a3 a4 a5 a6 e0 e1 e2 e3 e4 e5 e6 f0 f1 f2 f3 f4 f5 f6
  have c_bx := bx.cells
  go_wp2_with fail
  refine (hbh.out _).mono ?_
  rintro e w' ⟨rfl, rfl⟩
  go_wp2_with fail
  replace hO := hOh.out
  clear hOh c_bx bx
  refine tlast hO hK (reg_write_p B p S q1 me 0 _ hP hq ⟨hm0, hm1⟩) (fun _ h => ⟨rfl, h⟩) ?_
  clear hO hK hP
  intro u S2 w3 hr hP hk hK hO
  have hf := hO.done hP hK
  clear hO hP hK hr hk
  go_wp2_with fail
  first | exact hf | (refine bodyPost_ret (results_none rfl _ _ _) rfl ?_; exact hf)
theorem arb_enter_p (B p N : Nat) (S : TS) (q0 q1 rt : Reg) (side me : Int) (b c : Nat) (w : World) (h : Plays B w p S) (hl : RegsAt [2, 3, 4] w p b [q0, q1, rt]) (hq0 : q0.ok) (hq1 : q1.ok) (hrt : rt.ok)
    (hm0 : 0 ≤ me) (hm1 : me < q0.n) (hm2 : me < q1.n) (hm3 : me < rt.n) (ht0 : q0.told me) (ht1 : q1.told me) (hN : S.left < N) :
    Calls Try.prog 20 #[.pointer (some ⟨p, 0, none⟩), .slice (some ⟨b, 0, none⟩) 3 c, .int .i64 side, .int .i64 me] w (Post encU B p w ((arbM N q0 q1 rt side me).run S)) := by
  unfold arbM
  rcases bitM_or side with hs | hs
  · rw [if_neg (by omega)]
    exact arb_enter_p0 B p N S q0 q1 rt side me b c w h hl hq0 hq1 hrt hm0 hm1 hm2 hm3 ht1 hN hs
  · rw [if_pos hs]
    exact arb_enter_p1 B p N S q0 q1 rt side me b c w h hl hq0 hq1 hrt hm0 hm1 hm2 hm3 ht0 hN hs
theorem arb_leave_p (B p : Nat) (S : TS) (q0 q1 rt : Reg) (side me : Int) (b c : Nat) (w : World) (h : Plays B w p S) (hl : RegsAt [2, 3, 4] w p b [q0, q1, rt]) (hq0 : q0.ok) (hq1 : q1.ok)
    (hm0 : 0 ≤ me) (hm1 : me < q0.n) (hm2 : me < q1.n) :
    Calls Try.prog 51 #[.pointer (some ⟨p, 0, none⟩), .slice (some ⟨b, 0, none⟩) 3 c, .int .i64 side, .int .i64 me] w (Post encU B p w ((kesL q0 q1 side me).run S)) := by
  unfold kesL
  rcases bitM_or side with hs | hs
  · rw [hs, if_neg (by omega)]
    exact arb_leave_p0 B p S q0 q1 rt side me b c w h hl hq0 hm0 hm1 hs
  · rw [hs, if_pos rfl]
    exact arb_leave_p1 B p S q0 q1 rt side me b c w h hl hq1 hm0 hm2 hs
theorem awants_p (w : World) : Calls Try.prog 18 #[] w fun e w' => ∃ v, e = .returned v ∧ WantsAt w' v (List.replicate 3 ⟨-1, 1⟩) ∧ Ext w w' := by
  go_enter Try.func18, Try.ntmps18
  go_wp2_with fail
  go_loopw [1, 2] (fun v i wr => ∃ j : Nat, i = .int .i64 j ∧ j ≤ 3 ∧ wr.ownsRow w.heap.size 59 2 v j ((List.replicate j (⟨-1, 1⟩ : Want)).flatMap wantVals) ∧ Ext w wr) (fun _ i _ => 3 - (intOf i).toNat)
  case atStart => exact ⟨0, rfl, by omega, World.ownsRow_nil _ _ _ _, Ext.refl _⟩
  case round =>
    obtain ⟨j, rfl, hj, hown, hE⟩ := hrel
    by_cases hl : j < 3
    · go_wp2_with (at_builtin; refine append_rec info_want Try.underlying27 rfl (by decide) (by decide) rfl _ _ rfl _ j _ [.int .i64 (-1), .int .i64 1] hE hown rfl rfl rfl (by simp [Value.oneCell']) (by omega) ?_)
      intro v' w' ho hx _
      have hoh := Lib.hid ho
      clear hown ho
      go_wp2_with fail
      refine ⟨⟨j + 1, by go_num, by omega, ?_, hx⟩, ?_⟩
      · rw [List.replicate_succ', List.flatMap_append]; exact hoh.out
      · simp [intOf]; omega
    · obtain rfl : j = 3 := by omega
      have hownh := Lib.hid hown
      clear hown
      go_wp2_with fail
      go_ret
      exact ⟨_, rfl, Recs.of_row hownh.out, hE⟩
end Go.Proofs.Ytpcohbpeglledaa
