/-
  The walks of layer 1 (nums) and of the document's answer for it: each function by its contract.
-/
import Derived.Test.YtpcohbpeglledaaGreatJSplitterPlaysSaid0
import Derived.RowKit
/-
  The walks of layer 1 (nums) and of the document's answer for it: each function by its contract.
-/
namespace Go.Proofs.YtpcohbpeglledaaGreat
open Go.RowKit Kv

theorem within_any (n lo hi : Int) (w : World) :
    Calls Tryz.prog 85 #[.int .i64 n, .int .i64 lo, .int .i64 hi] w fun e w' => e = .returned (.int .i64 (within n lo hi)) ∧ w = w' := by
  unfold within
  go_enter Tryz.func85, Tryz.ntmps85
  go_wp2
  all_goals go_ret
  all_goals simp [*]
theorem clamp_p (n top : Int) (w : World) :
    Calls Tryz.prog 191 #[.int .i64 n, .int .i64 top] w fun e w' => e = .returned (.int .i64 (clamp n top)) ∧ w = w' := by
  go_enter Tryz.func191, Tryz.ntmps191
  go_wp2
  all_goals go_ret
  all_goals exact ⟨ret_int (by unfold clamp within; omega), rfl⟩
theorem clamp_r (n top : Int) (w : World) :
    Calls Tryz.prog 141 #[.int .i64 n, .int .i64 top] w fun e w' => e = .returned (.int .i64 (clamp n top)) ∧ w = w' := by
  go_enter Tryz.func141, Tryz.ntmps141
  go_wp2_with (go_at_call 85; refine (within_any _ _ _ _).mono ?_; rintro e w' ⟨rfl, rfl⟩)
  go_ret
  exact ⟨rfl, rfl⟩
theorem wrap_r (n top : Int) (w : World) :
    Calls Tryz.prog 15 #[.int .i64 n, .int .i64 top] w fun e w' => e = .returned (.int .i64 (wrapI n top)) ∧ w = w' := by
  have h1 := within_bd top 0 1099511627776 (by omega)
  have he := clamp_word top
  have h2 := tmod_neg_fix n (clamp top 1099511627776 + 1) (by omega)
  have h3 := tmod_pos_fix n (clamp top 1099511627776 + 1) (by omega)
  have h4 := Int.emod_lt_of_pos n (b := clamp top 1099511627776 + 1) (by omega)
  have h5 := Int.emod_nonneg n (b := clamp top 1099511627776 + 1) (by omega)
  rw [he] at h2 h3 h4 h5
  have H : Hid ((n.tmod (within top 0 1099511627776 + 1) < 0 → wrap64 (n.tmod (within top 0 1099511627776 + 1) + (within top 0 1099511627776 + 1)) = wrapI n top) ∧ (0 ≤ n.tmod (within top 0 1099511627776 + 1) → n.tmod (within top 0 1099511627776 + 1) = wrapI n top)) := by
    unfold wrapI
    rw [he]
    refine ⟨fun h => ?_, fun h => ?_⟩
    · rw [h2 h, w64 _ (by omega) (by omega)]
    · rw [h3 h]
  clear h2 h3 h4 h5 he
  go_enter Tryz.func15, Tryz.ntmps15
  go_wp2_with (go_at_call 85; refine (within_any _ _ _ _).mono ?_; rintro e w' ⟨rfl, rfl⟩)
  all_goals go_ret
  · exact ⟨ret_int (H.out.1 ‹_›), rfl⟩
  · exact ⟨ret_int (H.out.2 ‹_›), rfl⟩
theorem pack_p (hi lo top : Int) (w : World) :
    Calls Tryz.prog 192 #[.int .i64 hi, .int .i64 lo, .int .i64 top] w fun e w' => e = .returned (.int .i64 (packI hi lo top)) ∧ w = w' := by
  go_enter Tryz.func192, Tryz.ntmps192
  go_wp2_with fail
  refine (clamp_p _ _ _).mono ?_
  rintro e w' ⟨rfl, rfl⟩
  rw [clamp_room]
  have h1 := room_bd hi
  have h2 := room_bd top
  have h3 := within_bd lo 0 (room top) h2.1
  have h4 : 0 ≤ room hi * (room top + 1) := Int.mul_nonneg h1.1 (by omega)
  have h5 : room hi * (room top + 1) ≤ 1048576 * 1048577 := Int.mul_le_mul h1.2 (by omega) (by omega) (by omega)
  go_wp2_with fail
  refine (clamp_p _ _ _).mono ?_
  rintro e w' ⟨rfl, rfl⟩
  rw [clamp_room]
  go_wp2_with fail
  refine (clamp_p _ _ _).mono ?_
  rintro e w' ⟨rfl, rfl⟩
  rw [clamp_of_room]
  go_wp2
  go_ret
  exact ⟨rfl, rfl⟩
theorem pack_r (hi lo top : Int) (w : World) :
    Calls Tryz.prog 208 #[.int .i64 hi, .int .i64 lo, .int .i64 top] w fun e w' => e = .returned (.int .i64 (packI hi lo top)) ∧ w = w' := by
  have h1 := room_bd hi
  have h2 := room_bd top
  have h3 := within_bd lo 0 (room top) h2.1
  have h4 : 0 ≤ room hi * (room top + 1) := Int.mul_nonneg h1.1 (by omega)
  have h5 : room hi * (room top + 1) ≤ 1048576 * 1048577 := Int.mul_le_mul h1.2 (by omega) (by omega) (by omega)
  go_enter Tryz.func208, Tryz.ntmps208
  go_wp2_with fail
  refine (within_any _ _ _ _).mono ?_
  rintro e w' ⟨rfl, rfl⟩
  rw [show within top 0 1048576 = room top from rfl]
  go_wp2_with fail
  refine (within_any _ _ _ _).mono ?_
  rintro e w' ⟨rfl, rfl⟩
  rw [show within hi 0 1048576 = room hi from rfl]
  go_wp2_with fail
  refine (within_any _ _ _ _).mono ?_
  rintro e w' ⟨rfl, rfl⟩
  go_wp2
  go_ret
  exact ⟨rfl, rfl⟩
theorem unpack_p (x top : Int) (w : World) :
    Calls Tryz.prog 204 #[.int .i64 x, .int .i64 top] w fun e w' => e = .returned (.tuple #[.int .i64 (unHi x top), .int .i64 (unLo x top)]) ∧ Drew w w' := by
  have h2 := room_bd top
  have h3 := unX_bd x
  have hx : Hid (max 0 (min x 4398046511104) = unX x) := by unfold unX within; show max 0 (min x 4398046511104) = _; omega
  go_enter Tryz.func204, Tryz.ntmps204
  go_wp2_with fail
  refine (clamp_p _ _ _).mono ?_
  rintro e w' ⟨rfl, rfl⟩
  rw [clamp_room]
  go_wp2
  rw [hx.out]
  go_quiet (fail)
  go_wp2
  go_ret2
  exact ⟨rfl, Drew.mk' _ _⟩
theorem unpack_r (x top : Int) (w : World) :
    Calls Tryz.prog 212 #[.int .i64 x, .int .i64 top] w fun e w' => e = .returned (.tuple #[.int .i64 (unHi x top), .int .i64 (unLo x top)]) ∧ Drew w w' := by
  have h2 := room_bd top
  have h3 := unX_bd x
  have hm1 := Int.mul_ediv_self_le (x := unX x) (k := room top + 1) (by omega)
  have hm2 := Int.ediv_nonneg h3.1 (b := room top + 1) (by omega)
  have hm3 : (room top + 1) * (unX x / (room top + 1)) = unX x / (room top + 1) * (room top + 1) := Int.mul_comm _ _
  have hm4 := Int.mul_nonneg hm2 (show 0 ≤ room top + 1 by omega)
  have e1 : IntKind.i64.wrap (unX x / (room top + 1) * (room top + 1)) = unX x / (room top + 1) * (room top + 1) := IntWalk.i64_in _ (by omega)
  have e2 : IntKind.i64.wrap (unX x - unX x / (room top + 1) * (room top + 1)) = unX x - unX x / (room top + 1) * (room top + 1) := IntWalk.i64_in _ (by omega)
  have H : Hid (unX x - unX x / (room top + 1) * (room top + 1) = unLo x top) := by
    have := Int.mul_ediv_add_emod (unX x) (room top + 1)
    unfold unLo
    show _ = _
    omega
  clear hm1 hm3
  go_enter Tryz.func212, Tryz.ntmps212
  go_wp2_with fail
  refine (within_any _ _ _ _).mono ?_
  rintro e w' ⟨rfl, rfl⟩
  rw [show within top 0 1048576 = room top from rfl]
  go_wp2_with fail
  refine (within_any _ _ _ _).mono ?_
  rintro e w' ⟨rfl, rfl⟩
  rw [show within x 0 4398046511104 = unX x from rfl]
  go_wp2
  go_quiet (fail)
  go_wp2
  go_ret2
  exact ⟨ret_int2 rfl H.out, Drew.mk' _ _⟩
def strLen : Value → Nat | .string s => s.size | _ => 0
theorem bytes_cat (a b : List UInt8) : (⟨a.toArray⟩ : ByteArray) ++ ⟨b.toArray⟩ = ⟨(a ++ b).toArray⟩ := by
  apply ByteArray.ext
  simp
theorem digit_cut : ∀ d : Fin 10, (⟨#[48, 49, 50, 51, 52, 53, 54, 55, 56, 57]⟩ : ByteArray).extract d.val (d.val + 1) = ⟨[UInt8.ofNat (48 + d.val)].toArray⟩ := by
  decide +kernel
theorem digit_cat (d : Nat) (h : d < 10) (l : List UInt8) : (⟨#[48, 49, 50, 51, 52, 53, 54, 55, 56, 57]⟩ : ByteArray).extract d (d + 1) ++ ⟨l.toArray⟩ = ⟨(UInt8.ofNat (48 + d) :: l).toArray⟩ := by
  have := digit_cut ⟨d, h⟩
  simp only at this
  rw [this, bytes_cat]
  rfl
theorem digits_keep (M m : Nat) (l : List UInt8) (hm : 0 < m ∨ l = []) (h : Go.Lib.decDigits M = (if m = 0 ∧ l ≠ [] then [] else Go.Lib.decDigits m) ++ l) :
    Go.Lib.decDigits M = (if m / 10 = 0 ∧ UInt8.ofNat (48 + m % 10) :: l ≠ [] then [] else Go.Lib.decDigits (m / 10)) ++ (UInt8.ofNat (48 + m % 10) :: l) := by
  rw [if_neg (fun hh => hm.elim (fun h3 => by omega) (fun h3 => hh.2 h3))] at h
  rw [h]
  by_cases h10 : 10 ≤ m
  · rw [decDigits_step m h10, if_neg (by omega)]
    simp
  · rw [decDigits_one m (by omega), if_pos (by simp; omega), show m % 10 = m from by omega]
    rfl
theorem digits_room (M m k : Nat) (hM : M ≤ 9223372036854775808) (h : 10 ^ k * m ≤ M) (hm : 0 < m) : k ≤ 18 := by
  rcases Nat.lt_or_ge 18 k with hk | hk
  · have h1 : 10 ^ 19 ≤ 10 ^ k := Nat.pow_le_pow_right (by omega) hk
    have h2 : 10 ^ k * 1 ≤ 10 ^ k * m := Nat.mul_le_mul_left _ hm
    omega
  · exact hk
theorem digits_room' (M m k : Nat) (h : 10 ^ k * m ≤ M) : 10 ^ (k + 1) * (m / 10) ≤ M := by
  have h2 : 10 ^ k * (10 * (m / 10)) ≤ 10 ^ k * m := Nat.mul_le_mul_left _ (Nat.mul_div_le m 10)
  rw [Nat.pow_succ, Nat.mul_assoc]
  omega
/-- What a round of the document's digits keeps. -/
def DigitsRel (M : Nat) (x s : Value) : Prop := ∃ (m : Nat) (l : List UInt8), x = .int .i64 (-(m : Int)) ∧ s = .string ⟨l.toArray⟩ ∧ m ≤ M ∧ l.length ≤ 20 ∧
  Hid (Go.Lib.decDigits M = (if m = 0 ∧ l ≠ [] then [] else Go.Lib.decDigits m) ++ l) ∧ 10 ^ l.length * m ≤ M
end Go.Proofs.YtpcohbpeglledaaGreat
/-
  Lists of the document's tape: numbers made tame, noughts at the end cut off.
-/
namespace Kv
/-- Numbers from 0 to a greatest one. -/
def tameL (L : List Int) (top : Int) : List Int := (L.take 3000).map fun x => wrapI x top
/-- A list without noughts at its end. -/
def shortN (L : List Int) : Nat → Nat
  | 0 => 0
  | n + 1 => if L.getD n 0 = 0 then shortN L n else n + 1
def shortL (L : List Int) : List Int := L.take (shortN L L.length)
theorem shortN_le (L : List Int) : ∀ n, shortN L n ≤ n
  | 0 => Nat.le_refl _
  | n + 1 => by
    unfold shortN
    split
    · exact Nat.le_succ_of_le (shortN_le L n)
    · exact Nat.le_refl _
end Kv
namespace Go.Proofs.YtpcohbpeglledaaGreat
open Go.RowKit Kv
set_option maxRecDepth 100000 in
theorem tame_r (v : Value) (L : List Int) (top : Int) (w : World) (h : Ints w v L) :
    Calls Tryz.prog 16 #[v, .int .i64 top] w fun e w' => ∃ v', e = .returned v' ∧ IntRow w' w.heap.size v' (tameL L top) ∧ Ext w w' := by
  obtain ⟨A, c, rfl, q1, q2⟩ := h.slice
  go_enter Tryz.func16, Tryz.ntmps16
  go_wp2_with fail
  go_loopw [5, 6] (fun v i wr => ∃ j : Nat, i = .int .i64 j ∧ j ≤ L.length ∧ j ≤ 3000 ∧ IntRow wr w.heap.size v ((L.take j).map fun x => wrapI x top) ∧ Ext w wr) (fun _ i _ => 3000 - (intOf i).toNat)
  case atStart => exact ⟨0, rfl, by omega, by omega, IntRow.nil _ _, Ext.refl _⟩
  case round =>
    obtain ⟨j, rfl, hj, hj2, hown, hE⟩ := hrel
    have hsz := hE.size
    have hlt1 : ((L.take j).map fun x => wrapI x top).length < 1000000000000 := by simp; omega
    by_cases hl : j < L.length ∧ j < 3000
    · obtain ⟨hl1, hl2⟩ := hl
      obtain ⟨b, off, rfl, hb, hcell⟩ := (h.ext hE).at_ hl1
      have hs : ((L.take (j + 1)).map fun x => wrapI x top) = ((L.take j).map fun x => wrapI x top) ++ [wrapI (L.getD j 0) top] := by
        rw [List.take_succ_eq_append_getElem hl1, List.map_append]
        simp [List.getD, hl1]
      have H1 := Lib.hid hs
      clear hs
      generalize L.getD j 0 = E at *
      have hEh := Lib.hid hE
      clear hE
      generalize hM : ((L.take j).map fun x => wrapI x top) = M at *
      clear hM
      have hh := Lib.hid h
      clear h
      go_wp2_with (first | (go_at_call 15; refine (wrap_r _ _ _).mono ?_; rintro e w' ⟨rfl, rfl⟩) | (at_builtin; refine append_int rfl _ _ rfl w.heap.size _ M (wrapI E top) hown rfl rfl hlt1 hsz ?_))
      intro v' w1 hown' hgrow
      have hE' := hEh.out.appended hown hgrow
      rw [← H1.out] at hown'
      clear hown hgrow
      go_wp2_with fail
      go_roundw
      case rel => exact ⟨j + 1, by go_num, by omega, by omega, hown', hE'⟩
      case measure => simp [intOf]; omega
    · have hf : ((L.take j).map fun x => wrapI x top) = tameL L top := by
        unfold tameL
        congr 1
        by_cases e : j < L.length
        · rw [show j = 3000 by omega]
        · rw [List.take_of_length_le (by omega), List.take_of_length_le (by omega)]
      rw [hf] at hown
      clear hf hlt1
      by_cases e : j < L.length
      · have e3 : ¬ j < 3000 := fun e3 => hl ⟨e, e3⟩
        clear hl h
        go_wp2_with fail
        go_ret
        exact ⟨_, rfl, hown, hE⟩
      · clear hl h
        go_wp2_with fail
        go_ret
        exact ⟨_, rfl, hown, hE⟩
theorem Ints.take {w : World} {A : Option Addr} {c : Nat} {L : List Int} (h : Ints w (.slice A L.length c) L) (m : Nat) (hm : m ≤ L.length) : Ints w (.slice A m c) (L.take m) := by
  obtain ⟨A', c', he, h1, h2, h3⟩ := h
  injection he with e1 e2 e3
  subst e1 e3
  have hl : (L.take m).length = m := by rw [List.length_take]; omega
  refine ⟨A, c, by rw [hl], by omega, h2, fun hne => ?_⟩
  obtain ⟨b, off, rfl, hb, hc⟩ := h3 (fun e => hne (by rw [e]; simp))
  refine ⟨b, off, rfl, hb, fun i x hi => hc i x ?_⟩
  rw [List.getElem?_take] at hi
  split at hi
  · exact hi
  · cases hi
set_option maxRecDepth 100000 in
theorem short_at (A : Option Addr) (c : Nat) (L : List Int) (w : World) (h : Ints w (.slice A L.length c) L) (q1 : L.length ≤ c) (q2 : c ≤ 9223372036854775807) :
    Calls Tryz.prog 93 #[.slice A L.length c] w fun e w' => e = .returned (.slice A (shortN L L.length) c) ∧ w = w' := by
  go_enter Tryz.func93, Tryz.ntmps93
  go_wp2_with fail
  go_loopw [0] (fun v wr => ∃ n : Nat, v = .slice A n c ∧ n ≤ L.length ∧ Hid (shortN L n = shortN L L.length) ∧ w = wr) (fun v _ => match v with
    | .slice _ n _ => n
    | _ => 0)
  case atStart => exact ⟨L.length, rfl, by omega, rfl, rfl⟩
  case round =>
    obtain ⟨n, rfl, hn, hs, rfl⟩ := hrel
    cases n with
    | zero =>
      have hf := Lib.hid (show shortN L L.length = 0 from hs.out.symm)
      clear hs h
      go_wp2_with fail
      go_ret
      exact ⟨by rw [hf.out]; rfl, rfl⟩
    | succ n =>
      obtain ⟨b, off, rfl, hb, hcell⟩ := h.at_ (show n < L.length by omega)
      by_cases e : L.getD n 0 = 0
      · have hs2 : Hid (shortN L n = shortN L L.length) := Lib.hid (by rw [← hs.out]; show _ = (if L.getD n 0 = 0 then shortN L n else n + 1); rw [if_pos e])
        rw [e] at hcell
        clear hs e h
        go_wp2_with fail
        exact ⟨⟨n, rfl, by omega, hs2, by trivial⟩, Nat.lt_succ_self n⟩
      · have hf := Lib.hid (show shortN L L.length = n + 1 from by rw [← hs.out]; show (if L.getD n 0 = 0 then shortN L n else n + 1) = _; rw [if_neg e])
        have e2 : (L.getD n 0 == 0) = false := by rw [beq_eq_false_iff_ne]; exact e
        generalize L.getD n 0 = E at *
        clear hs e h
        go_wp2_with fail
        go_ret
        exact ⟨by rw [hf.out]; rfl, rfl⟩
theorem shortL_ints {w : World} {A : Option Addr} {c : Nat} {L : List Int} (h : Ints w (.slice A L.length c) L) : Ints w (.slice A (shortN L L.length) c) (shortL L) := h.take _ (shortN_le _ _)
end Go.Proofs.YtpcohbpeglledaaGreat
/-
  Plain mathematics of registers: what a write and a read of each kind do, as trees of accesses.
-/
namespace Kv
open Go Go.RowKit

/-- A register: where its cells and locals begin, of how many threads, who writes and reads it, and its greatest value. -/
structure Reg where
  kind : Int
  base : Int
  loc : Int
  n : Int
  wr : Int
  rd : Int
  top : Int
def bitM (v : Int) : Int := if v = 0 then 0 else 1
def otherM (v : Int) : Int := if v = 0 then 1 else 0
def steadyW (base loc v : Int) : Prog Unit := (gt loc).bind fun x => if x = bitM v then .ret () else (wr base (bitM v)).bind fun _ => st loc (bitM v)
def trompW (b l v : Int) : Prog Unit :=
  (gt l).bind fun x => if x = bitM v then .ret () else
    (wr b (bitM v)).bind fun _ => (st l (bitM v)).bind fun _ => (gt (l + 1)).bind fun w => (rd (b + 2)).bind fun y =>
      if y = w then (wr (b + 1) (wrap64 (1 - w))).bind fun _ => st (l + 1) (wrap64 (1 - w)) else .ret ()
/-- The end of a read of an atomic bit. -/
def trompR3 (b l x : Int) : Prog Int :=
  (rd b).bind fun y => (st (l + 3) y).bind fun _ => (rd (b + 1)).bind fun y => (gt (l + 2)).bind fun g =>
    if y = g then gt (l + 3) else (rd b).bind fun y => (st (l + 3) y).bind fun _ => .ret x
def trompR2 (b l x : Int) : Prog Int :=
  (rd (b + 1)).bind fun y => (gt (l + 2)).bind fun g => if y = g then trompR3 b l x else
    (gt (l + 2)).bind fun t => (wr (b + 2) (wrap64 (1 - t))).bind fun _ => (st (l + 2) (wrap64 (1 - t))).bind fun _ => trompR3 b l x
def trompR (b l : Int) : Prog Int :=
  (rd (b + 1)).bind fun y => (gt (l + 2)).bind fun g => if y = g then gt (l + 3) else (rd b).bind fun x => trompR2 b l x
def slotsW (b l v : Int) : Prog Unit :=
  (trompR (b + 13) (l + 14)).bind fun y => (gt (l + otherM y)).bind fun z => (wr (b + (2 * otherM y + otherM z)) v).bind fun _ =>
    (st (l + otherM y) (otherM z)).bind fun _ => (trompW (b + (4 + 3 * otherM y)) (l + (2 + 4 * otherM y)) (otherM z)).bind fun _ => trompW (b + 10) (l + 10) (otherM y)
def slotsR (b l : Int) : Prog Int :=
  (trompR (b + 10) (l + 10)).bind fun y => (trompW (b + 13) (l + 14) (bitM y)).bind fun _ =>
    (trompR (b + (4 + 3 * bitM y)) (l + (2 + 4 * bitM y))).bind fun z => rd (b + (2 * bitM y + bitM z))
/-- A loop over a list that plays an operation a round. -/
def forP {σ : Type} (T : Int → σ → Prog σ) : List Int → σ → Prog σ
  | [], x => .ret x
  | a :: l, x => (T a x).bind fun y => forP T l y
/-- So many numbers from one on, but one. -/
def ranksFrom (but : Int) : Nat → Int → List Int
  | 0, _ => []
  | n + 1, i => if i = but then ranksFrom but n (i + 1) else i :: ranksFrom but n (i + 1)
def tableW (b l n wr top me v : Int) : Prog Unit :=
  if me ≠ wr then .ret () else (gt l).bind fun s => (st l (wrap64 (s + 1))).bind fun _ =>
    (forP (fun a _ => slotsW (b + 16 * a) (l + (2 + 18 * a)) (packI (wrap64 (s + 1)) v (clamp top 1048576))) (ranksFrom (-1) (n - 1).toNat 0) ()).bind fun _ => st (l + 1) (clamp v (clamp top 1048576))
/-- By which number a tells b, of k readers. -/
def tellsM (k a b : Int) : Int := k + a * (k - 1) + (if b > a then b - 1 else b)
def rankM (w me : Int) : Int := if me > w then me - 1 else me
def tableR (b l n wr top me : Int) : Prog Int :=
  if me = wr then gt (l + 1) else
    (slotsR (b + 16 * rankM wr me) (l + (2 + 18 * rankM wr me))).bind fun x =>
      (forP (fun i x => (slotsR (b + 16 * tellsM (n - 1) i (rankM wr me)) (l + (2 + 18 * tellsM (n - 1) i (rankM wr me)))).bind fun y => .ret (max x y)) (ranksFrom (rankM wr me) (n - 1).toNat 0) x).bind fun x =>
      (forP (fun i _ => slotsW (b + 16 * tellsM (n - 1) (rankM wr me) i) (l + (2 + 18 * tellsM (n - 1) (rankM wr me) i)) x) (ranksFrom (rankM wr me) (n - 1).toNat 0) ()).bind fun _ => .ret (unLo x (clamp top 1048576))
def manyTop (top : Int) : Int := packI 4095 (clamp top 255) (clamp top 255)
def manyB (b n j : Int) : Int := b + 16 * j * (n - 1) * (n - 1)
def manyL (l n j : Int) : Int := l + j * (2 + 18 * (n - 1) * (n - 1))
/-- The reads of all, from j on: the last one of the greatest stamps, and its value. -/
def manyRs (b l n top me : Int) : Nat → Int → Int → Int → Prog (Int × Int)
  | 0, _, s, v => .ret (s, v)
  | k + 1, j, s, v => (tableR (manyB b n j) (manyL l n j) n j (manyTop top) me).bind fun y =>
      if s ≤ unHi y (clamp top 255) then manyRs b l n top me k (j + 1) (unHi y (clamp top 255)) (unLo y (clamp top 255)) else manyRs b l n top me k (j + 1) s v
def manyR (b l n top me : Int) : Prog Int := (manyRs b l n top me n.toNat 0 0 0).bind fun p => .ret p.2
def manyW (b l n top me v : Int) : Prog Unit :=
  (manyRs b l n top me n.toNat 0 0 0).bind fun p => tableW (manyB b n me) (manyL l n me) n me (manyTop top) me (packI (min (p.1 + 1) 4095) (clamp v (clamp top 255)) (clamp top 255))
def regW (r : Reg) (me v : Int) : Prog Unit := if r.kind = 1 then wr r.base v else if r.kind = 6 then tableW r.base r.loc r.n r.wr r.top me v else manyW r.base r.loc r.n r.top me v
def regR (r : Reg) (me : Int) : Prog Int := if r.kind = 1 then rd r.base else if r.kind = 6 then tableR r.base r.loc r.n r.wr r.top me else manyR r.base r.loc r.n r.top me
/-- A register as a plan lays it. -/
structure Reg.ok (r : Reg) : Prop where
  kind : r.kind = 1 ∨ r.kind = 6 ∨ r.kind = 7
  base : 0 ≤ r.base ∧ r.base ≤ 32768
  loc : 0 ≤ r.loc ∧ r.loc ≤ 32768
  n : 1 ≤ r.n ∧ r.n ≤ 8
  wr : r.kind = 6 → 0 ≤ r.wr ∧ r.wr < r.n
end Kv
/-
  Registers of the program: bits out of safe cells.
-/
namespace Go.Proofs.YtpcohbpeglledaaGreat
open Go.RowKit Kv
def encR (r : Reg) : Value := .agg #[.int .i64 r.kind, .int .i64 r.base, .int .i64 r.loc, .int .i64 r.n, .int .i64 r.wr, .int .i64 r.rd, .int .i64 r.top]
theorem tromp_write_p (B p : Nat) (S : TS) (r : Reg) (v : Int) (w : World) (h : Plays B w p S) (hb1 : 0 ≤ r.base) (hb2 : r.base ≤ 60000) (hl1 : 0 ≤ r.loc) (hl2 : r.loc ≤ 60000) :
    Calls Tryz.prog 148 #[.pointer (some ⟨p, 0, none⟩), encR r, .int .i64 v] w (Post encU B p w ((trompW r.base r.loc v).run S)) := by
  generalize hR : Post encU B p w ((trompW r.base r.loc v).run S) = R
  have hO : Owes R encU B p w ((trompW r.base r.loc v).run S) := hR ▸ owes _ _ _ _ _
  clear hR
  obtain ⟨kind, base, loc, n, wr, rd, top⟩ := r
  simp only at hb1 hb2 hl1 hl2 hO
  unfold encR
  have hK := Keep.refl [2, 3, 4] B p w
  have hP := h
  have b1 := hP.held (.cells #[.int .i64 kind, .int .i64 base, .int .i64 loc, .int .i64 n, .int .i64 wr, .int .i64 rd, .int .i64 top] 77)
  replace hK := hK.trans (Keep.alloc (.cells #[.int .i64 kind, .int .i64 base, .int .i64 loc, .int .i64 n, .int .i64 wr, .int .i64 rd, .int .i64 top] 77) hP.lt hP.le)
  replace hP := hP.alloc (.cells #[.int .i64 kind, .int .i64 base, .int .i64 loc, .int .i64 n, .int .i64 wr, .int .i64 rd, .int .i64 top] 77)
  have c_b1 := b1.cells
  clear h
  have hv : bitM v = 0 ∨ bitM v = 1 := by unfold bitM; split <;> simp
  have hvb : (v != 0) = decide (bitM v = 1) := by unfold bitM; by_cases hv : v = 0 <;> simp [hv]
  unfold trompW at hO
  generalize bitM v = b at *
  rcases hv with rfl | rfl
  · go_enter Tryz.func148, Tryz.ntmps148
    go_wp2_with fail
    refine (get_p B p S (loc) _ hP).mono ?_
    rintro e w' ⟨rfl, rfl⟩
    rw [run_gt] at hO
    generalize S.got (loc) = x at hO ⊢
    by_cases hx : x = 0
    · rw [if_pos hx] at hO
      subst hx
      go_wp2_with fail
      first | go_end0 | refine bodyPost_ret (results_none rfl _ _ _) rfl ?_
      exact hO.done hP hK
    · rw [if_neg hx] at hO
      have hx2 : (x == 0) = false := by rw [beq_eq_false_iff_ne]; exact hx
      go_wp2_with fail
      refine tstep hO hK (write_p B p S _ _ _ hP) (fun _ h => ⟨rfl, h⟩) ?_
      clear hO hK hP c_b1
      intro u S w1 hr hP hk hK hO
      replace b1 := b1.keep hk
      have c_b1 := b1.cells
      clear hk hr
      go_wp2_with fail
      refine tstep hO hK (setO hP) (fun _ h => ⟨rfl, h⟩) ?_
      clear hO hK hP c_b1
      intro u S w1 hr hP hk hK hO
      replace b1 := b1.keep hk
      have c_b1 := b1.cells
      clear hk hr
      go_wp2_with fail
      refine (get_p B p S (loc + 1) _ hP).mono ?_
      rintro e w' ⟨rfl, rfl⟩
      rw [run_gt] at hO
      generalize S.got (loc + 1) = z at hO ⊢
      go_wp2_with fail
      refine tstep hO hK (read_p B p S _ _ hP) (fun _ h => ⟨rfl, h⟩) ?_
      clear hO hK hP c_b1
      intro y S w1 hr hP hk hK hO
      replace b1 := b1.keep hk
      have c_b1 := b1.cells
      clear hk hr
      by_cases hy : y = z
      · rw [if_pos hy] at hO
        subst hy
        go_wp2_with fail
        refine tstep hO hK (write_p B p S _ _ _ hP) (fun _ h => ⟨rfl, h⟩) ?_
        clear hO hK hP c_b1
        intro u S w1 hr hP hk hK hO
        replace b1 := b1.keep hk
        have c_b1 := b1.cells
        clear hk hr
        go_wp2_with fail
        refine tlast hO hK (setO hP) (fun _ h => ⟨rfl, h⟩) ?_
        clear hO hK hP c_b1
        intro u S w1 hr hP hk hK hO
        replace b1 := b1.keep hk
        have c_b1 := b1.cells
        clear hk hr
        go_wp2_with fail
        first | go_end0 | refine bodyPost_ret (results_none rfl _ _ _) rfl ?_
        exact hO.done hP hK
      · rw [if_neg hy] at hO
        have hy2 : (y == z) = false := by rw [beq_eq_false_iff_ne]; exact hy
        go_wp2_with fail
        first | go_end0 | refine bodyPost_ret (results_none rfl _ _ _) rfl ?_
        exact hO.done hP hK
  · go_enter Tryz.func148, Tryz.ntmps148
    go_wp2_with fail
    refine (get_p B p S (loc) _ hP).mono ?_
    rintro e w' ⟨rfl, rfl⟩
    rw [run_gt] at hO
    generalize S.got (loc) = x at hO ⊢
    by_cases hx : x = 1
    · rw [if_pos hx] at hO
      subst hx
      go_wp2_with fail
      first | go_end0 | refine bodyPost_ret (results_none rfl _ _ _) rfl ?_
      exact hO.done hP hK
    · rw [if_neg hx] at hO
      have hx2 : (x == 1) = false := by rw [beq_eq_false_iff_ne]; exact hx
      go_wp2_with fail
      refine tstep hO hK (write_p B p S _ _ _ hP) (fun _ h => ⟨rfl, h⟩) ?_
      clear hO hK hP c_b1
      intro u S w1 hr hP hk hK hO
      replace b1 := b1.keep hk
      have c_b1 := b1.cells
      clear hk hr
      go_wp2_with fail
      refine tstep hO hK (setO hP) (fun _ h => ⟨rfl, h⟩) ?_
      clear hO hK hP c_b1
      intro u S w1 hr hP hk hK hO
      replace b1 := b1.keep hk
      have c_b1 := b1.cells
      clear hk hr
      go_wp2_with fail
      refine (get_p B p S (loc + 1) _ hP).mono ?_
      rintro e w' ⟨rfl, rfl⟩
      rw [run_gt] at hO
      generalize S.got (loc + 1) = z at hO ⊢
      go_wp2_with fail
      refine tstep hO hK (read_p B p S _ _ hP) (fun _ h => ⟨rfl, h⟩) ?_
      clear hO hK hP c_b1
      intro y S w1 hr hP hk hK hO
      replace b1 := b1.keep hk
      have c_b1 := b1.cells
      clear hk hr
      by_cases hy : y = z
      · rw [if_pos hy] at hO
        subst hy
        go_wp2_with fail
        refine tstep hO hK (write_p B p S _ _ _ hP) (fun _ h => ⟨rfl, h⟩) ?_
        clear hO hK hP c_b1
        intro u S w1 hr hP hk hK hO
        replace b1 := b1.keep hk
        have c_b1 := b1.cells
        clear hk hr
        go_wp2_with fail
        refine tlast hO hK (setO hP) (fun _ h => ⟨rfl, h⟩) ?_
        clear hO hK hP c_b1
        intro u S w1 hr hP hk hK hO
        replace b1 := b1.keep hk
        have c_b1 := b1.cells
        clear hk hr
        go_wp2_with fail
        first | go_end0 | refine bodyPost_ret (results_none rfl _ _ _) rfl ?_
        exact hO.done hP hK
      · rw [if_neg hy] at hO
        have hy2 : (y == z) = false := by rw [beq_eq_false_iff_ne]; exact hy
        go_wp2_with fail
        first | go_end0 | refine bodyPost_ret (results_none rfl _ _ _) rfl ?_
        exact hO.done hP hK
end Go.Proofs.YtpcohbpeglledaaGreat
/-
  Registers of the document: an atomic bit written and read.
-/
namespace Go.Proofs.YtpcohbpeglledaaGreat
open Go.RowKit Kv
theorem bit_r (v : Int) (w : World) : Calls Tryz.prog 103 #[.int .i64 v] w fun e w' => e = .returned (.int .i64 (bitM v)) ∧ w = w' := by
  unfold bitM
  by_cases hv : v = 0
  · subst hv
    go_enter Tryz.func103, Tryz.ntmps103
    go_wp2_with fail
    go_ret
    exact ⟨rfl, rfl⟩
  · rw [if_neg hv]
    have hv2 : (v == 0) = false := by rw [beq_eq_false_iff_ne]; exact hv
    go_enter Tryz.func103, Tryz.ntmps103
    go_wp2_with fail
    go_ret
    exact ⟨rfl, rfl⟩
theorem tromp_write_r (B p : Nat) (o : Bool) (S : TS) (r : Reg) (v : Int) (w : World) (h : RAt B w p o S) (hb1 : 0 ≤ r.base) (hb2 : r.base ≤ 60000) (hl1 : 0 ≤ r.loc) (hl2 : r.loc ≤ 60000) :
    Calls Tryz.prog 162 #[.pointer (some ⟨p, 0, none⟩), encR r, .int .i64 v] w (RPost encU B p w (trompW r.base r.loc v) o S) := by
  generalize hR : RPost encU B p w (trompW r.base r.loc v) o S = R
  have hO : ROwes R encU B p w (trompW r.base r.loc v) o S := hR ▸ rowes _ _ _ _ _ _ _
  clear hR
  obtain ⟨kind, base, loc, n, wr, rd, top⟩ := r
  simp only at hb1 hb2 hl1 hl2 hO
  unfold encR
  have hK := Keep.refl [3, 4, 5] B p w
  have hP := h
  have b1 := hP.held (.cells #[.int .i64 kind, .int .i64 base, .int .i64 loc, .int .i64 n, .int .i64 wr, .int .i64 rd, .int .i64 top] 77)
  replace hK := hK.trans (Keep.alloc (.cells #[.int .i64 kind, .int .i64 base, .int .i64 loc, .int .i64 n, .int .i64 wr, .int .i64 rd, .int .i64 top] 77) hP.lt hP.le)
  replace hP := hP.alloc (.cells #[.int .i64 kind, .int .i64 base, .int .i64 loc, .int .i64 n, .int .i64 wr, .int .i64 rd, .int .i64 top] 77)
  have c_b1 := b1.cells
  clear h
  unfold trompW at hO
  go_enter Tryz.func162, Tryz.ntmps162
  go_wp2_with fail
  refine (bit_r v _).mono ?_
  rintro e w' ⟨rfl, rfl⟩
  generalize bitM v = b at *
  go_wp2_with fail
  refine (get_r B p o S (loc) _ hP).mono ?_
  rintro e w' ⟨rfl, rfl⟩
  replace hO := hO.get
  generalize S.got (loc) = x at hO ⊢
  by_cases hx : x = b
  · rw [if_pos hx] at hO
    subst hx
    go_wp2_with fail
    first | go_end0 | refine bodyPost_ret (results_none rfl _ _ _) rfl ?_
    exact hO.ret hP hK
  · rw [if_neg hx] at hO
    have hx2 : (x == b) = false := by rw [beq_eq_false_iff_ne]; exact hx
    go_wp2_with fail
    refine rstep hO hK (write_r B p o S _ _ _ hP) ?_
    clear hO hK hP c_b1
    intro u o S w1 hP hk hK hO
    replace b1 := b1.keep hk
    have c_b1 := b1.cells
    clear hk
    go_wp2_with fail
    refine rstep hO hK (set_r B p o S _ _ _ hP) ?_
    clear hO hK hP c_b1
    intro u o S w1 hP hk hK hO
    replace b1 := b1.keep hk
    have c_b1 := b1.cells
    clear hk
    go_wp2_with fail
    refine (get_r B p o S (loc + 1) _ hP).mono ?_
    rintro e w' ⟨rfl, rfl⟩
    replace hO := hO.get
    generalize S.got (loc + 1) = z at hO ⊢
    go_wp2_with fail
    refine rstep hO hK (read_r B p o S _ _ hP) ?_
    clear hO hK hP c_b1
    intro y o S w1 hP hk hK hO
    replace b1 := b1.keep hk
    have c_b1 := b1.cells
    clear hk
    by_cases hy : y = z
    · rw [if_pos hy] at hO
      subst hy
      obtain ⟨_, _, _, _, _, hcc⟩ := hP.cell
      cases o with
      | true =>
        go_wp2_with fail
        first | go_end0 | refine bodyPost_ret (results_none rfl _ _ _) rfl ?_
        exact hO.over () hP hK
      | false =>
        go_wp2_with fail
        clear hcc
        refine rstep hO hK (write_r B p false S _ _ _ hP) ?_
        clear hO hK hP c_b1
        intro u o S w1 hP hk hK hO
        replace b1 := b1.keep hk
        have c_b1 := b1.cells
        clear hk
        go_wp2_with fail
        refine rlast hO hK (set_r B p o S _ _ _ hP) ?_
        clear hO hK hP c_b1
        intro u o S w1 hP hk hK hO
        replace b1 := b1.keep hk
        have c_b1 := b1.cells
        clear hk
        go_wp2_with fail
        first | go_end0 | refine bodyPost_ret (results_none rfl _ _ _) rfl ?_
        exact hO.ret hP hK
    · rw [if_neg hy] at hO
      have hy2 : (y == z) = false := by rw [beq_eq_false_iff_ne]; exact hy
      go_wp2_with fail
      first | go_end0 | refine bodyPost_ret (results_none rfl _ _ _) rfl ?_
      exact hO.ret hP hK
set_option maxHeartbeats 2000000 in
theorem tromp_read_r (B p : Nat) (o : Bool) (S : TS) (r : Reg) (w : World) (h : RAt B w p o S) (hb1 : 0 ≤ r.base) (hb2 : r.base ≤ 60000) (hl1 : 0 ≤ r.loc) (hl2 : r.loc ≤ 60000) :
    Calls Tryz.prog 169 #[.pointer (some ⟨p, 0, none⟩), encR r] w (RPost encI B p w (trompR r.base r.loc) o S) := by
  generalize hR : RPost encI B p w (trompR r.base r.loc) o S = R
  have hO : ROwes R encI B p w (trompR r.base r.loc) o S := hR ▸ rowes _ _ _ _ _ _ _
  clear hR
  obtain ⟨kind, base, loc, n, wr, rd, top⟩ := r
  simp only at hb1 hb2 hl1 hl2 hO
  unfold encR
  have hK := Keep.refl [3, 4, 5] B p w
  have hP := h
  have b1 := hP.held (.cells #[.int .i64 kind, .int .i64 base, .int .i64 loc, .int .i64 n, .int .i64 wr, .int .i64 rd, .int .i64 top] 77)
  replace hK := hK.trans (Keep.alloc (.cells #[.int .i64 kind, .int .i64 base, .int .i64 loc, .int .i64 n, .int .i64 wr, .int .i64 rd, .int .i64 top] 77) hP.lt hP.le)
  replace hP := hP.alloc (.cells #[.int .i64 kind, .int .i64 base, .int .i64 loc, .int .i64 n, .int .i64 wr, .int .i64 rd, .int .i64 top] 77)
  have c_b1 := b1.cells
  clear h
  unfold trompR at hO
  go_enter Tryz.func169, Tryz.ntmps169
  go_wp2_with fail
  have hwb := IntWalk.i64_in (base + 1) (by omega)
  have hwv := IntWalk.i64_in (loc + 3) (by omega)
  have hw0 := IntWalk.i64_in base (by omega)
  have hwl := IntWalk.i64_in (loc + 2) (by omega)
  replace hP := hP.drew
  replace hK := hK.drew
  replace b1 := b1.drew
  go_region_held2 (fun w' => w'.cell? ⟨w.heap.size, 1, none⟩ = some (.int .i64 base) ∧ w'.cell? ⟨w.heap.size, 2, none⟩ = some (.int .i64 loc)) (first | go_keep | exact ⟨c_b1 1, c_b1 2⟩)
    (first
      | (go_at_call 166
         refine rstep hO hK (read_r B p o S _ _ hP) ?_
         clear hO hK hP c_b1
         intro y o S w1 hP hk hK hO
         replace b1 := b1.keep hk
         have c_b1 := b1.cells
         clear hk)
      | (go_at_call 129
         refine (get_r B p o S (loc + 2) _ hP).mono ?_
         rintro e w' ⟨rfl, rfl⟩
         replace hO := hO.get
         generalize S.got (loc + 2) = g at hO ⊢))
  by_cases hy : y = g
  · rw [if_pos hy] at hO
    subst hy
    go_wp2_with fail
    refine (get_r B p o S (loc + 3) _ hP).mono ?_
    rintro e w' ⟨rfl, rfl⟩
    replace hO := hO.get1
    generalize S.got (loc + 3) = z at hO ⊢
    go_wp2_with fail
    exact hO.ret hP hK
  · rw [if_neg hy] at hO
    have hy2 : (y == g) = false := by rw [beq_eq_false_iff_ne]; exact hy
    have hy3 : (y != g) = true := by rw [bne_iff_ne]; exact hy
    go_wp2_with fail
    refine rstep hO hK (read_r B p o S _ _ hP) ?_
    clear hO hK hP c_b1
    intro x o S w1 hP hk hK hO
    replace b1 := b1.keep hk
    have c_b1 := b1.cells
    clear hk
    unfold trompR2 at hO
    clear hy2 hy3 hy
    go_wp2_with fail
    replace hP := hP.drew
    replace hK := hK.drew
    replace b1 := b1.drew
    go_region_held2 (fun w' => w'.cell? ⟨w.heap.size, 1, none⟩ = some (.int .i64 base) ∧ w'.cell? ⟨w.heap.size, 2, none⟩ = some (.int .i64 loc)) (first | go_keep | exact ⟨c_b1 1, c_b1 2⟩)
      (first
        | (go_at_call 166
           refine rstep hO hK (read_r B p o S _ _ hP) ?_
           clear hO hK hP c_b1
           intro y o S w1 hP hk hK hO
           replace b1 := b1.keep hk
           have c_b1 := b1.cells
           clear hk)
        | (go_at_call 129
           refine (get_r B p o S (loc + 2) _ hP).mono ?_
           rintro e w' ⟨rfl, rfl⟩
           replace hO := hO.get
           generalize S.got (loc + 2) = g at hO ⊢))
    by_cases hy : y = g
    · rw [if_pos hy] at hO
      subst hy
      have hy : y = y := rfl
      clear hy
      go_wp2_with fail
      unfold trompR3 at hO
      replace hP := hP.drew
      replace hK := hK.drew
      replace b1 := b1.drew
      go_region_held2 (fun w' => w'.cell? ⟨w.heap.size, 1, none⟩ = some (.int .i64 base) ∧ w'.cell? ⟨w.heap.size, 2, none⟩ = some (.int .i64 loc)) (first | go_keep | exact ⟨c_b1 1, c_b1 2⟩)
        (first
          | (go_at_call 166
             refine rstep hO hK (read_r B p o S _ _ hP) ?_
             clear hO hK hP c_b1
             intro y o S w1 hP hk hK hO
             replace b1 := b1.keep hk
             have c_b1 := b1.cells
             clear hk)
          | (go_at_call 126
             refine rstep hO hK (set_r B p o S _ _ _ hP) ?_
             clear hO hK hP c_b1
             intro u o S w1 hP hk hK hO
             replace b1 := b1.keep hk
             have c_b1 := b1.cells
             clear hk))
      go_wp2_with fail
      replace hP := hP.drew
      replace hK := hK.drew
      replace b1 := b1.drew
      go_region_held2 (fun w' => w'.cell? ⟨w.heap.size, 1, none⟩ = some (.int .i64 base) ∧ w'.cell? ⟨w.heap.size, 2, none⟩ = some (.int .i64 loc)) (first | go_keep | exact ⟨c_b1 1, c_b1 2⟩)
        (first
          | (go_at_call 166
             refine rstep hO hK (read_r B p o S _ _ hP) ?_
             clear hO hK hP c_b1
             intro y o S w1 hP hk hK hO
             replace b1 := b1.keep hk
             have c_b1 := b1.cells
             clear hk)
          | (go_at_call 129
             refine (get_r B p o S (loc + 2) _ hP).mono ?_
             rintro e w' ⟨rfl, rfl⟩
             replace hO := hO.get
             generalize S.got (loc + 2) = g at hO ⊢))
      by_cases hy : y = g
      · rw [if_pos hy] at hO
        subst hy
        go_wp2_with fail
        refine (get_r B p o S (loc + 3) _ hP).mono ?_
        rintro e w' ⟨rfl, rfl⟩
        replace hO := hO.get1
        generalize S.got (loc + 3) = z at hO ⊢
        go_wp2_with fail
        exact hO.ret hP hK
      · rw [if_neg hy] at hO
        have hy2 : (y == g) = false := by rw [beq_eq_false_iff_ne]; exact hy
        have hy3 : (y != g) = true := by rw [bne_iff_ne]; exact hy
        go_wp2_with fail
        replace hP := hP.drew
        replace hK := hK.drew
        replace b1 := b1.drew
        go_region_held2 (fun w' => w'.cell? ⟨w.heap.size, 1, none⟩ = some (.int .i64 base) ∧ w'.cell? ⟨w.heap.size, 2, none⟩ = some (.int .i64 loc)) (first | go_keep | exact ⟨c_b1 1, c_b1 2⟩)
          (first
            | (go_at_call 166
               refine rstep hO hK (read_r B p o S _ _ hP) ?_
               clear hO hK hP c_b1
               intro y o S w1 hP hk hK hO
               replace b1 := b1.keep hk
               have c_b1 := b1.cells
               clear hk)
            | (go_at_call 126
               refine rstep hO hK (set_r B p o S _ _ _ hP) ?_
               clear hO hK hP c_b1
               intro u o S w1 hP hk hK hO
               replace b1 := b1.keep hk
               have c_b1 := b1.cells
               clear hk))
        go_wp2_with fail
        exact hO.ret hP hK
    · rw [if_neg hy] at hO
      have hy2 : (y == g) = false := by rw [beq_eq_false_iff_ne]; exact hy
      have hy3 : (y != g) = true := by rw [bne_iff_ne]; exact hy
      go_wp2_with fail
      refine (get_r B p o S (loc + 2) _ hP).mono ?_
      rintro e w' ⟨rfl, rfl⟩
      replace hO := hO.get
      generalize S.got (loc + 2) = t at hO ⊢
      go_wp2_with fail
      refine rstep hO hK (write_r B p o S _ _ _ hP) ?_
      clear hO hK hP c_b1
      intro u o S w1 hP hk hK hO
      replace b1 := b1.keep hk
      have c_b1 := b1.cells
      clear hk
      go_wp2_with fail
      refine rstep hO hK (set_r B p o S _ _ _ hP) ?_
      clear hO hK hP c_b1
      intro u o S w1 hP hk hK hO
      replace b1 := b1.keep hk
      have c_b1 := b1.cells
      clear hk
      clear hy2 hy3
      clear hy
      go_wp2_with fail
      unfold trompR3 at hO
      replace hP := hP.drew
      replace hK := hK.drew
      replace b1 := b1.drew
      go_region_held2 (fun w' => w'.cell? ⟨w.heap.size, 1, none⟩ = some (.int .i64 base) ∧ w'.cell? ⟨w.heap.size, 2, none⟩ = some (.int .i64 loc)) (first | go_keep | exact ⟨c_b1 1, c_b1 2⟩)
        (first
          | (go_at_call 166
             refine rstep hO hK (read_r B p o S _ _ hP) ?_
             clear hO hK hP c_b1
             intro y o S w1 hP hk hK hO
             replace b1 := b1.keep hk
             have c_b1 := b1.cells
             clear hk)
          | (go_at_call 126
             refine rstep hO hK (set_r B p o S _ _ _ hP) ?_
             clear hO hK hP c_b1
             intro u o S w1 hP hk hK hO
             replace b1 := b1.keep hk
             have c_b1 := b1.cells
             clear hk))
      go_wp2_with fail
      replace hP := hP.drew
      replace hK := hK.drew
      replace b1 := b1.drew
      go_region_held2 (fun w' => w'.cell? ⟨w.heap.size, 1, none⟩ = some (.int .i64 base) ∧ w'.cell? ⟨w.heap.size, 2, none⟩ = some (.int .i64 loc)) (first | go_keep | exact ⟨c_b1 1, c_b1 2⟩)
        (first
          | (go_at_call 166
             refine rstep hO hK (read_r B p o S _ _ hP) ?_
             clear hO hK hP c_b1
             intro y o S w1 hP hk hK hO
             replace b1 := b1.keep hk
             have c_b1 := b1.cells
             clear hk)
          | (go_at_call 129
             refine (get_r B p o S (loc + 2) _ hP).mono ?_
             rintro e w' ⟨rfl, rfl⟩
             replace hO := hO.get
             generalize S.got (loc + 2) = g at hO ⊢))
      by_cases hy : y = g
      · rw [if_pos hy] at hO
        subst hy
        go_wp2_with fail
        refine (get_r B p o S (loc + 3) _ hP).mono ?_
        rintro e w' ⟨rfl, rfl⟩
        replace hO := hO.get1
        generalize S.got (loc + 3) = z at hO ⊢
        go_wp2_with fail
        exact hO.ret hP hK
      · rw [if_neg hy] at hO
        have hy2 : (y == g) = false := by rw [beq_eq_false_iff_ne]; exact hy
        have hy3 : (y != g) = true := by rw [bne_iff_ne]; exact hy
        go_wp2_with fail
        replace hP := hP.drew
        replace hK := hK.drew
        replace b1 := b1.drew
        go_region_held2 (fun w' => w'.cell? ⟨w.heap.size, 1, none⟩ = some (.int .i64 base) ∧ w'.cell? ⟨w.heap.size, 2, none⟩ = some (.int .i64 loc)) (first | go_keep | exact ⟨c_b1 1, c_b1 2⟩)
          (first
            | (go_at_call 166
               refine rstep hO hK (read_r B p o S _ _ hP) ?_
               clear hO hK hP c_b1
               intro y o S w1 hP hk hK hO
               replace b1 := b1.keep hk
               have c_b1 := b1.cells
               clear hk)
            | (go_at_call 126
               refine rstep hO hK (set_r B p o S _ _ _ hP) ?_
               clear hO hK hP c_b1
               intro u o S w1 hP hk hK hO
               replace b1 := b1.keep hk
               have c_b1 := b1.cells
               clear hk))
        go_wp2_with fail
        exact hO.ret hP hK
end Go.Proofs.YtpcohbpeglledaaGreat
/-
  Registers of the program: an atomic bit read.
-/
namespace Go.Proofs.YtpcohbpeglledaaGreat
open Go.RowKit Kv
set_option maxHeartbeats 2000000 in
theorem tromp_read_p (B p : Nat) (S : TS) (r : Reg) (w : World) (h : Plays B w p S) (hb1 : 0 ≤ r.base) (hb2 : r.base ≤ 60000) (hl1 : 0 ≤ r.loc) (hl2 : r.loc ≤ 60000) :
    Calls Tryz.prog 155 #[.pointer (some ⟨p, 0, none⟩), encR r] w (Post encI B p w ((trompR r.base r.loc).run S)) := by
  generalize hR : Post encI B p w ((trompR r.base r.loc).run S) = R
  have hO : Owes R encI B p w ((trompR r.base r.loc).run S) := hR ▸ owes _ _ _ _ _
  clear hR
  obtain ⟨kind, base, loc, n, wr, rd, top⟩ := r
  simp only at hb1 hb2 hl1 hl2 hO
  unfold encR
  have hK := Keep.refl [2, 3, 4] B p w
  have hP := h
  have b1 := hP.held (.cells #[.int .i64 kind, .int .i64 base, .int .i64 loc, .int .i64 n, .int .i64 wr, .int .i64 rd, .int .i64 top] 77)
  replace hK := hK.trans (Keep.alloc (.cells #[.int .i64 kind, .int .i64 base, .int .i64 loc, .int .i64 n, .int .i64 wr, .int .i64 rd, .int .i64 top] 77) hP.lt hP.le)
  replace hP := hP.alloc (.cells #[.int .i64 kind, .int .i64 base, .int .i64 loc, .int .i64 n, .int .i64 wr, .int .i64 rd, .int .i64 top] 77)
  have c_b1 := b1.cells
  clear h
  unfold trompR at hO
  go_enter Tryz.func155, Tryz.ntmps155
  go_wp2_with fail
  refine wp_scope_fwd 0 rfl ?_
  go_wp2_with fail
  have hwb := IntWalk.i64_in (base + 1) (by omega)
  have hwv := IntWalk.i64_in (loc + 3) (by omega)
  have hw0 := IntWalk.i64_in base (by omega)
  have hwl := IntWalk.i64_in (loc + 2) (by omega)
  replace hP := hP.drew
  replace hK := hK.drew
  replace b1 := b1.drew
  go_region_held2 (fun w' => w'.cell? ⟨w.heap.size, 1, none⟩ = some (.int .i64 base) ∧ w'.cell? ⟨w.heap.size, 2, none⟩ = some (.int .i64 loc)) (first | go_keep | exact ⟨c_b1 1, c_b1 2⟩)
    (first
      | (go_at_call 152
         refine tstep hO hK (read_p B p S _ _ hP) (fun _ h => ⟨rfl, h⟩) ?_
         clear hO hK hP c_b1
         intro y S w1 hr hP hk hK hO
         replace b1 := b1.keep hk
         have c_b1 := b1.cells
         clear hk hr)
      | (go_at_call 128
         refine (get_p B p S (loc + 2) _ hP).mono ?_
         rintro e w' ⟨rfl, rfl⟩
         rw [run_gt] at hO
         generalize S.got (loc + 2) = g at hO ⊢))
  by_cases hy : y = g
  · rw [if_pos hy] at hO
    subst hy
    go_wp2_with fail
    refine (get_p B p S (loc + 3) _ hP).mono ?_
    rintro e w' ⟨rfl, rfl⟩
    rw [run_gt1] at hO
    generalize S.got (loc + 3) = z at hO ⊢
    go_wp2_with fail
    apply wp_goto
    refine ⟨rfl, ?_⟩
    go_wp2_with fail
    exact hO.done hP hK
  · rw [if_neg hy] at hO
    have hy2 : (y == g) = false := by rw [beq_eq_false_iff_ne]; exact hy
    go_wp2_with fail
    refine tstep hO hK (read_p B p S _ _ hP) (fun _ h => ⟨rfl, h⟩) ?_
    clear hO hK hP c_b1
    intro x S w1 hr hP hk hK hO
    replace b1 := b1.keep hk
    have c_b1 := b1.cells
    clear hk hr
    unfold trompR2 at hO
    clear hy2 hy
    go_wp2_with fail
    replace hP := hP.drew
    replace hK := hK.drew
    replace b1 := b1.drew
    go_region_held2 (fun w' => w'.cell? ⟨w.heap.size, 1, none⟩ = some (.int .i64 base) ∧ w'.cell? ⟨w.heap.size, 2, none⟩ = some (.int .i64 loc)) (first | go_keep | exact ⟨c_b1 1, c_b1 2⟩)
      (first
        | (go_at_call 152
           refine tstep hO hK (read_p B p S _ _ hP) (fun _ h => ⟨rfl, h⟩) ?_
           clear hO hK hP c_b1
           intro y S w1 hr hP hk hK hO
           replace b1 := b1.keep hk
           have c_b1 := b1.cells
           clear hk hr)
        | (go_at_call 128
           refine (get_p B p S (loc + 2) _ hP).mono ?_
           rintro e w' ⟨rfl, rfl⟩
           rw [run_gt] at hO
           generalize S.got (loc + 2) = g at hO ⊢))
    by_cases hy : y = g
    · rw [if_pos hy] at hO
      subst hy
      go_wp2_with fail
      unfold trompR3 at hO
      replace hP := hP.drew
      replace hK := hK.drew
      replace b1 := b1.drew
      go_region_held2 (fun w' => w'.cell? ⟨w.heap.size, 1, none⟩ = some (.int .i64 base) ∧ w'.cell? ⟨w.heap.size, 2, none⟩ = some (.int .i64 loc)) (first | go_keep | exact ⟨c_b1 1, c_b1 2⟩)
        (first
          | (go_at_call 152
             refine tstep hO hK (read_p B p S _ _ hP) (fun _ h => ⟨rfl, h⟩) ?_
             clear hO hK hP c_b1
             intro y S w1 hr hP hk hK hO
             replace b1 := b1.keep hk
             have c_b1 := b1.cells
             clear hk hr)
          | (go_at_call 123
             refine tstep hO hK (setO hP) (fun _ h => ⟨rfl, h⟩) ?_
             clear hO hK hP c_b1
             intro u S w1 hr hP hk hK hO
             replace b1 := b1.keep hk
             have c_b1 := b1.cells
             clear hk hr))
      go_wp2_with fail
      replace hP := hP.drew
      replace hK := hK.drew
      replace b1 := b1.drew
      go_region_held2 (fun w' => w'.cell? ⟨w.heap.size, 1, none⟩ = some (.int .i64 base) ∧ w'.cell? ⟨w.heap.size, 2, none⟩ = some (.int .i64 loc)) (first | go_keep | exact ⟨c_b1 1, c_b1 2⟩)
        (first
          | (go_at_call 152
             refine tstep hO hK (read_p B p S _ _ hP) (fun _ h => ⟨rfl, h⟩) ?_
             clear hO hK hP c_b1
             intro y S w1 hr hP hk hK hO
             replace b1 := b1.keep hk
             have c_b1 := b1.cells
             clear hk hr)
          | (go_at_call 128
             refine (get_p B p S (loc + 2) _ hP).mono ?_
             rintro e w' ⟨rfl, rfl⟩
             rw [run_gt] at hO
             generalize S.got (loc + 2) = g at hO ⊢))
      by_cases hy : y = g
      · rw [if_pos hy] at hO
        subst hy
        go_wp2_with fail
        refine (get_p B p S (loc + 3) _ hP).mono ?_
        rintro e w' ⟨rfl, rfl⟩
        rw [run_gt1] at hO
        generalize S.got (loc + 3) = z at hO ⊢
        go_wp2_with fail
        apply wp_goto
        refine ⟨rfl, ?_⟩
        go_wp2_with fail
        exact hO.done hP hK
      · rw [if_neg hy] at hO
        have hy2 : (y == g) = false := by rw [beq_eq_false_iff_ne]; exact hy
        go_wp2_with fail
        replace hP := hP.drew
        replace hK := hK.drew
        replace b1 := b1.drew
        go_region_held2 (fun w' => w'.cell? ⟨w.heap.size, 1, none⟩ = some (.int .i64 base) ∧ w'.cell? ⟨w.heap.size, 2, none⟩ = some (.int .i64 loc)) (first | go_keep | exact ⟨c_b1 1, c_b1 2⟩)
          (first
            | (go_at_call 152
               refine tstep hO hK (read_p B p S _ _ hP) (fun _ h => ⟨rfl, h⟩) ?_
               clear hO hK hP c_b1
               intro y S w1 hr hP hk hK hO
               replace b1 := b1.keep hk
               have c_b1 := b1.cells
               clear hk hr)
            | (go_at_call 123
               refine tstep hO hK (setO hP) (fun _ h => ⟨rfl, h⟩) ?_
               clear hO hK hP c_b1
               intro u S w1 hr hP hk hK hO
               replace b1 := b1.keep hk
               have c_b1 := b1.cells
               clear hk hr))
        go_wp2_with fail
        apply wp_goto
        refine ⟨rfl, ?_⟩
        go_wp2_with fail
        exact hO.done hP hK
    · rw [if_neg hy] at hO
      have hy2 : (y == g) = false := by rw [beq_eq_false_iff_ne]; exact hy
      go_wp2_with fail
      refine (get_p B p S (loc + 2) _ hP).mono ?_
      rintro e w' ⟨rfl, rfl⟩
      rw [run_gt] at hO
      generalize S.got (loc + 2) = t at hO ⊢
      go_wp2_with fail
      refine tstep hO hK (write_p B p S _ _ _ hP) (fun _ h => ⟨rfl, h⟩) ?_
      clear hO hK hP c_b1
      intro u S w1 hr hP hk hK hO
      replace b1 := b1.keep hk
      have c_b1 := b1.cells
      clear hk hr
      go_wp2_with fail
      refine tstep hO hK (setO hP) (fun _ h => ⟨rfl, h⟩) ?_
      clear hO hK hP c_b1
      intro u S w1 hr hP hk hK hO
      replace b1 := b1.keep hk
      have c_b1 := b1.cells
      clear hk hr
      clear hy2 hy
      go_wp2_with fail
      unfold trompR3 at hO
      replace hP := hP.drew
      replace hK := hK.drew
      replace b1 := b1.drew
      go_region_held2 (fun w' => w'.cell? ⟨w.heap.size, 1, none⟩ = some (.int .i64 base) ∧ w'.cell? ⟨w.heap.size, 2, none⟩ = some (.int .i64 loc)) (first | go_keep | exact ⟨c_b1 1, c_b1 2⟩)
        (first
          | (go_at_call 152
             refine tstep hO hK (read_p B p S _ _ hP) (fun _ h => ⟨rfl, h⟩) ?_
             clear hO hK hP c_b1
             intro y S w1 hr hP hk hK hO
             replace b1 := b1.keep hk
             have c_b1 := b1.cells
             clear hk hr)
          | (go_at_call 123
             refine tstep hO hK (setO hP) (fun _ h => ⟨rfl, h⟩) ?_
             clear hO hK hP c_b1
             intro u S w1 hr hP hk hK hO
             replace b1 := b1.keep hk
             have c_b1 := b1.cells
             clear hk hr))
      go_wp2_with fail
      replace hP := hP.drew
      replace hK := hK.drew
      replace b1 := b1.drew
      go_region_held2 (fun w' => w'.cell? ⟨w.heap.size, 1, none⟩ = some (.int .i64 base) ∧ w'.cell? ⟨w.heap.size, 2, none⟩ = some (.int .i64 loc)) (first | go_keep | exact ⟨c_b1 1, c_b1 2⟩)
        (first
          | (go_at_call 152
             refine tstep hO hK (read_p B p S _ _ hP) (fun _ h => ⟨rfl, h⟩) ?_
             clear hO hK hP c_b1
             intro y S w1 hr hP hk hK hO
             replace b1 := b1.keep hk
             have c_b1 := b1.cells
             clear hk hr)
          | (go_at_call 128
             refine (get_p B p S (loc + 2) _ hP).mono ?_
             rintro e w' ⟨rfl, rfl⟩
             rw [run_gt] at hO
             generalize S.got (loc + 2) = g at hO ⊢))
      by_cases hy : y = g
      · rw [if_pos hy] at hO
        subst hy
        go_wp2_with fail
        refine (get_p B p S (loc + 3) _ hP).mono ?_
        rintro e w' ⟨rfl, rfl⟩
        rw [run_gt1] at hO
        generalize S.got (loc + 3) = z at hO ⊢
        go_wp2_with fail
        apply wp_goto
        refine ⟨rfl, ?_⟩
        go_wp2_with fail
        exact hO.done hP hK
      · rw [if_neg hy] at hO
        have hy2 : (y == g) = false := by rw [beq_eq_false_iff_ne]; exact hy
        go_wp2_with fail
        replace hP := hP.drew
        replace hK := hK.drew
        replace b1 := b1.drew
        go_region_held2 (fun w' => w'.cell? ⟨w.heap.size, 1, none⟩ = some (.int .i64 base) ∧ w'.cell? ⟨w.heap.size, 2, none⟩ = some (.int .i64 loc)) (first | go_keep | exact ⟨c_b1 1, c_b1 2⟩)
          (first
            | (go_at_call 152
               refine tstep hO hK (read_p B p S _ _ hP) (fun _ h => ⟨rfl, h⟩) ?_
               clear hO hK hP c_b1
               intro y S w1 hr hP hk hK hO
               replace b1 := b1.keep hk
               have c_b1 := b1.cells
               clear hk hr)
            | (go_at_call 123
               refine tstep hO hK (setO hP) (fun _ h => ⟨rfl, h⟩) ?_
               clear hO hK hP c_b1
               intro u S w1 hr hP hk hK hO
               replace b1 := b1.keep hk
               have c_b1 := b1.cells
               clear hk hr))
        go_wp2_with fail
        apply wp_goto
        refine ⟨rfl, ?_⟩
        go_wp2_with fail
        exact hO.done hP hK
end Go.Proofs.YtpcohbpeglledaaGreat
/-
  Registers of the program: what a number out of four slots is made of.
-/
namespace Go.Proofs.YtpcohbpeglledaaGreat
open Go.RowKit Kv
theorem other_p (b : Int) (w : World) : Calls Tryz.prog 186 #[.int .i64 b] w fun e w' => e = .returned (.int .i64 (otherM b)) ∧ w = w' := by
  unfold otherM
  by_cases hb : b = 0
  · subst hb
    go_enter Tryz.func186, Tryz.ntmps186
    go_wp2_with fail
    go_ret
    exact ⟨rfl, rfl⟩
  · have hb2 : (b == 0) = false := by rw [beq_eq_false_iff_ne]; exact hb
    rw [if_neg hb]
    go_enter Tryz.func186, Tryz.ntmps186
    go_wp2_with fail
    go_ret
    exact ⟨rfl, rfl⟩
theorem same_p (b : Int) (w : World) : Calls Tryz.prog 201 #[.int .i64 b] w fun e w' => e = .returned (.int .i64 (bitM b)) ∧ w = w' := by
  have h := other_p b
  unfold otherM at h
  unfold bitM
  by_cases hb : b = 0
  · subst hb
    rw [if_pos rfl] at h
    rw [if_pos rfl]
    go_enter Tryz.func201, Tryz.ntmps201
    go_wp2_with fail
    refine (h _).mono ?_
    rintro e w' ⟨rfl, rfl⟩
    go_wp2_with fail
    go_ret
    exact ⟨rfl, rfl⟩
  · rw [if_neg hb] at h
    rw [if_neg hb]
    go_enter Tryz.func201, Tryz.ntmps201
    go_wp2_with fail
    refine (h _).mono ?_
    rintro e w' ⟨rfl, rfl⟩
    go_wp2_with fail
    go_ret
    exact ⟨rfl, rfl⟩
theorem index2_0 (w : World) : (Instr.index 156 (.agg #[.int .i64 0, .int .i64 1]) (.int .i64 0)).run Tryz.prog w = .ok (.int .i64 0) w := by kernel_rfl
theorem index2_1 (w : World) : (Instr.index 156 (.agg #[.int .i64 0, .int .i64 1]) (.int .i64 1)).run Tryz.prog w = .ok (.int .i64 1) w := by kernel_rfl
set_option maxRecDepth 100000 in
theorem slot_p (q : Int) (w : World) (h : q = 0 ∨ q = 1) : Calls Tryz.prog 189 #[.int .i64 q] w fun e w' => e = .returned (.int .i64 q) ∧ Ext w w' := by
  have h0 := index2_0
  have h1 := index2_1
  rcases h with rfl | rfl
  all_goals
    go_enter Tryz.func189, Tryz.ntmps189
    go_wp2_with fail
    go_ret
    exact ⟨rfl, Ext.refl _⟩
theorem sbit_p (r : Reg) (n : Int) (w : World) (hn : 0 ≤ n ∧ n ≤ 3) (hb1 : 0 ≤ r.base) (hb2 : r.base ≤ 60000) (hl1 : 0 ≤ r.loc) (hl2 : r.loc ≤ 60000) :
    Calls Tryz.prog 187 #[encR r, .int .i64 n] w fun e w' => e = .returned (encR { r with kind := 4, base := r.base + (4 + 3 * n), loc := r.loc + (2 + 4 * n), top := 1 }) ∧ Ext w w' := by
  obtain ⟨kind, base, loc, nn, wr, rd, top⟩ := r
  simp only at hb1 hb2 hl1 hl2
  unfold encR
  go_enter Tryz.func187, Tryz.ntmps187
  go_wp2_with fail
  refine bodyPost_ret (v := .agg #[.int .i64 4, .int .i64 (base + (4 + 3 * n)), .int .i64 (loc + (2 + 4 * n)), .int .i64 nn, .int .i64 wr, .int .i64 rd, .int .i64 1]) (by simp [results, Tryz.results187, go_sem]) rfl ?_
  exact ⟨rfl, ((Ext.refl _).alloc _).alloc _⟩
theorem scell_p (r : Reg) (q i : Int) (w : World) (hq : q = 0 ∨ q = 1) (hi : i = 0 ∨ i = 1) (hb1 : 0 ≤ r.base) (hb2 : r.base ≤ 60000) :
    Calls Tryz.prog 188 #[encR r, .int .i64 q, .int .i64 i] w fun e w' => e = .returned (.int .i64 (r.base + (2 * q + i))) ∧ Ext w w' := by
  obtain ⟨kind, base, loc, nn, wr, rd, top⟩ := r
  simp only at hb1 hb2
  unfold encR
  rcases hq with rfl | rfl <;> rcases hi with rfl | rfl
  all_goals
    go_enter Tryz.func188, Tryz.ntmps188
    go_wp2_with fail
    go_quiet (fail)
    go_wp2_with fail
    go_ret
    exact ⟨ret_int (by show _ = _; omega), (((Ext.refl _).alloc _).alloc _).drewN _⟩
end Go.Proofs.YtpcohbpeglledaaGreat
/-
  Registers of the program: a number out of four slots, written and read.
-/
namespace Go.Proofs.YtpcohbpeglledaaGreat
open Go.RowKit Kv
theorem other_01 (y : Int) : otherM y = 0 ∨ otherM y = 1 := by unfold otherM; split <;> simp
theorem bit_01 (y : Int) : bitM y = 0 ∨ bitM y = 1 := by unfold bitM; split <;> simp
set_option maxHeartbeats 2000000 in
theorem slots_write_p (B p : Nat) (S : TS) (r : Reg) (v : Int) (w : World) (h : Plays B w p S) (hb1 : 0 ≤ r.base) (hb2 : r.base ≤ 59000) (hl1 : 0 ≤ r.loc) (hl2 : r.loc ≤ 59000) :
    Calls Tryz.prog 149 #[.pointer (some ⟨p, 0, none⟩), encR r, .int .i64 v] w (Post encU B p w ((slotsW r.base r.loc v).run S)) := by
  generalize hR : Post encU B p w ((slotsW r.base r.loc v).run S) = R
  have hO : Owes R encU B p w ((slotsW r.base r.loc v).run S) := hR ▸ owes _ _ _ _ _
  clear hR
  obtain ⟨kind, base, loc, n, wr, rd, top⟩ := r
  simp only at hb1 hb2 hl1 hl2 hO
  unfold encR
  have hK := Keep.refl [2, 3, 4] B p w
  have hP := h
  have b1 := hP.held (.cells #[.int .i64 kind, .int .i64 base, .int .i64 loc, .int .i64 n, .int .i64 wr, .int .i64 rd, .int .i64 top] 77)
  replace hK := hK.trans (Keep.alloc (.cells #[.int .i64 kind, .int .i64 base, .int .i64 loc, .int .i64 n, .int .i64 wr, .int .i64 rd, .int .i64 top] 77) hP.lt hP.le)
  replace hP := hP.alloc (.cells #[.int .i64 kind, .int .i64 base, .int .i64 loc, .int .i64 n, .int .i64 wr, .int .i64 rd, .int .i64 top] 77)
  have c_b1 := b1.cells
  clear h
  unfold slotsW at hO
  go_enter Tryz.func149, Tryz.ntmps149
  go_wp2_with fail
  refine (sbit_p ⟨kind, base, loc, n, wr, rd, top⟩ 3 _ (by omega) hb1 (by simp only; omega) hl1 (by simp only; omega)).mono ?_
  rintro e w2 ⟨rfl, hx⟩
  clear c_b1
  replace hK := hK.trans (Keep.of_ext hx hP.lt hP.le)
  replace b1 := b1.ext hx hP.lt
  have c_b1 := b1.cells
  replace hP := hP.ext hx
  clear hx
  go_wp2_with fail
  refine tstep hO hK (tromp_read_p B p S ⟨4, base + 13, loc + 14, n, wr, rd, 1⟩ _ hP (by simp only; omega) (by simp only; omega) (by simp only; omega) (by simp only; omega)) (fun _ h => ⟨rfl, h⟩) ?_
  clear hO hK hP c_b1
  intro y S w1 hr hP hk hK hO
  replace b1 := b1.keep hk
  have c_b1 := b1.cells
  clear hk hr
  go_wp2_with fail
  refine (other_p y _).mono ?_
  rintro e w' ⟨rfl, rfl⟩
  have hq := other_01 y
  generalize otherM y = q at *
  have hq0 : 0 ≤ q ∧ q ≤ 1 := by omega
  go_wp2_with fail
  refine (get_p B p S (loc + q) _ hP).mono ?_
  rintro e w' ⟨rfl, rfl⟩
  rw [run_gt] at hO
  generalize S.got (loc + q) = z at hO ⊢
  go_wp2_with fail
  refine (other_p z _).mono ?_
  rintro e w' ⟨rfl, rfl⟩
  have hi := other_01 z
  generalize otherM z = i at *
  have hi0 : 0 ≤ i ∧ i ≤ 1 := by omega
  go_wp2_with fail
  refine (scell_p ⟨kind, base, loc, n, wr, rd, top⟩ q i _ hq hi hb1 (by simp only; omega)).mono ?_
  rintro e w2 ⟨rfl, hx⟩
  clear c_b1
  replace hK := hK.trans (Keep.of_ext hx hP.lt hP.le)
  replace b1 := b1.ext hx hP.lt
  have c_b1 := b1.cells
  replace hP := hP.ext hx
  clear hx
  go_wp2_with fail
  refine tstep hO hK (write_p B p S _ _ _ hP) (fun _ h => ⟨rfl, h⟩) ?_
  clear hO hK hP c_b1
  intro u S w1 hr hP hk hK hO
  replace b1 := b1.keep hk
  have c_b1 := b1.cells
  clear hk hr
  go_wp2_with fail
  refine tstep hO hK (setO hP) (fun _ h => ⟨rfl, h⟩) ?_
  clear hO hK hP c_b1
  intro u S w1 hr hP hk hK hO
  replace b1 := b1.keep hk
  have c_b1 := b1.cells
  clear hk hr
  go_wp2_with fail
  replace hP := hP.drew
  replace hK := hK.drew
  replace b1 := b1.drew
  go_region_held2 (fun w' => ∀ i : Nat, w'.cell? ⟨w.heap.size, i, none⟩ = (#[.int .i64 kind, .int .i64 base, .int .i64 loc, .int .i64 n, .int .i64 wr, .int .i64 rd, .int .i64 top] : Array Value)[i]?) (first | go_keep | exact c_b1)
    (first
      | (go_at_call 189
         refine (slot_p q _ hq).mono ?_
         rintro e w2 ⟨rfl, hx⟩
         clear c_b1
         replace hK := hK.trans (Keep.of_ext hx hP.lt hP.le)
         replace b1 := b1.ext hx hP.lt
         have c_b1 := b1.cells
         replace hP := hP.ext hx
         clear hx)
      | (go_at_call 187
         refine (sbit_p ⟨kind, base, loc, n, wr, rd, top⟩ q _ (by omega) hb1 (by simp only; omega) hl1 (by simp only; omega)).mono ?_
         rintro e w2 ⟨rfl, hx⟩
         clear c_b1
         replace hK := hK.trans (Keep.of_ext hx hP.lt hP.le)
         replace b1 := b1.ext hx hP.lt
         have c_b1 := b1.cells
         replace hP := hP.ext hx
         clear hx)
      | (go_at_call 148
         refine tstep hO hK (tromp_write_p B p S ⟨4, base + (4 + 3 * q), loc + (2 + 4 * q), n, wr, rd, 1⟩ i _ hP (by simp only; omega) (by simp only; omega) (by simp only; omega) (by simp only; omega)) (fun _ h => ⟨rfl, h⟩) ?_
         clear hO hK hP c_b1
         intro u S w1 hr hP hk hK hO
         replace b1 := b1.keep hk
         have c_b1 := b1.cells
         clear hk hr))
  go_wp2_with fail
  refine (sbit_p ⟨kind, base, loc, n, wr, rd, top⟩ 2 _ (by omega) hb1 (by simp only; omega) hl1 (by simp only; omega)).mono ?_
  rintro e w2 ⟨rfl, hx⟩
  clear c_b1
  replace hK := hK.trans (Keep.of_ext hx hP.lt hP.le)
  replace b1 := b1.ext hx hP.lt
  have c_b1 := b1.cells
  replace hP := hP.ext hx
  clear hx
  go_wp2_with fail
  refine tlast hO hK (tromp_write_p B p S ⟨4, base + 10, loc + 10, n, wr, rd, 1⟩ q _ hP (by simp only; omega) (by simp only; omega) (by simp only; omega) (by simp only; omega)) (fun _ h => ⟨rfl, h⟩) ?_
  clear hO hK hP c_b1
  intro u S w1 hr hP hk hK hO
  replace b1 := b1.keep hk
  have c_b1 := b1.cells
  clear hk hr
  go_wp2_with fail
  first | go_end0 | refine bodyPost_ret (results_none rfl _ _ _) rfl ?_
  exact hO.done hP hK
set_option maxHeartbeats 2000000 in
theorem slots_read_p (B p : Nat) (S : TS) (r : Reg) (w : World) (h : Plays B w p S) (hb1 : 0 ≤ r.base) (hb2 : r.base ≤ 59000) (hl1 : 0 ≤ r.loc) (hl2 : r.loc ≤ 59000) :
    Calls Tryz.prog 156 #[.pointer (some ⟨p, 0, none⟩), encR r] w (Post encI B p w ((slotsR r.base r.loc).run S)) := by
  generalize hR : Post encI B p w ((slotsR r.base r.loc).run S) = R
  have hO : Owes R encI B p w ((slotsR r.base r.loc).run S) := hR ▸ owes _ _ _ _ _
  clear hR
  obtain ⟨kind, base, loc, n, wr, rd, top⟩ := r
  simp only at hb1 hb2 hl1 hl2 hO
  unfold encR
  have hK := Keep.refl [2, 3, 4] B p w
  have hP := h
  have b1 := hP.held (.cells #[.int .i64 kind, .int .i64 base, .int .i64 loc, .int .i64 n, .int .i64 wr, .int .i64 rd, .int .i64 top] 77)
  replace hK := hK.trans (Keep.alloc (.cells #[.int .i64 kind, .int .i64 base, .int .i64 loc, .int .i64 n, .int .i64 wr, .int .i64 rd, .int .i64 top] 77) hP.lt hP.le)
  replace hP := hP.alloc (.cells #[.int .i64 kind, .int .i64 base, .int .i64 loc, .int .i64 n, .int .i64 wr, .int .i64 rd, .int .i64 top] 77)
  have c_b1 := b1.cells
  clear h
  unfold slotsR at hO
  go_enter Tryz.func156, Tryz.ntmps156
  go_wp2_with fail
  refine (sbit_p ⟨kind, base, loc, n, wr, rd, top⟩ 2 _ (by omega) hb1 (by simp only; omega) hl1 (by simp only; omega)).mono ?_
  rintro e w2 ⟨rfl, hx⟩
  clear c_b1
  replace hK := hK.trans (Keep.of_ext hx hP.lt hP.le)
  replace b1 := b1.ext hx hP.lt
  have c_b1 := b1.cells
  replace hP := hP.ext hx
  clear hx
  go_wp2_with fail
  refine tstep hO hK (tromp_read_p B p S ⟨4, base + 10, loc + 10, n, wr, rd, 1⟩ _ hP (by simp only; omega) (by simp only; omega) (by simp only; omega) (by simp only; omega)) (fun _ h => ⟨rfl, h⟩) ?_
  clear hO hK hP c_b1
  intro y S w1 hr hP hk hK hO
  replace b1 := b1.keep hk
  have c_b1 := b1.cells
  clear hk hr
  go_wp2_with fail
  refine (same_p y _).mono ?_
  rintro e w' ⟨rfl, rfl⟩
  have hq := bit_01 y
  generalize bitM y = q at *
  have hq0 : 0 ≤ q ∧ q ≤ 1 := by omega
  go_wp2_with fail
  refine (sbit_p ⟨kind, base, loc, n, wr, rd, top⟩ 3 _ (by omega) hb1 (by simp only; omega) hl1 (by simp only; omega)).mono ?_
  rintro e w2 ⟨rfl, hx⟩
  clear c_b1
  replace hK := hK.trans (Keep.of_ext hx hP.lt hP.le)
  replace b1 := b1.ext hx hP.lt
  have c_b1 := b1.cells
  replace hP := hP.ext hx
  clear hx
  go_wp2_with fail
  refine tstep hO hK (tromp_write_p B p S ⟨4, base + 13, loc + 14, n, wr, rd, 1⟩ q _ hP (by simp only; omega) (by simp only; omega) (by simp only; omega) (by simp only; omega)) (fun _ h => ⟨rfl, h⟩) ?_
  clear hO hK hP c_b1
  intro u S w1 hr hP hk hK hO
  replace b1 := b1.keep hk
  have c_b1 := b1.cells
  clear hk hr
  go_wp2_with fail
  replace hP := hP.drew
  replace hK := hK.drew
  replace b1 := b1.drew
  go_region_held2 (fun w' => ∀ i : Nat, w'.cell? ⟨w.heap.size, i, none⟩ = (#[.int .i64 kind, .int .i64 base, .int .i64 loc, .int .i64 n, .int .i64 wr, .int .i64 rd, .int .i64 top] : Array Value)[i]?) (first | go_keep | exact c_b1)
    (first
      | (go_at_call 189
         refine (slot_p q _ hq).mono ?_
         rintro e w2 ⟨rfl, hx⟩
         clear c_b1
         replace hK := hK.trans (Keep.of_ext hx hP.lt hP.le)
         replace b1 := b1.ext hx hP.lt
         have c_b1 := b1.cells
         replace hP := hP.ext hx
         clear hx)
      | (go_at_call 187
         refine (sbit_p ⟨kind, base, loc, n, wr, rd, top⟩ q _ (by omega) hb1 (by simp only; omega) hl1 (by simp only; omega)).mono ?_
         rintro e w2 ⟨rfl, hx⟩
         clear c_b1
         replace hK := hK.trans (Keep.of_ext hx hP.lt hP.le)
         replace b1 := b1.ext hx hP.lt
         have c_b1 := b1.cells
         replace hP := hP.ext hx
         clear hx)
      | (go_at_call 155
         refine tstep hO hK (tromp_read_p B p S ⟨4, base + (4 + 3 * q), loc + (2 + 4 * q), n, wr, rd, 1⟩ _ hP (by simp only; omega) (by simp only; omega) (by simp only; omega) (by simp only; omega)) (fun _ h => ⟨rfl, h⟩) ?_
         clear hO hK hP c_b1
         intro z S w1 hr hP hk hK hO
         replace b1 := b1.keep hk
         have c_b1 := b1.cells
         clear hk hr)
      | (go_at_call 201
         refine (same_p z _).mono ?_
         rintro e w' ⟨rfl, rfl⟩))
  have hi := bit_01 z
  generalize bitM z = i at *
  have hi0 : 0 ≤ i ∧ i ≤ 1 := by omega
  go_wp2_with fail
  refine (scell_p ⟨kind, base, loc, n, wr, rd, top⟩ q i _ hq hi hb1 (by simp only; omega)).mono ?_
  rintro e w2 ⟨rfl, hx⟩
  clear c_b1
  replace hK := hK.trans (Keep.of_ext hx hP.lt hP.le)
  replace b1 := b1.ext hx hP.lt
  have c_b1 := b1.cells
  replace hP := hP.ext hx
  clear hx
  go_wp2_with fail
  refine tlast hO hK (read_p B p S _ _ hP) (fun _ h => ⟨rfl, h⟩) ?_
  clear hO hK hP c_b1
  intro x S w1 hr hP hk hK hO
  replace b1 := b1.keep hk
  have c_b1 := b1.cells
  clear hk hr
  go_wp2_with fail
  exact hO.done hP hK
end Go.Proofs.YtpcohbpeglledaaGreat
/-
  Registers of the document: a number out of four slots.
-/
namespace Go.Proofs.YtpcohbpeglledaaGreat
open Go.RowKit Kv
theorem rbit_r (r : Reg) (n : Int) (w : World) (hn : 0 ≤ n ∧ n ≤ 3) (hb1 : 0 ≤ r.base) (hb2 : r.base ≤ 60000) (hl1 : 0 ≤ r.loc) (hl2 : r.loc ≤ 60000) :
    Calls Tryz.prog 206 #[encR r, .int .i64 n] w fun e w' => e = .returned (encR ⟨0, r.base + (4 + 3 * n), r.loc + (2 + 4 * n), 0, 0, 0, 0⟩) ∧ Ext w w' := by
  obtain ⟨kind, base, loc, nn, wr, rd, top⟩ := r
  simp only at hb1 hb2 hl1 hl2
  unfold encR
  simp only [← Int.add_assoc]
  go_enter Tryz.func206, Tryz.ntmps206
  go_wp2_with fail
  refine bodyPost_ret (v := .agg #[.int .i64 0, .int .i64 (base + 4 + 3 * n), .int .i64 (loc + 2 + 4 * n), .int .i64 0, .int .i64 0, .int .i64 0, .int .i64 0]) (by simp [results, Tryz.results206, go_sem]) rfl ?_
  exact ⟨rfl, ((Ext.refl _).alloc _).alloc _⟩
theorem other_bit (y : Int) : otherM y = 1 - bitM y := by unfold otherM bitM; split <;> rfl
set_option maxHeartbeats 2000000 in
theorem slots_write_r (B p : Nat) (o : Bool) (S : TS) (r : Reg) (v : Int) (w : World) (h : RAt B w p o S) (hb1 : 0 ≤ r.base) (hb2 : r.base ≤ 59000) (hl1 : 0 ≤ r.loc) (hl2 : r.loc ≤ 59000) :
    Calls Tryz.prog 163 #[.pointer (some ⟨p, 0, none⟩), encR r, .int .i64 v] w (RPost encU B p w (slotsW r.base r.loc v) o S) := by
  generalize hR : RPost encU B p w (slotsW r.base r.loc v) o S = R
  have hO : ROwes R encU B p w (slotsW r.base r.loc v) o S := hR ▸ rowes _ _ _ _ _ _ _
  clear hR
  obtain ⟨kind, base, loc, n, wr, rd, top⟩ := r
  simp only at hb1 hb2 hl1 hl2 hO
  unfold encR
  have hK := Keep.refl [3, 4, 5] B p w
  have hP := h
  have b1 := hP.held (.cells #[.int .i64 kind, .int .i64 base, .int .i64 loc, .int .i64 n, .int .i64 wr, .int .i64 rd, .int .i64 top] 77)
  replace hK := hK.trans (Keep.alloc (.cells #[.int .i64 kind, .int .i64 base, .int .i64 loc, .int .i64 n, .int .i64 wr, .int .i64 rd, .int .i64 top] 77) hP.lt hP.le)
  replace hP := hP.alloc (.cells #[.int .i64 kind, .int .i64 base, .int .i64 loc, .int .i64 n, .int .i64 wr, .int .i64 rd, .int .i64 top] 77)
  have c_b1 := b1.cells
  clear h
  unfold slotsW at hO
  go_enter Tryz.func163, Tryz.ntmps163
  go_wp2_with fail
  refine (rbit_r ⟨kind, base, loc, n, wr, rd, top⟩ 3 _ (by omega) hb1 (by simp only; omega) hl1 (by simp only; omega)).mono ?_
  rintro e w2 ⟨rfl, hx⟩
  clear c_b1
  replace hK := hK.trans (Keep.of_ext hx hP.lt hP.le)
  replace b1 := b1.ext hx hP.lt
  have c_b1 := b1.cells
  replace hP := hP.ext hx
  clear hx
  go_wp2_with fail
  refine rstep hO hK (tromp_read_r B p o S ⟨0, base + 13, loc + 14, 0, 0, 0, 0⟩ _ hP (by simp only; omega) (by simp only; omega) (by simp only; omega) (by simp only; omega)) ?_
  clear hO hK hP c_b1
  intro y o S w1 hP hk hK hO
  replace b1 := b1.keep hk
  have c_b1 := b1.cells
  clear hk
  simp only [other_bit] at hO
  have hq := bit_01 y
  go_wp2_with fail
  refine (bit_r y _).mono ?_
  rintro e w' ⟨rfl, rfl⟩
  generalize bitM y = q' at *
  have hw := IntWalk.i64_in (1 - q') (by omega)
  go_wp2_with fail
  generalize hq2 : 1 - q' = q at *
  have hq : 0 ≤ q ∧ q ≤ 1 := by omega
  clear hq2
  refine (get_r B p o S (loc + q) _ hP).mono ?_
  rintro e w' ⟨rfl, rfl⟩
  replace hO := hO.get
  generalize S.got (loc + q) = z at hO ⊢
  go_wp2_with fail
  have hi := bit_01 z
  refine (bit_r z _).mono ?_
  rintro e w' ⟨rfl, rfl⟩
  generalize bitM z = i' at *
  have hw2 := IntWalk.i64_in (1 - i') (by omega)
  go_wp2_with fail
  generalize hi2 : 1 - i' = i at *
  have hi : 0 ≤ i ∧ i ≤ 1 := by omega
  clear hi2
  rw [show base + (2 * q + i) = base + 2 * q + i from by omega] at hO
  go_wp2_with fail
  refine rstep hO hK (write_r B p o S _ _ _ hP) ?_
  clear hO hK hP c_b1
  intro u o S w1 hP hk hK hO
  replace b1 := b1.keep hk
  have c_b1 := b1.cells
  clear hk
  go_wp2_with fail
  refine rstep hO hK (set_r B p o S _ _ _ hP) ?_
  clear hO hK hP c_b1
  intro u o S w1 hP hk hK hO
  replace b1 := b1.keep hk
  have c_b1 := b1.cells
  clear hk
  go_wp2_with fail
  refine (rbit_r ⟨kind, base, loc, n, wr, rd, top⟩ q _ (by omega) hb1 (by simp only; omega) hl1 (by simp only; omega)).mono ?_
  rintro e w2 ⟨rfl, hx⟩
  clear c_b1
  replace hK := hK.trans (Keep.of_ext hx hP.lt hP.le)
  replace b1 := b1.ext hx hP.lt
  have c_b1 := b1.cells
  replace hP := hP.ext hx
  clear hx
  go_wp2_with fail
  refine rstep hO hK (tromp_write_r B p o S ⟨0, base + (4 + 3 * q), loc + (2 + 4 * q), 0, 0, 0, 0⟩ i _ hP (by simp only; omega) (by simp only; omega) (by simp only; omega) (by simp only; omega)) ?_
  clear hO hK hP c_b1
  intro u o S w1 hP hk hK hO
  replace b1 := b1.keep hk
  have c_b1 := b1.cells
  clear hk
  go_wp2_with fail
  refine (rbit_r ⟨kind, base, loc, n, wr, rd, top⟩ 2 _ (by omega) hb1 (by simp only; omega) hl1 (by simp only; omega)).mono ?_
  rintro e w2 ⟨rfl, hx⟩
  clear c_b1
  replace hK := hK.trans (Keep.of_ext hx hP.lt hP.le)
  replace b1 := b1.ext hx hP.lt
  have c_b1 := b1.cells
  replace hP := hP.ext hx
  clear hx
  go_wp2_with fail
  refine rlast hO hK (tromp_write_r B p o S ⟨0, base + 10, loc + 10, 0, 0, 0, 0⟩ q _ hP (by simp only; omega) (by simp only; omega) (by simp only; omega) (by simp only; omega)) ?_
  clear hO hK hP c_b1
  intro u o S w1 hP hk hK hO
  replace b1 := b1.keep hk
  have c_b1 := b1.cells
  clear hk
  go_wp2_with fail
  first | go_end0 | refine bodyPost_ret (results_none rfl _ _ _) rfl ?_
  exact hO.ret hP hK
set_option maxHeartbeats 2000000 in
theorem slots_read_r (B p : Nat) (o : Bool) (S : TS) (r : Reg) (w : World) (h : RAt B w p o S) (hb1 : 0 ≤ r.base) (hb2 : r.base ≤ 59000) (hl1 : 0 ≤ r.loc) (hl2 : r.loc ≤ 59000) :
    Calls Tryz.prog 170 #[.pointer (some ⟨p, 0, none⟩), encR r] w (RPost encI B p w (slotsR r.base r.loc) o S) := by
  generalize hR : RPost encI B p w (slotsR r.base r.loc) o S = R
  have hO : ROwes R encI B p w (slotsR r.base r.loc) o S := hR ▸ rowes _ _ _ _ _ _ _
  clear hR
  obtain ⟨kind, base, loc, n, wr, rd, top⟩ := r
  simp only at hb1 hb2 hl1 hl2 hO
  unfold encR
  have hK := Keep.refl [3, 4, 5] B p w
  have hP := h
  have b1 := hP.held (.cells #[.int .i64 kind, .int .i64 base, .int .i64 loc, .int .i64 n, .int .i64 wr, .int .i64 rd, .int .i64 top] 77)
  replace hK := hK.trans (Keep.alloc (.cells #[.int .i64 kind, .int .i64 base, .int .i64 loc, .int .i64 n, .int .i64 wr, .int .i64 rd, .int .i64 top] 77) hP.lt hP.le)
  replace hP := hP.alloc (.cells #[.int .i64 kind, .int .i64 base, .int .i64 loc, .int .i64 n, .int .i64 wr, .int .i64 rd, .int .i64 top] 77)
  have c_b1 := b1.cells
  clear h
  unfold slotsR at hO
  go_enter Tryz.func170, Tryz.ntmps170
  go_wp2_with fail
  refine (rbit_r ⟨kind, base, loc, n, wr, rd, top⟩ 2 _ (by omega) hb1 (by simp only; omega) hl1 (by simp only; omega)).mono ?_
  rintro e w2 ⟨rfl, hx⟩
  clear c_b1
  replace hK := hK.trans (Keep.of_ext hx hP.lt hP.le)
  replace b1 := b1.ext hx hP.lt
  have c_b1 := b1.cells
  replace hP := hP.ext hx
  clear hx
  go_wp2_with fail
  refine rstep hO hK (tromp_read_r B p o S ⟨0, base + 10, loc + 10, 0, 0, 0, 0⟩ _ hP (by simp only; omega) (by simp only; omega) (by simp only; omega) (by simp only; omega)) ?_
  clear hO hK hP c_b1
  intro y o S w1 hP hk hK hO
  replace b1 := b1.keep hk
  have c_b1 := b1.cells
  clear hk
  have hq := bit_01 y
  go_wp2_with fail
  refine (bit_r y _).mono ?_
  rintro e w' ⟨rfl, rfl⟩
  generalize bitM y = q at *
  go_wp2_with fail
  refine (rbit_r ⟨kind, base, loc, n, wr, rd, top⟩ 3 _ (by omega) hb1 (by simp only; omega) hl1 (by simp only; omega)).mono ?_
  rintro e w2 ⟨rfl, hx⟩
  clear c_b1
  replace hK := hK.trans (Keep.of_ext hx hP.lt hP.le)
  replace b1 := b1.ext hx hP.lt
  have c_b1 := b1.cells
  replace hP := hP.ext hx
  clear hx
  go_wp2_with fail
  refine rstep hO hK (tromp_write_r B p o S ⟨0, base + 13, loc + 14, 0, 0, 0, 0⟩ q _ hP (by simp only; omega) (by simp only; omega) (by simp only; omega) (by simp only; omega)) ?_
  clear hO hK hP c_b1
  intro u o S w1 hP hk hK hO
  replace b1 := b1.keep hk
  have c_b1 := b1.cells
  clear hk
  go_wp2_with fail
  refine (rbit_r ⟨kind, base, loc, n, wr, rd, top⟩ q _ (by omega) hb1 (by simp only; omega) hl1 (by simp only; omega)).mono ?_
  rintro e w2 ⟨rfl, hx⟩
  clear c_b1
  replace hK := hK.trans (Keep.of_ext hx hP.lt hP.le)
  replace b1 := b1.ext hx hP.lt
  have c_b1 := b1.cells
  replace hP := hP.ext hx
  clear hx
  go_wp2_with fail
  refine rstep hO hK (tromp_read_r B p o S ⟨0, base + (4 + 3 * q), loc + (2 + 4 * q), 0, 0, 0, 0⟩ _ hP (by simp only; omega) (by simp only; omega) (by simp only; omega) (by simp only; omega)) ?_
  clear hO hK hP c_b1
  intro z o S w1 hP hk hK hO
  replace b1 := b1.keep hk
  have c_b1 := b1.cells
  clear hk
  have hi := bit_01 z
  go_wp2_with fail
  refine (bit_r z _).mono ?_
  rintro e w' ⟨rfl, rfl⟩
  generalize bitM z = i at *
  rw [show base + (2 * q + i) = base + 2 * q + i from by omega] at hO
  have hq0 : 0 ≤ q ∧ q ≤ 1 := by omega
  have hi0 : 0 ≤ i ∧ i ≤ 1 := by omega
  go_wp2_with fail
  refine rlast hO hK (read_r B p o S _ _ hP) ?_
  clear hO hK hP c_b1
  intro x o S w1 hP hk hK hO
  replace b1 := b1.keep hk
  have c_b1 := b1.cells
  clear hk
  go_wp2_with fail
  exact hO.ret hP hK
end Go.Proofs.YtpcohbpeglledaaGreat
/-
  Registers of the document: who reads a table, and which numbers it is made of.
-/
namespace Kv
/-- The readers among the first so many threads. -/
def rdrs (wr : Int) : Nat → List Int
  | 0 => []
  | j + 1 => if (j : Int) = wr then rdrs wr j else rdrs wr j ++ [(j : Int)]
theorem rdrs_len (wr : Nat) : ∀ j : Nat, (rdrs wr j).length = if wr < j then j - 1 else j
  | 0 => by simp [rdrs]
  | j + 1 => by
    have h := rdrs_len wr j
    unfold rdrs
    by_cases e : j = wr
    · rw [if_pos (by omega), h, if_neg (by omega), if_pos (by omega)]; omega
    · rw [if_neg (by omega), List.length_append, h]
      simp only [List.length_singleton]
      by_cases e2 : wr < j
      · rw [if_pos e2, if_pos (by omega)]; omega
      · rw [if_neg e2, if_neg (by omega)]
theorem rdrs_at (wr : Nat) : ∀ j i : Nat, i < (rdrs wr j).length → (rdrs wr j).getD i 0 = if i < wr then (i : Int) else i + 1
  | 0, i, h => by simp [rdrs] at h
  | j + 1, i, h => by
    have hl := rdrs_len wr j
    unfold rdrs at h ⊢
    by_cases e : j = wr
    · rw [if_pos (by omega)] at h ⊢
      exact rdrs_at wr j i h
    · rw [if_neg (by omega)] at h ⊢
      rw [List.length_append, List.length_singleton] at h
      by_cases e2 : i < (rdrs wr j).length
      · rw [← rdrs_at wr j i e2]
        simp [List.getD, List.getElem?_append, e2]
      · obtain rfl : i = (rdrs wr j).length := by omega
        simp only [List.getD_eq_getElem?_getD, List.getElem?_append, Nat.lt_irrefl, if_false, Nat.sub_self]
        show (j : Int) = _
        rw [hl]
        by_cases e3 : wr < j
        · rw [if_pos e3, if_neg (by omega)]; omega
        · rw [if_neg e3, if_pos (by omega)]
end Kv
namespace Go.Proofs.YtpcohbpeglledaaGreat
open Go.RowKit Kv
/-- A block as it lies. -/
def Blk (w : World) (b : Nat) (o : Obj) : Prop := w.heap[b]? = some o
theorem Blk.lt {w : World} {b : Nat} {o : Obj} (h : Blk w b o) : b < w.heap.size := (Array.getElem?_eq_some_iff.1 h).1
theorem Blk.new (w : World) (o : Obj) : Blk (w.alloc o) w.heap.size o := heap_alloc_new w o
theorem Blk.ext {w w' : World} {b : Nat} {o : Obj} (h : Blk w b o) (hx : Ext w w') : Blk w' b o := (Below.block hx b (Array.getElem?_eq_some_iff.1 h).1).trans h
theorem Blk.alloc {w : World} {b : Nat} {o : Obj} (h : Blk w b o) (o' : Obj) : Blk (w.alloc o') b o := h.ext ((Ext.refl w).alloc o')
theorem Blk.drew {w : World} {b : Nat} {o : Obj} (h : Blk w b o) : Blk w.drew b o := h
theorem Blk.cells {w : World} {b : Nat} {cs : Array Value} {t : TypeId} {fz : Nat × Nat} (h : Blk w b (.cells cs t fz)) (i : Nat) : w.cell? ⟨b, i, none⟩ = cs[i]? := cell_of_heap h i
theorem rn_r (r : Reg) (w : World) (h1 : 1 ≤ r.n) (h2 : r.n ≤ 8) : Calls Tryz.prog 81 #[encR r] w fun e w' => e = .returned (.int .i64 r.n) ∧ Ext w w' := by
  obtain ⟨kind, base, loc, n, wr, rd, top⟩ := r
  simp only at h1 h2
  have hc : clamp n 8 = n := by unfold clamp within; omega
  have hx := Lib.hid ((Ext.refl w).alloc (.cells #[.int .i64 kind, .int .i64 base, .int .i64 loc, .int .i64 n, .int .i64 wr, .int .i64 rd, .int .i64 top] 77))
  unfold encR
  go_enter Tryz.func81, Tryz.ntmps81
  go_wp2_with fail
  refine (clamp_r _ _ _).mono ?_
  rintro e w' ⟨rfl, rfl⟩
  rw [hc]
  go_wp2_with fail
  go_ret
  exact ⟨rfl, hx.out⟩
theorem rwriter_r (r : Reg) (w : World) (h1 : 1 ≤ r.n) (h2 : r.n ≤ 8) (h3 : 0 ≤ r.wr) (h4 : r.wr < r.n) : Calls Tryz.prog 207 #[encR r] w fun e w' => e = .returned (.int .i64 r.wr) ∧ Ext w w' := by
  obtain ⟨kind, base, loc, n, wr, rd, top⟩ := r
  simp only at h1 h2 h3 h4
  unfold encR
  have hX := Ext.refl w
  have b1 := Blk.new w (.cells #[.int .i64 kind, .int .i64 base, .int .i64 loc, .int .i64 n, .int .i64 wr, .int .i64 rd, .int .i64 top] 77)
  replace hX := hX.alloc (.cells #[.int .i64 kind, .int .i64 base, .int .i64 loc, .int .i64 n, .int .i64 wr, .int .i64 rd, .int .i64 top] 77)
  have c_b1 := b1.cells
  go_enter Tryz.func207, Tryz.ntmps207
  go_wp2_with fail
  replace hX := hX.drew
  replace b1 := b1.drew
  go_region_held2 (fun w' => ∀ i : Nat, w'.cell? ⟨w.heap.size, i, none⟩ = (#[.int .i64 kind, .int .i64 base, .int .i64 loc, .int .i64 n, .int .i64 wr, .int .i64 rd, .int .i64 top] : Array Value)[i]?) (first | exact c_b1 | go_keep)
    (first
      | (go_at_call 81
         refine (rn_r ⟨kind, base, loc, n, wr, rd, top⟩ _ h1 h2).mono ?_
         rintro e w2 ⟨rfl, hx⟩
         clear c_b1
         replace b1 := b1.ext hx
         have c_b1 := b1.cells
         replace hX := hX.trans hx
         clear hx))
  go_wp2_with fail
  go_ret
  exact ⟨rfl, hX⟩
theorem rnumber_r (r : Reg) (k : Int) (w : World) (h1 : 0 ≤ k ∧ k ≤ 60) (hb1 : 0 ≤ r.base) (hb2 : r.base ≤ 56000) (hl1 : 0 ≤ r.loc) (hl2 : r.loc ≤ 56000) :
    Calls Tryz.prog 210 #[encR r, .int .i64 k] w fun e w' => e = .returned (encR ⟨0, r.base + 16 * k, r.loc + (2 + 18 * k), 0, 0, 0, 0⟩) ∧ Ext w w' := by
  obtain ⟨kind, base, loc, n, wr, rd, top⟩ := r
  simp only at hb1 hb2 hl1 hl2
  unfold encR
  simp only [← Int.add_assoc]
  go_enter Tryz.func210, Tryz.ntmps210
  go_wp2_with fail
  refine bodyPost_ret (v := .agg #[.int .i64 0, .int .i64 (base + 16 * k), .int .i64 (loc + 2 + 18 * k), .int .i64 0, .int .i64 0, .int .i64 0, .int .i64 0]) (by simp [results, Tryz.results210, go_sem]) rfl ?_
  exact ⟨rfl, ((Ext.refl _).alloc _).alloc _⟩
end Go.Proofs.YtpcohbpeglledaaGreat
/-
  What comes out of a played operation, on both sides (plain), and the document's Out.
-/
namespace Kv
theorem shortN_zero (L : List Int) : ∀ n i, shortN L n ≤ i → i < n → L.getD i 0 = 0
  | 0, i, _, h => absurd h (Nat.not_lt_zero i)
  | n + 1, i, h1, h2 => by
    unfold shortN at h1
    split at h1
    · rename_i e
      by_cases hi : i = n
      · rw [hi]; exact e
      · exact shortN_zero L n i h1 (by omega)
    · omega
theorem shortN_last (L : List Int) : ∀ n, shortN L n = 0 ∨ L.getD (shortN L n - 1) 0 ≠ 0
  | 0 => .inl rfl
  | n + 1 => by
    unfold shortN
    split
    · exact shortN_last L n
    · rename_i e; exact .inr e
theorem shortL_zero (L : List Int) (i : Nat) (h : shortN L L.length ≤ i) : L.getD i 0 = 0 := by
  by_cases hi : i < L.length
  · exact shortN_zero L _ i h hi
  · simp [List.getD, List.getElem?_eq_none (show L.length ≤ i by omega)]
theorem shortN_eq {L L' : List Int} (h : ∀ i, L.getD i 0 = L'.getD i 0) : shortN L L.length = shortN L' L'.length := by
  have a := shortN_last L L.length
  have b := shortN_last L' L'.length
  have a2 := shortL_zero L
  have b2 := shortL_zero L'
  generalize shortN L L.length = N at *
  generalize shortN L' L'.length = N' at *
  rcases Nat.lt_trichotomy N N' with e | e | e
  · rcases b with b | b
    · omega
    · exact absurd ((h _).symm.trans (a2 (N' - 1) (by omega))) b
  · exact e
  · rcases a with a | a
    · omega
    · exact absurd ((h _).trans (b2 (N - 1) (by omega))) a
/-- Lists of the same locals are the same, cut short. -/
theorem shortL_eq {L L' : List Int} (h : ∀ i, L.getD i 0 = L'.getD i 0) : shortL L = shortL L' := by
  have e := shortN_eq h
  have l1 := shortN_le L L.length
  have l2 := shortN_le L' L'.length
  unfold shortL
  apply List.ext_getElem?
  intro i
  rw [List.getElem?_take, List.getElem?_take, e]
  split
  · rename_i hi
    have hh := h i
    rw [List.getD_eq_getElem?_getD, List.getD_eq_getElem?_getD] at hh
    rw [List.getElem?_eq_getElem (show i < L.length by omega), List.getElem?_eq_getElem (show i < L'.length by omega)] at hh ⊢
    simpa using hh
  · rfl
/-- What the document's way comes to is what the program's comes to. -/
theorem Ref.outcome {α : Type} {p : Prog α} {S S' : TS} {a : α} {o : Bool} (h : Ref p false S a o S') : p.run S = (if o then none else some a, S') := by
  cases h with
  | done h => exact h
  | stop _ h => exact h
end Kv
namespace Go.Proofs.YtpcohbpeglledaaGreat
open Go.RowKit Kv
theorem out_r (B p : Nat) (o : Bool) (S : TS) (w : World) (h : RAt B w p o S) :
    Calls Tryz.prog 23 #[.pointer (some ⟨p, 0, none⟩)] w fun e w' => ∃ vC vN vs L, e = .returned (.agg #[.bool (!o), vC, vN, vs]) ∧ w'.ownsRow B 92 3 vC S.acc.length (accVals S.acc) ∧ w'.ownsRow B 94 2 vN S.nts.length (ntVals S.nts) ∧ Ints w' vs (shortL L) ∧ LocIs L S.loc ∧ L.length ≤ 32768 ∧ Ext w w' := by
  obtain ⟨n, vA, vC, vN, vL, L, h, -⟩ := h
  have hc := cell_of_heap h.heap
  have hI : Ints w vL L := IntRow.ints h.rowL
  obtain ⟨Ac, cc, hvC⟩ : ∃ A c, vC = .slice A S.acc.length c := by
    rcases h.rowC.2 with ⟨rfl, h0⟩ | ⟨g, cap, cur, rfl, _⟩
    · exact ⟨none, 0, by rw [h0]⟩
    · exact ⟨_, _, rfl⟩
  obtain ⟨An, cn, hvN⟩ : ∃ A c, vN = .slice A S.nts.length c := by
    rcases h.rowN.2 with ⟨rfl, h0⟩ | ⟨g, cap, cur, rfl, _⟩
    · exact ⟨none, 0, by rw [h0]⟩
    · exact ⟨_, _, rfl⟩
  subst hvC hvN
  obtain ⟨As, cs, rfl, hs1, hs2⟩ := hI.slice
  have hlt := h.lt
  have hh := Lib.hid h
  clear h
  have hX := Ext.refl w
  have b1 := Blk.new w (.cells #[.bool false, .slice none 0 0, .slice none 0 0, .slice none 0 0] 36)
  replace hX := hX.alloc (.cells #[.bool false, .slice none 0 0, .slice none 0 0, .slice none 0 0] 36)
  have c_b1 := b1.cells
  have hc1 : ∀ i, (w.alloc (.cells #[.bool false, .slice none 0 0, .slice none 0 0, .slice none 0 0] 36)).cell? ⟨p, i, none⟩ = (#[vA, .int .i64 n, .bool o, .slice Ac S.acc.length cc, .slice An S.nts.length cn, .slice As L.length cs] : Array Value)[i]? := fun i => (hX.cell (p := ⟨p, i, none⟩) hlt).trans (hc i)
  have f_b1 := frozen_of_heap b1
  have hc2 : Hid (∀ (O' : Obj) (i : Nat), (w.alloc O').drew.cell? ⟨p, i, none⟩ = (#[vA, .int .i64 n, .bool o, .slice Ac S.acc.length cc, .slice An S.nts.length cn, .slice As L.length cs] : Array Value)[i]?) := Lib.hid fun O' i => (((Ext.refl w).alloc O').drew.cell (p := ⟨p, i, none⟩) hlt).trans (hc i)
  clear hc
  go_enter Tryz.func23, Tryz.ntmps23
  go_wp2_with fail
  replace hX := hX.drew
  replace b1 := b1.drew
  have hIh : Hid (∀ w', Ext w w' → Ints w' (.slice As L.length cs) L) := Lib.hid (fun w' hx => hI.ext hx)
  clear hI
  go_region_held2 (fun w' => ∀ i, w'.cell? ⟨p, i, none⟩ = (#[vA, .int .i64 n, .bool o, .slice Ac S.acc.length cc, .slice An S.nts.length cn, .slice As L.length cs] : Array Value)[i]?) (first | with_reducible exact hc1 | with_reducible exact hc2.out _ | go_keep)
    (first
      | (go_at_call 93
         refine (short_at As cs L _ (hIh.out _ hX) hs1 hs2).mono ?_
         rintro e w' ⟨rfl, rfl⟩))
  go_wp2_with fail
  have hX' : ∀ O', Ext w (w.alloc O').drew := fun O' => ((Ext.refl w).alloc O').drew
  refine bodyPost_ret (v := .agg #[.bool (!o), .slice Ac S.acc.length cc, .slice An S.nts.length cn, .slice As (shortN L L.length) cs]) (by simp [results, Tryz.results23, go_sem]) rfl ?_
  exact ⟨_, _, _, L, rfl, row_ext hh.out.rowC (hX' _), row_ext hh.out.rowN (hX' _), shortL_ints (hIh.out _ (hX' _)), hh.out.loc, hh.out.locN, hX' _⟩
end Go.Proofs.YtpcohbpeglledaaGreat
/-
  What comes out of a played operation, as a value that can be read: its accesses, notes and locals.
-/
namespace Go.Proofs.YtpcohbpeglledaaGreat
open Go.RowKit Kv
/-- A row of values from the head of a block on. -/
def Vals (w : World) (A : Option Addr) (vals : List Value) : Prop := vals ≠ [] → ∃ b, A = some ⟨b, 0, none⟩ ∧ b < w.heap.size ∧ ∀ i u, vals[i]? = some u → w.cell? ⟨b, i, none⟩ = some u
theorem Vals.ext {w w' : World} {A : Option Addr} {vals : List Value} (h : Vals w A vals) (hx : Ext w w') : Vals w' A vals := by
  intro hne
  obtain ⟨b, rfl, hb, hc⟩ := h hne
  exact ⟨b, rfl, Nat.lt_of_lt_of_le hb hx.size, fun i u hu => (hx.cell (p := ⟨b, i, none⟩) hb).trans (hc i u hu)⟩
/-- A row that is owned can be read. -/
theorem vals_row {w : World} {B e size n : Nat} {v : Value} {xs : List Value} (h : w.ownsRow B e size v n xs) : ∃ A c, v = .slice A n c ∧ n ≤ c ∧ c ≤ 9223372036854775807 ∧ Vals w A xs := by
  have h' := h
  obtain ⟨hl, h2⟩ := h
  rcases h2 with ⟨rfl, h0⟩ | ⟨g, cap, cur, rfl, hg, hh, hn, hm, hs, ht⟩
  · subst h0
    refine ⟨none, 0, rfl, Nat.le_refl _, by omega, fun hne => absurd ?_ hne⟩
    simpa using hl
  · refine ⟨_, _, rfl, hn, by unfold maxLen at hm; exact hm, fun _ => ⟨g, rfl, (Array.getElem?_eq_some_iff.1 hh).1, fun i u hi => ?_⟩⟩
    have hc := World.ownsRow.cells h' (g := g) rfl i u hi
    rw [Addr.add_lit, Nat.zero_add] at hc
    exact hc
theorem accVals_len (l : List Acc) : (accVals l).length = 3 * l.length := by
  induction l with
  | nil => rfl
  | cons a l ih => rw [show accVals (a :: l) = [.int .i64 a.kind, .int .i64 a.cell, .int .i64 a.val] ++ accVals l from rfl, List.length_append, ih]; simp; omega
theorem ntVals_len (l : List Nt) : (ntVals l).length = 2 * l.length := by
  induction l with
  | nil => rfl
  | cons a l ih => rw [show ntVals (a :: l) = [.int .i64 a.kind, .int .i64 a.pos] ++ ntVals l from rfl, List.length_append, ih]; simp; omega
theorem accVals_at : ∀ (l : List Acc) (i : Nat) (a : Acc), l[i]? = some a → (accVals l)[3 * i]? = some (.int .i64 a.kind) ∧ (accVals l)[3 * i + 1]? = some (.int .i64 a.cell) ∧ (accVals l)[3 * i + 2]? = some (.int .i64 a.val)
  | [], i, a, h => by simp at h
  | x :: l, 0, a, h => by
    obtain rfl : x = a := by simpa using h
    exact ⟨rfl, rfl, rfl⟩
  | x :: l, i + 1, a, h => by
    have := accVals_at l i a (by simpa using h)
    rw [show accVals (x :: l) = [.int .i64 x.kind, .int .i64 x.cell, .int .i64 x.val] ++ accVals l from rfl]
    refine ⟨?_, ?_, ?_⟩
    · rw [List.getElem?_append_right (by simp; omega)]; simpa [show 3 * (i + 1) - 3 = 3 * i by omega] using this.1
    · rw [List.getElem?_append_right (by simp; omega)]; simpa [show 3 * (i + 1) + 1 - 3 = 3 * i + 1 by omega] using this.2.1
    · rw [List.getElem?_append_right (by simp; omega)]; simpa [show 3 * (i + 1) + 2 - 3 = 3 * i + 2 by omega] using this.2.2
theorem ntVals_at : ∀ (l : List Nt) (i : Nat) (a : Nt), l[i]? = some a → (ntVals l)[2 * i]? = some (.int .i64 a.kind) ∧ (ntVals l)[2 * i + 1]? = some (.int .i64 a.pos)
  | [], i, a, h => by simp at h
  | x :: l, 0, a, h => by
    obtain rfl : x = a := by simpa using h
    exact ⟨rfl, rfl⟩
  | x :: l, i + 1, a, h => by
    have := ntVals_at l i a (by simpa using h)
    rw [show ntVals (x :: l) = [.int .i64 x.kind, .int .i64 x.pos] ++ ntVals l from rfl]
    refine ⟨?_, ?_⟩
    · rw [List.getElem?_append_right (by simp; omega)]; simpa [show 2 * (i + 1) - 2 = 2 * i by omega] using this.1
    · rw [List.getElem?_append_right (by simp; omega)]; simpa [show 2 * (i + 1) + 1 - 2 = 2 * i + 1 by omega] using this.2
/-- Accesses that can be read at an address. -/
def AccAt (w : World) (A : Option Addr) (l : List Acc) : Prop := Vals w A (accVals l)
def NtAt (w : World) (A : Option Addr) (l : List Nt) : Prop := Vals w A (ntVals l)
theorem AccAt.at_ {w : World} {A : Option Addr} {l : List Acc} (h : AccAt w A l) {i : Nat} {a : Acc} (hi : l[i]? = some a) :
    ∃ b, A = some ⟨b, 0, none⟩ ∧ b < w.heap.size ∧ w.cell? ⟨b, i * 3, none⟩ = some (.int .i64 a.kind) ∧ w.cell? ⟨b, i * 3 + 1, none⟩ = some (.int .i64 a.cell) ∧ w.cell? ⟨b, i * 3 + 2, none⟩ = some (.int .i64 a.val) := by
  obtain ⟨h0, h1, h2⟩ := accVals_at l i a hi
  obtain ⟨b, rfl, hb, hc⟩ := h (fun e => by rw [e] at h0; simp at h0)
  rw [Nat.mul_comm i 3]
  exact ⟨b, rfl, hb, hc _ _ h0, hc _ _ h1, hc _ _ h2⟩
theorem NtAt.at_ {w : World} {A : Option Addr} {l : List Nt} (h : NtAt w A l) {i : Nat} {a : Nt} (hi : l[i]? = some a) :
    ∃ b, A = some ⟨b, 0, none⟩ ∧ b < w.heap.size ∧ w.cell? ⟨b, i * 2, none⟩ = some (.int .i64 a.kind) ∧ w.cell? ⟨b, i * 2 + 1, none⟩ = some (.int .i64 a.pos) := by
  obtain ⟨h0, h1⟩ := ntVals_at l i a hi
  obtain ⟨b, rfl, hb, hc⟩ := h (fun e => by rw [e] at h0; simp at h0)
  rw [Nat.mul_comm i 2]
  exact ⟨b, rfl, hb, hc _ _ h0, hc _ _ h1⟩
/-- An Out: done or not, so many accesses, notes and locals. -/
structure OutIs (w : World) (d : Bool) (S : TS) (A : Option Addr) (c : Nat) (A' : Option Addr) (c' : Nat) (vs : Value) (L : List Int) : Prop where
  accs : AccAt w A S.acc
  nts : NtAt w A' S.nts
  locs : Ints w vs (shortL L)
  is : LocIs L S.loc
  len : L.length ≤ 32768
  accc : S.acc.length ≤ c ∧ c ≤ 9223372036854775807
  ntsc : S.nts.length ≤ c' ∧ c' ≤ 9223372036854775807
def outV (d : Bool) (S : TS) (A : Option Addr) (c : Nat) (A' : Option Addr) (c' : Nat) (vs : Value) : Value := .agg #[.bool d, .slice A S.acc.length c, .slice A' S.nts.length c', vs]
theorem OutIs.ext {w w' : World} {d : Bool} {S : TS} {A : Option Addr} {c : Nat} {A' : Option Addr} {c' : Nat} {vs : Value} {L : List Int} (h : OutIs w d S A c A' c' vs L) (hx : Ext w w') : OutIs w' d S A c A' c' vs L :=
  { h with accs := Vals.ext h.accs hx, nts := Vals.ext h.nts hx, locs := h.locs.ext hx }
/-- The value v is the Out of d and S. -/
def Outs (w : World) (v : Value) (d : Bool) (S : TS) : Prop := ∃ A c A' c' vs L, v = outV d S A c A' c' vs ∧ OutIs w d S A c A' c' vs L
theorem Outs.ext {w w' : World} {v : Value} {d : Bool} {S : TS} (h : Outs w v d S) (hx : Ext w w') : Outs w' v d S := by
  obtain ⟨A, c, A', c', vs, L, rfl, h⟩ := h
  exact ⟨A, c, A', c', vs, L, rfl, h.ext hx⟩
theorem outs_of {w : World} {B : Nat} {d : Bool} {S : TS} {vC vN vs : Value} {L : List Int} (h1 : w.ownsRow B 92 3 vC S.acc.length (accVals S.acc)) (h2 : w.ownsRow B 94 2 vN S.nts.length (ntVals S.nts)) (h3 : Ints w vs (shortL L)) (h4 : LocIs L S.loc) (h5 : L.length ≤ 32768) :
    Outs w (.agg #[.bool d, vC, vN, vs]) d S := by
  obtain ⟨A, c, rfl, q1, q2, q3⟩ := vals_row h1
  obtain ⟨A', c', rfl, r1, r2, r3⟩ := vals_row h2
  exact ⟨A, c, A', c', vs, L, rfl, q3, r3, h3, h4, h5, ⟨q1, q2⟩, ⟨r1, r2⟩⟩
theorem dout_r (B p : Nat) (o : Bool) (S : TS) (w : World) (h : RAt B w p o S) :
    Calls Tryz.prog 23 #[.pointer (some ⟨p, 0, none⟩)] w fun e w' => ∃ v, e = .returned v ∧ Outs w' v (!o) S ∧ Ext w w' :=
  (out_r B p o S w h).mono fun _ _ ⟨_, _, _, _, he, h1, h2, h3, h4, h5, hx⟩ => ⟨_, he, outs_of h1 h2 h3 h4 h5, hx⟩
end Go.Proofs.YtpcohbpeglledaaGreat
/-
  Plain mathematics: operations that ask for an access at least; what is left of the answers.
-/
namespace Kv
/-- An operation that asks for an access on each way. -/
inductive Prog.Asks {α : Type} : Prog α → Prop
  | read (c : Int) (k : Int → Prog α) : Asks (.read c k)
  | write (c v : Int) (k : Unit → Prog α) : Asks (.write c v k)
  | get (i : Int) {k : Int → Prog α} : (∀ x, Asks (k x)) → Asks (.get i k)
  | set (i v : Int) {k : Unit → Prog α} : Asks (k ()) → Asks (.set i v k)
  | note (m : Int) {k : Unit → Prog α} : Asks (k ()) → Asks (.note m k)
theorem Prog.Asks.bind {α β : Type} {p : Prog α} (h : p.Asks) (f : α → Prog β) : (p.bind f).Asks := by
  induction h with
  | read c k => exact .read _ _
  | write c v k => exact .write _ _ _
  | get i _ ih => exact .get i fun x => ih x
  | set i v _ ih => exact .set i v ih
  | note m _ ih => exact .note m ih
theorem Prog.Asks.then {α β : Type} {f : α → Prog β} (h : ∀ a, (f a).Asks) : ∀ p : Prog α, (p.bind f).Asks
  | .ret a => h a
  | .read _ _ => .read _ _
  | .write _ _ _ => .write _ _ _
  | .get i k => .get i fun x => Asks.then h (k x)
  | .set i v k => .set i v (Asks.then h (k ()))
  | .note m k => .note m (Asks.then h (k ()))
theorem Prog.run_len {α : Type} (p : Prog α) (S : TS) : S.acc.length ≤ (p.run S).2.acc.length := by
  obtain ⟨l, h⟩ := Prog.run_acc p S
  rw [h]; simp
/-- Behind such an operation there is an access more. -/
theorem Prog.Asks.run {α : Type} {p : Prog α} (h : p.Asks) : ∀ S : TS, S.acc.length < (p.run S).2.acc.length := by
  induction h with
  | read c k =>
    intro S
    simp only [Prog.run]
    cases S.next with
    | none => simp [TS.put]
    | some v => have := Prog.run_len (k v) (S.put ⟨1, c, 0⟩); simp [TS.put] at this ⊢; omega
  | write c v k =>
    intro S
    simp only [Prog.run]
    cases S.next with
    | none => simp [TS.put]
    | some _ => have := Prog.run_len (k ()) (S.put ⟨2, c, v⟩); simp [TS.put] at this ⊢; omega
  | get i _ ih => intro S; exact ih _ _
  | set i v _ ih => intro S; have := ih (S.upd i v); rw [TS.upd_acc] at this; exact this
  | note m _ ih => intro S; exact ih (S.noted m)
/-- How many answers are left. -/
def TS.left (S : TS) : Nat := S.ans.length - S.acc.length
theorem Prog.run_left {α : Type} (p : Prog α) (S : TS) : (p.run S).2.left ≤ S.left := by
  have h1 := Prog.run_ans p S
  have h2 := Prog.run_len p S
  unfold TS.left
  rw [h1]; omega
theorem Prog.Asks.left {α : Type} {p : Prog α} (h : p.Asks) {S S1 : TS} {a : α} (hr : p.run S = (some a, S1)) (hl : S1.acc.length ≤ S1.ans.length) : S1.left < S.left := by
  have h1 := Prog.run_ans p S
  have h2 := h.run S
  rw [hr] at h1 h2
  simp only at h1 h2
  unfold TS.left
  rw [← h1]; omega
theorem asks_rd (c : Int) : (rd c).Asks := .read _ _
theorem asks_wr (c v : Int) : (wr c v).Asks := .write _ _ _
theorem asks_trompR (b l : Int) : (trompR b l).Asks := (asks_rd _).bind _
theorem asks_slotsR (b l : Int) : (slotsR b l).Asks := (asks_trompR _ _).bind _
theorem asks_slotsW (b l v : Int) : (slotsW b l v).Asks := (asks_trompR _ _).bind _
theorem asks_tableR (b l n w top me : Int) (h : me ≠ w) : (tableR b l n w top me).Asks := by
  unfold tableR
  rw [if_neg h]
  exact (asks_slotsR _ _).bind _
theorem asks_manyRs (b l n top me : Int) (k : Nat) (j s v : Int) : (manyRs b l n top me (k + 2) j s v).Asks := by
  by_cases h : me = j
  · unfold manyRs
    refine Prog.Asks.then (fun y => ?_) _
    split
    · exact (asks_tableR _ _ _ _ _ _ (by omega)).bind _
    · exact (asks_tableR _ _ _ _ _ _ (by omega)).bind _
  · exact (asks_tableR _ _ _ _ _ _ h).bind _
/-- A register that is read by accesses. -/
def Reg.told (r : Reg) (me : Int) : Prop := r.kind = 1 ∨ (r.kind = 6 ∧ me ≠ r.wr) ∨ (r.kind = 7 ∧ 2 ≤ r.n)
theorem asks_regR (r : Reg) (me : Int) (h : r.told me) : (regR r me).Asks := by
  unfold regR
  rcases h with h | ⟨h, h2⟩ | ⟨h, h2⟩
  · rw [if_pos h]; exact asks_rd _
  · rw [if_neg (by omega), if_pos h]; exact asks_tableR _ _ _ _ _ _ h2
  · rw [if_neg (by omega), if_neg (by omega)]
    unfold manyR
    obtain ⟨k, hk⟩ : ∃ k : Nat, r.n.toNat = k + 2 := ⟨r.n.toNat - 2, by omega⟩
    rw [hk]
    exact (asks_manyRs _ _ _ _ _ _ _ _ _).bind _
end Kv
/-
  Plain mathematics of plans: which registers a list of wants gets.
-/
namespace Kv
structure Want where
  wr : Int
  top : Int
def topM (t : Int) : Int := if clamp t 255 = 0 then 1 else clamp t 255
def kindM (mode w : Int) : Int := if mode = 2 then (if 0 ≤ w then 6 else 7) else 1
def regOf (n mode b l : Int) (q : Want) : Reg := ⟨kindM mode q.wr, b, l, n, q.wr, -1, topM q.top⟩
def cellsM (r : Reg) : Int := if r.kind = 1 then 1 else if r.kind = 6 then 16 * (r.n - 1) * (r.n - 1) else 16 * (r.n - 1) * (r.n - 1) * r.n
def localsM (r : Reg) : Int := if r.kind = 1 then 0 else if r.kind = 6 then 2 + 18 * (r.n - 1) * (r.n - 1) else r.n * (2 + 18 * (r.n - 1) * (r.n - 1))
def fineM (r : Reg) : Bool := decide (r.base ≤ 32768) && decide (r.loc ≤ 32768) && decide (r.base + cellsM r ≤ 32768) && decide (r.loc + localsM r ≤ 32768)
def layFrom (n mode : Int) : List Want → Int → Int → Option (List Reg)
  | [], _, _ => some []
  | q :: l, b, c => if fineM (regOf n mode b c q) then (layFrom n mode l (b + cellsM (regOf n mode b c q)) (c + localsM (regOf n mode b c q))).map (regOf n mode b c q :: ·) else none
def argsM (l : List Want) (n mode b c : Int) : Bool := decide (1 ≤ mode ∧ mode ≤ 2 ∧ 1 ≤ n ∧ n ≤ 8 ∧ 0 ≤ b ∧ 0 ≤ c) && l.all fun q => decide (-1 ≤ q.wr ∧ q.wr < n)
/-- The registers, or none. -/
def layM (l : List Want) (n mode b c : Int) : Option (List Reg) := if argsM l n mode b c then layFrom n mode l b c else none
theorem topM_bd (t : Int) : 1 ≤ topM t ∧ topM t ≤ 255 := by
  unfold topM clamp within
  split <;> omega
theorem cells_nat (r : Reg) (h : 1 ≤ r.n ∧ r.n ≤ 8) : 0 ≤ cellsM r ∧ cellsM r ≤ 6272 ∧ 0 ≤ localsM r ∧ localsM r ≤ 7072 := by
  obtain ⟨h1, h2⟩ := h
  have : r.n = 1 ∨ r.n = 2 ∨ r.n = 3 ∨ r.n = 4 ∨ r.n = 5 ∨ r.n = 6 ∨ r.n = 7 ∨ r.n = 8 := by omega
  unfold cellsM localsM
  rcases this with h | h | h | h | h | h | h | h <;> rw [h] <;> (split <;> (try split) <;> omega)
/-- What a laid register is. -/
structure Laid (n mode : Int) (q : Want) (r : Reg) : Prop where
  is : ∃ b c, r = regOf n mode b c q ∧ 0 ≤ b ∧ 0 ≤ c
  fine : fineM r = true
theorem layFrom_laid (n mode : Int) (hn : 1 ≤ n ∧ n ≤ 8) : ∀ (l : List Want) (b c : Int) (rs : List Reg), 0 ≤ b → 0 ≤ c → layFrom n mode l b c = some rs →
    rs.length = l.length ∧ ∀ (i : Nat) q, l[i]? = some q → ∃ r, rs[i]? = some r ∧ Laid n mode q r
  | [], b, c, rs, _, _, h => by
    obtain rfl : [] = rs := by simpa [layFrom] using h
    exact ⟨rfl, fun i q hq => by simp at hq⟩
  | q :: l, b, c, rs, hb, hc, h => by
    unfold layFrom at h
    split at h
    · rename_i hf
      have hz := cells_nat (regOf n mode b c q) hn
      cases hr : layFrom n mode l (b + cellsM (regOf n mode b c q)) (c + localsM (regOf n mode b c q)) with
      | none => rw [hr] at h; cases h
      | some rs' =>
        rw [hr] at h
        obtain rfl : regOf n mode b c q :: rs' = rs := by simpa using h
        obtain ⟨e, g⟩ := layFrom_laid n mode hn l _ _ rs' (by omega) (by omega) hr
        refine ⟨by simp [e], fun i q' hq => ?_⟩
        cases i with
        | zero =>
          obtain rfl : q = q' := by simpa using hq
          exact ⟨_, rfl, ⟨b, c, rfl, hb, hc⟩, hf⟩
        | succ i => exact g i q' (by simpa using hq)
    · cases h
theorem layM_args {l : List Want} {n mode b c : Int} {rs : List Reg} (h : layM l n mode b c = some rs) : (1 ≤ mode ∧ mode ≤ 2 ∧ 1 ≤ n ∧ n ≤ 8 ∧ 0 ≤ b ∧ 0 ≤ c) ∧ (∀ q ∈ l, -1 ≤ q.wr ∧ q.wr < n) ∧ layFrom n mode l b c = some rs := by
  unfold layM at h
  split at h
  · rename_i ha
    unfold argsM at ha
    rw [Bool.and_eq_true, decide_eq_true_eq, List.all_eq_true] at ha
    exact ⟨ha.1, fun q hq => by simpa using ha.2 q hq, h⟩
  · cases h
theorem layM_len {l : List Want} {n mode b c : Int} {rs : List Reg} (h : layM l n mode b c = some rs) : rs.length = l.length := by
  obtain ⟨⟨_, _, hn1, hn2, hb, hc⟩, _, hf⟩ := layM_args h
  exact (layFrom_laid n mode ⟨hn1, hn2⟩ l b c rs hb hc hf).1
theorem layM_at {l : List Want} {n mode b c : Int} {rs : List Reg} (h : layM l n mode b c = some rs) {i : Nat} {q : Want} (hq : l[i]? = some q) : ∃ r, rs[i]? = some r ∧ Laid n mode q r := by
  obtain ⟨⟨_, _, hn1, hn2, hb, hc⟩, _, hf⟩ := layM_args h
  exact (layFrom_laid n mode ⟨hn1, hn2⟩ l b c rs hb hc hf).2 i q hq
theorem Laid.ok {n mode : Int} {q : Want} {r : Reg} (h : Laid n mode q r) (hn : 1 ≤ n ∧ n ≤ 8) (hw : -1 ≤ q.wr ∧ q.wr < n) : r.ok ∧ r.n = n ∧ r.wr = q.wr := by
  obtain ⟨⟨b, c, rfl, hb, hc⟩, hf⟩ := h
  have hf2 : b ≤ 32768 ∧ c ≤ 32768 := by
    unfold fineM regOf at hf
    simp only [Bool.and_eq_true, decide_eq_true_eq] at hf
    omega
  refine ⟨⟨?_, ⟨hb, hf2.1⟩, ⟨hc, hf2.2⟩, hn, fun hk => ?_⟩, rfl, rfl⟩
  · show kindM mode q.wr = 1 ∨ kindM mode q.wr = 6 ∨ kindM mode q.wr = 7
    unfold kindM
    split
    · split <;> omega
    · omega
  · show 0 ≤ q.wr ∧ q.wr < n
    have hk : kindM mode q.wr = 6 := hk
    unfold kindM at hk
    split at hk
    · split at hk <;> omega
    · omega
end Kv
/-
  Registers of the document: the list of a table's readers, and who tells whom.
-/
namespace Go.Proofs.YtpcohbpeglledaaGreat
open Go.RowKit Kv
theorem readers_r (r : Reg) (w : World) (h1 : 1 ≤ r.n) (h2 : r.n ≤ 8) (h3 : 0 ≤ r.wr) (h4 : r.wr < r.n) :
    Calls Tryz.prog 209 #[encR r] w fun e w' => ∃ A c, e = .returned (.slice A (rdrs r.wr r.n.toNat).length c) ∧ Ints w' (.slice A (rdrs r.wr r.n.toNat).length c) (rdrs r.wr r.n.toNat) ∧ Ext w w' := by
  obtain ⟨kind, base, loc, n, wr, rd, top⟩ := r
  simp only at h1 h2 h3 h4 ⊢
  obtain ⟨N, rfl⟩ : ∃ N : Nat, n = (N : Int) := ⟨n.toNat, by omega⟩
  obtain ⟨W, rfl⟩ : ∃ N : Nat, wr = (N : Int) := ⟨wr.toNat, by omega⟩
  rw [Int.toNat_natCast]
  unfold encR
  have hX := Ext.refl w
  have b1 := Blk.new w (.cells #[.int .i64 kind, .int .i64 base, .int .i64 loc, .int .i64 (N : Int), .int .i64 (W : Int), .int .i64 rd, .int .i64 top] 77)
  replace hX := hX.alloc (.cells #[.int .i64 kind, .int .i64 base, .int .i64 loc, .int .i64 (N : Int), .int .i64 (W : Int), .int .i64 rd, .int .i64 top] 77)
  have c_b1 := b1.cells
  go_enter Tryz.func209, Tryz.ntmps209
  go_wp2_with fail
  generalize w.alloc _ = w0 at *
  have hb0 := b1.lt
  go_loopw [3, 4] (fun v i wr => ∃ j : Nat, j ≤ N ∧ i = .int .i64 j ∧ IntRow wr w0.heap.size v (rdrs W j) ∧ Ext w0 wr) (fun _ i _ => N - (intOf i).toNat)
  case atStart => exact ⟨0, by omega, rfl, IntRow.nil _ _, Ext.refl _⟩
  case round =>
    clear c_b1
    obtain ⟨j, hj, rfl, hown, hE⟩ := hrel
    replace b1 := b1.ext hE
    have c_b1 := b1.cells
    have hl := rdrs_len W j
    by_cases hlt : j < N
    · go_wp2_with fail
      refine (rn_r ⟨kind, base, loc, (N : Int), (W : Int), rd, top⟩ _ h1 h2).mono ?_
      rintro e w2 ⟨rfl, hx⟩
      clear c_b1
      replace b1 := b1.ext hx
      have c_b1 := b1.cells
      replace hown : IntRow _ _ _ _ := row_ext hown hx
      replace hE := hE.trans hx
      clear hx
      go_wp2_with fail
      refine (rwriter_r ⟨kind, base, loc, (N : Int), (W : Int), rd, top⟩ _ h1 h2 h3 h4).mono ?_
      rintro e w2 ⟨rfl, hx⟩
      clear c_b1
      replace b1 := b1.ext hx
      have c_b1 := b1.cells
      replace hown : IntRow _ _ _ _ := row_ext hown hx
      replace hE := hE.trans hx
      clear hx
      have hsz := hE.size
      by_cases hjw : j = W
      · have hs : rdrs (W : Int) (j + 1) = rdrs (W : Int) j := by
          show (if (j : Int) = W then _ else _) = _
          rw [if_pos (by omega)]
        rw [← hs] at hown
        subst hjw
        clear hs hl
        go_wp2_with fail
        go_roundw
        case rel => exact ⟨j + 1, by omega, by go_num, hown, hE⟩
        case measure => simp [intOf]; omega
      · have hs : rdrs (W : Int) (j + 1) = rdrs (W : Int) j ++ [(j : Int)] := by
          show (if (j : Int) = W then _ else _) = _
          rw [if_neg (by omega)]
        have hjb : ((j : Int) != (W : Int)) = true := by rw [bne_iff_ne]; omega
        have H1 := Lib.hid hs
        have hl2 : (rdrs (W : Int) j).length < 1000 := by rw [hl]; split <;> omega
        clear hs hjw hl
        go_wp2_with (at_builtin; refine append_int rfl _ _ rfl w0.heap.size _ (rdrs W j) (j : Int) hown rfl rfl (by omega) hsz ?_)
        intro v' w1 hown' hgrow
        have hE' := hE.appended hown hgrow
        rw [← H1.out] at hown'
        clear hown hgrow
        go_wp2_with fail
        go_roundw
        case rel => exact ⟨j + 1, by omega, by go_num, hown', hE'⟩
        case measure => simp [intOf]; omega
    · obtain rfl : j = N := by omega
      go_wp2_with fail
      refine (rn_r ⟨kind, base, loc, (j : Int), (W : Int), rd, top⟩ _ h1 h2).mono ?_
      rintro e w2 ⟨rfl, hx⟩
      clear c_b1
      replace hown : IntRow _ _ _ _ := row_ext hown hx
      replace hE := hE.trans hx
      obtain ⟨A, c, rfl, hc1, hc2⟩ := hown.ints.slice
      have hf := hown.ints
      have hX2 := Lib.hid (hX.trans hE)
      clear hx hE hX hown hl
      go_wp2_with fail
      go_ret
      exact ⟨A, c, rfl, hf, hX2.out⟩
theorem tellsD_bd (k a _b : Int) (hk : 1 ≤ k ∧ k ≤ 7) (ha : 0 ≤ a ∧ a < k) : 0 ≤ a * (k - 1) ∧ a * (k - 1) ≤ 36 := by
  have h1 : 0 ≤ a * (k - 1) := Int.mul_nonneg (by omega) (by omega)
  have h2 : a * (k - 1) ≤ 6 * 6 := Int.mul_le_mul (by omega) (by omega) (by omega) (by omega)
  omega
def stepD (i j : Int) : Int := if j > i then j - 1 else j
theorem tells_eq (k a b : Int) : tellsM k a b = k + a * (k - 1) + stepD a b := rfl
theorem stepD_0 (i : Nat) : stepD i 0 = 0 := by unfold stepD; rw [if_neg (by omega)]
theorem stepD_same (i : Nat) : stepD i ((i : Int) + 1) = stepD i i := by unfold stepD; rw [if_pos (by omega), if_neg (by omega)]; omega
theorem stepD_next (i j : Nat) (h : i ≠ j) : stepD i ((j : Int) + 1) = stepD i j + 1 := by unfold stepD; split <;> split <;> omega
theorem stepD_end (i k : Nat) (h : i < k) : stepD i k = (k : Int) - 1 := by unfold stepD; rw [if_pos (by omega)]
theorem stepD_bd (i j : Nat) : 0 ≤ stepD i j ∧ stepD i j ≤ j := by unfold stepD; split <;> omega
set_option maxHeartbeats 2000000 in
theorem tells_r (r : Reg) (a b : Int) (w : World) (h1 : 1 ≤ r.n) (h2 : r.n ≤ 8) (h3 : 0 ≤ r.wr) (h4 : r.wr < r.n) (ha : 0 ≤ a ∧ a < r.n - 1) (hb : 0 ≤ b ∧ b < r.n - 1) (hab : a ≠ b) (hb1 : 0 ≤ r.base) (hb2 : r.base ≤ 56000) (hl1 : 0 ≤ r.loc) (hl2 : r.loc ≤ 56000) :
    Calls Tryz.prog 215 #[encR r, .int .i64 a, .int .i64 b] w fun e w' => e = .returned (encR ⟨0, r.base + 16 * tellsM (r.n - 1) a b, r.loc + (2 + 18 * tellsM (r.n - 1) a b), 0, 0, 0, 0⟩) ∧ Ext w w' := by
  obtain ⟨kind, base, loc, n, wr, rd, top⟩ := r
  simp only at h1 h2 h3 h4 ha hb hb1 hb2 hl1 hl2 ⊢
  obtain ⟨k, rfl⟩ : ∃ k : Nat, n = (k : Int) + 1 := ⟨(n - 1).toNat, by omega⟩
  obtain ⟨a, rfl⟩ : ∃ k : Nat, a = (k : Int) := ⟨a.toNat, by omega⟩
  obtain ⟨b, rfl⟩ : ∃ k : Nat, b = (k : Int) := ⟨b.toNat, by omega⟩
  have hlen : (rdrs wr ((k : Int) + 1).toNat).length = k := by
    obtain ⟨W, rfl⟩ : ∃ N : Nat, wr = (N : Int) := ⟨wr.toNat, by omega⟩
    rw [rdrs_len, if_pos (by omega)]
    omega
  rw [show (k : Int) + 1 - 1 = (k : Int) from by omega]
  unfold encR
  have hX := Ext.refl w
  have b1 := Blk.new w (.cells #[.int .i64 kind, .int .i64 base, .int .i64 loc, .int .i64 ((k : Int) + 1), .int .i64 wr, .int .i64 rd, .int .i64 top] 77)
  replace hX := hX.alloc (.cells #[.int .i64 kind, .int .i64 base, .int .i64 loc, .int .i64 ((k : Int) + 1), .int .i64 wr, .int .i64 rd, .int .i64 top] 77)
  have b2 := Blk.new (w.alloc (.cells #[.int .i64 kind, .int .i64 base, .int .i64 loc, .int .i64 ((k : Int) + 1), .int .i64 wr, .int .i64 rd, .int .i64 top] 77)) (.cells #[.int .i64 0, .int .i64 0, .int .i64 0, .int .i64 0, .int .i64 0, .int .i64 0, .int .i64 0] 77)
  simp only [World.size_alloc] at b2
  replace b1 := b1.alloc (.cells #[.int .i64 0, .int .i64 0, .int .i64 0, .int .i64 0, .int .i64 0, .int .i64 0, .int .i64 0] 77)
  replace hX := hX.alloc (.cells #[.int .i64 0, .int .i64 0, .int .i64 0, .int .i64 0, .int .i64 0, .int .i64 0, .int .i64 0] 77)
  have c_b1 := b1.cells
  have c_b2 := b2.cells
  go_enter Tryz.func215, Tryz.ntmps215
  go_wp2_with fail
  refine (readers_r ⟨kind, base, loc, (k : Int) + 1, wr, rd, top⟩ _ h1 h2 h3 h4).mono ?_
  rintro e w2 ⟨A, c, rfl, hI, hx⟩
  rw [hlen]
  clear hI c_b1 c_b2
  replace b1 := b1.ext hx
  have c_b1 := b1.cells
  replace b2 := b2.ext hx
  have c_b2 := b2.cells
  replace hX := hX.trans hx
  clear hx
  go_wp2_with fail
  have hk : 1 ≤ (k : Int) ∧ (k : Int) ≤ 7 := by omega
  have hab2 : a ≠ b := by omega
  clear hab
  go_loopw [8, 9] (fun n x wr => ∃ i : Nat, i ≤ a ∧ x = .int .i64 i ∧ n = .int .i64 ((k : Int) + (i : Int) * ((k : Int) - 1)) ∧ w2 = wr) (fun _ x _ => a - (intOf x).toNat)
  case atStart => exact ⟨0, by omega, rfl, by simp, rfl⟩
  case round =>
    obtain ⟨i, hi, rfl, rfl, rfl⟩ := hrel
    have hm := tellsD_bd k i 0 hk (by omega)
    have hms : ((i + 1 : Nat) : Int) * ((k : Int) - 1) = (i : Int) * ((k : Int) - 1) + ((k : Int) - 1) := by rw [Int.natCast_add, Int.add_mul]; simp
    have hmh := Lib.hid hms
    have hma := Lib.hid (show i = a → (i : Int) * ((k : Int) - 1) = (a : Int) * ((k : Int) - 1) from fun e => by rw [e])
    clear hms
    generalize (i : Int) * ((k : Int) - 1) = M at *
    have hik : (i : Int) < k := by omega
    go_wp2_with fail
    go_loopw [8, 10] (fun n y wr => ∃ j : Nat, j ≤ k ∧ (i = a → j ≤ b) ∧ y = .int .i64 j ∧ n = .int .i64 ((k : Int) + M + stepD i j) ∧ w2 = wr) (fun _ y _ => k - (intOf y).toNat)
    case atStart => exact ⟨0, by omega, by omega, rfl, by rw [show ((0 : Nat) : Int) = 0 from rfl, stepD_0]; simp, rfl⟩
    case round =>
      obtain ⟨j, hj, hjb, rfl, rfl, rfl⟩ := hrel
      have hD := stepD_bd i j
      by_cases hjk : j < k
      · by_cases hia : i = a
        · have hia2 : ((i : Int) == (a : Int)) = true := by simp [hia]
          have hiah := Lib.hid hia
          by_cases hjb2 : j = b
          · have hjb3 : ((j : Int) == (b : Int)) = true := by simp [hjb2]
            have hmt := Lib.hid (show tellsM (k : Int) a b = (k : Int) + M + stepD i j from by rw [tells_eq, ← hma.out hia, hia, hjb2])
            clear hia hjb2 hjb
            generalize stepD i j = D at *
            go_wp2_with fail
            refine (rnumber_r ⟨kind, base, loc, (k : Int) + 1, wr, rd, top⟩ ((k : Int) + M + D) _ (by omega) hb1 hb2 hl1 hl2).mono ?_
            rintro e w3 ⟨rfl, hx⟩
            clear c_b1 c_b2
            replace b2 := b2.ext hx
            replace hX := hX.trans hx
            have c_b2 := b2.cells
            have f_b2 := frozen_of_heap b2
            clear hx
            unfold encR
            go_wp2_with fail
            refine bodyPost_ret (v := .agg #[.int .i64 0, .int .i64 (base + 16 * ((k : Int) + M + D)), .int .i64 (loc + (2 + 18 * ((k : Int) + M + D))), .int .i64 0, .int .i64 0, .int .i64 0, .int .i64 0]) (by simp [results, Tryz.results215, go_sem, c_b2]) rfl ?_
            rw [hmt.out]
            refine ⟨rfl, ?_⟩
            have hb : w.heap.size ≤ w.heap.size + 1 := Nat.le_succ _
            exact ((((((hX.setCell hb _).setCell hb _).setCell hb _).setCell hb _).setCell hb _).setCell hb _).setCell hb _
          · have hjb3 : ((j : Int) == (b : Int)) = false := by rw [beq_eq_false_iff_ne]; omega
            have hjb4 : j < b := by have := hjb hia; omega
            clear hia hjb2 hjb
            by_cases hij : i = j
            · have hij2 : ((i : Int) != (j : Int)) = false := by simp [hij]
              have hs : stepD i ((j : Int) + 1) = stepD i j := by rw [← hij]; exact stepD_same i
              have hsh := Lib.hid hs
              have hijh := Lib.hid hij
              clear hs hij
              generalize stepD i j = D at *
              go_wp2_with fail
              refine ⟨⟨j + 1, by omega, (fun _ => by omega), by go_num, ?_, by trivial⟩, by simp [intOf]; omega⟩
              rw [show ((j + 1 : Nat) : Int) = (j : Int) + 1 from rfl, hsh.out]
            · have hij2 : ((i : Int) != (j : Int)) = true := by rw [bne_iff_ne]; omega
              have hsh := Lib.hid (stepD_next i j hij)
              clear hij
              generalize stepD i j = D at *
              go_wp2_with fail
              refine ⟨⟨j + 1, by omega, (fun _ => by omega), by go_num, ?_, by trivial⟩, by simp [intOf]; omega⟩
              rw [show ((j + 1 : Nat) : Int) = (j : Int) + 1 from rfl, hsh.out]
              go_num
        · have hia2 : ((i : Int) == (a : Int)) = false := by rw [beq_eq_false_iff_ne]; omega
          have hiah := Lib.hid hia
          clear hia hjb
          by_cases hij : i = j
          · have hij2 : ((i : Int) != (j : Int)) = false := by simp [hij]
            have hs : stepD i ((j : Int) + 1) = stepD i j := by rw [← hij]; exact stepD_same i
            have hsh := Lib.hid hs
            have hijh := Lib.hid hij
            clear hs hij
            generalize stepD i j = D at *
            go_wp2_with fail
            refine ⟨⟨j + 1, by omega, (fun e => absurd e hiah.out), by go_num, ?_, by trivial⟩, by simp [intOf]; omega⟩
            rw [show ((j + 1 : Nat) : Int) = (j : Int) + 1 from rfl, hsh.out]
          · have hij2 : ((i : Int) != (j : Int)) = true := by rw [bne_iff_ne]; omega
            have hsh := Lib.hid (stepD_next i j hij)
            clear hij
            generalize stepD i j = D at *
            go_wp2_with fail
            refine ⟨⟨j + 1, by omega, (fun e => absurd e hiah.out), by go_num, ?_, by trivial⟩, by simp [intOf]; omega⟩
            rw [show ((j + 1 : Nat) : Int) = (j : Int) + 1 from rfl, hsh.out]
            go_num
      · obtain rfl : j = k := by omega
        have hia : i < a := by
          rcases Nat.lt_or_ge i a with h | h
          · exact h
          · have := hjb (by omega); omega
        rw [stepD_end i j (by omega)]
        go_wp2_with fail
        refine ⟨⟨i + 1, by omega, by go_num, ?_, by trivial⟩, by simp [intOf]; omega⟩
        rw [hmh.out]
        go_num
end Go.Proofs.YtpcohbpeglledaaGreat
