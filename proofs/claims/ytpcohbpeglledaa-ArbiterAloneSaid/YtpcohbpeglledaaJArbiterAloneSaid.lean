/-
  ArbiterAlone holds: whoever is alone enters an arbiter by three accesses, and whoever is in read a flag 0, or a turn that is not its own, as its last access.
-/
import Derived.Test.YtpcohbpeglledaaJArbiterAloneSaid0
import Derived.Deep.DeepCutAuto
/-
  KesselsAlone: whoever is alone is in; a side writes its own registers alone.
-/
namespace Kv
/-- An operation whose accesses are all of a kind. -/
inductive Prog.Each {α : Type} (Φ : Acc → Prop) : Prog α → Prop
  | ret (a : α) : Each Φ (.ret a)
  | read (c : Int) {k : Int → Prog α} : Φ ⟨1, c, 0⟩ → (∀ x, Each Φ (k x)) → Each Φ (.read c k)
  | write (c v : Int) {k : Unit → Prog α} : Φ ⟨2, c, v⟩ → Each Φ (k ()) → Each Φ (.write c v k)
  | get (i : Int) {k : Int → Prog α} : (∀ x, Each Φ (k x)) → Each Φ (.get i k)
  | set (i v : Int) {k : Unit → Prog α} : Each Φ (k ()) → Each Φ (.set i v k)
  | note (m : Int) {k : Unit → Prog α} : Each Φ (k ()) → Each Φ (.note m k)
theorem Prog.Each.bind {α β : Type} {Φ : Acc → Prop} {p : Prog α} {f : α → Prog β} (h : p.Each Φ) (hf : ∀ a, (f a).Each Φ) : (p.bind f).Each Φ := by
  induction h with
  | ret a => exact hf a
  | read c h1 _ ih => exact .read c h1 fun x => ih x
  | write c v h1 _ ih => exact .write c v h1 ih
  | get c _ ih => exact .get c fun x => ih x
  | set c v _ ih => exact .set c v ih
  | note m _ ih => exact .note m ih
theorem Prog.Each.run {α : Type} {Φ : Acc → Prop} {p : Prog α} (h : p.Each Φ) : ∀ S : TS, (∀ a ∈ S.acc, Φ a) → ∀ a ∈ (p.run S).2.acc, Φ a := by
  have hput : ∀ (S : TS) (x : Acc), Φ x → (∀ a ∈ S.acc, Φ a) → ∀ a ∈ (S.put x).acc, Φ a := fun S x hx hS a ha => by
    rcases List.mem_append.1 ha with ha | ha
    · exact hS a ha
    · rw [List.mem_singleton.1 ha]; exact hx
  induction h with
  | ret a => intro S hS; exact hS
  | read c h1 _ ih =>
    intro S hS
    simp only [Prog.run]
    cases S.next with
    | none => exact hput S _ h1 hS
    | some v => exact ih v _ (hput S _ h1 hS)
  | write c v h1 _ ih =>
    intro S hS
    simp only [Prog.run]
    cases S.next with
    | none => exact hput S _ h1 hS
    | some _ => exact ih _ (hput S _ h1 hS)
  | get c _ ih => intro S hS; exact ih _ _ hS
  | set j v _ ih => intro S hS; exact ih _ (by rw [TS.upd_acc]; exact hS)
  | note m _ ih => intro S hS; exact ih (S.noted m) hS
/-- A side's own registers are written, all others read. -/
def OwnW (s : Int) (a : Acc) : Prop := (a.cell = 3 + s ∨ a.cell = 5 + s) ↔ a.kind = 2
end Kv
namespace Go.Proofs.Ytpcohbpeglledaa
open Go.RowKit Kv
theorem regW_one {r : Reg} (h : r.kind = 1) (me v : Int) : regW r me v = wr r.base v := by unfold regW; rw [if_pos h]
theorem regR_one {r : Reg} (h : r.kind = 1) (me : Int) : regR r me = rd r.base := by unfold regR; rw [if_pos h]
theorem each_spin {s t : Int} {qo ro : Reg} (h1 : qo.kind = 1) (h2 : ro.kind = 1) (hq : qo.base ≠ 3 + s ∧ qo.base ≠ 5 + s) (hr : ro.base ≠ 3 + s ∧ ro.base ≠ 5 + s) : ∀ n : Nat, (kesSpin qo ro s t 0 n).Each (OwnW s)
  | 0 => .ret _
  | n + 1 => by
    rw [show kesSpin qo ro s t 0 (n + 1) = (regR qo 0).bind fun x => if x = 0 then .ret () else (regR ro 0).bind fun y => if kesFree s t y then .ret () else kesSpin qo ro s t 0 n from rfl]
    rw [regR_one h1, regR_one h2]
    refine (Prog.Each.read _ (by unfold OwnW; simp; omega) fun x => .ret x).bind fun x => ?_
    split
    · exact .ret _
    · refine (Prog.Each.read _ (by unfold OwnW; simp; omega) fun x => .ret x).bind fun y => ?_
      split
      · exact .ret _
      · exact each_spin h1 h2 hq hr n
theorem each_enter {s : Int} {qs qo rs ro : Reg} (n : Nat) (h0 : qs.kind = 1) (h1 : qo.kind = 1) (h2 : ro.kind = 1) (h3 : rs.kind = 1) (hs : qs.base = 3 + s) (hs2 : rs.base = 5 + s) (hq : qo.base ≠ 3 + s ∧ qo.base ≠ 5 + s) (hr : ro.base ≠ 3 + s ∧ ro.base ≠ 5 + s) :
    (kesEnter n qs qo rs ro s 0).Each (OwnW s) := by
  unfold kesEnter
  simp only [regW_one h0, regW_one h3, regR_one h2]
  refine (Prog.Each.write _ _ (by unfold OwnW; simp [hs]) (.ret _)).bind fun _ => ?_
  refine (Prog.Each.read _ (by unfold OwnW; simp; omega) fun x => .ret x).bind fun x => ?_
  exact (Prog.Each.write _ _ (by unfold OwnW; simp [hs2]) (.ret _)).bind fun _ => each_spin h1 h2 hq hr n
/-- Both, one behind the other. -/
def kesBoth (D : Nat) (s : Int) : Prog Int := (kesM D kr0 kr1 kr2 kr3 s 0).bind fun _ => (kesL kr0 kr1 s 0).bind fun _ => .ret 0
theorem each_both (D : Nat) {s : Int} (hs : s = 0 ∨ s = 1) : (kesBoth D s).Each (OwnW s) := by
  rcases hs with rfl | rfl
  · refine (each_enter (s := 0) D (qs := kr0) (qo := kr1) (rs := kr2) (ro := kr3) rfl rfl rfl rfl rfl rfl (by decide) (by decide)).bind fun _ => ?_
    exact (Prog.Each.write _ _ (by unfold OwnW; decide) (.ret _)).bind fun _ => .ret _
  · refine (each_enter (s := 1) D (qs := kr1) (qo := kr0) (rs := kr3) (ro := kr2) rfl rfl rfl rfl rfl rfl (by decide) (by decide)).bind fun _ => ?_
    exact (Prog.Each.write _ _ (by unfold OwnW; decide) (.ret _)).bind fun _ => .ret _
theorem both_lands (D : Nat) {s : Int} (hs : s = 0 ∨ s = 1) (ans : List Int) : ∀ a ∈ ((kesBoth D s).run (TS0 [] ans)).2.acc, OwnW s a :=
  (each_both D hs).run _ fun a ha => by cases ha
theorem kaE (B p N : Nat) (S : TS) (s : Int) (b c bl bs : Nat) (w : World) (h : Plays B w p S) (hl : RegsAt [2, 3, 4] w p b [kr0, kr1, kr2, kr3]) (hN : S.left < N) (hc4 : 4 ≤ c) (hc5 : c ≤ 9223372036854775807)
    (c1 : w.cell? ⟨bl, 0, none⟩ = some (.slice (some ⟨b, 0, none⟩) 4 c)) (c2 : w.cell? ⟨bs, 0, none⟩ = some (.int .i64 s)) :
    Calls Try.prog 13 #[.pointer (some ⟨p, 0, none⟩), .pointer (some ⟨bl, 0, none⟩), .pointer (some ⟨bs, 0, none⟩)] w (Post encI B p w (((kesM N kr0 kr1 kr2 kr3 s 0).bind fun _ => .ret 0).run S)) := by
  have h0 : kr0.ok := ⟨.inl rfl, by decide, by decide, by decide, fun h => by cases h⟩
  have h1 : kr1.ok := ⟨.inl rfl, by decide, by decide, by decide, fun h => by cases h⟩
  have h2 : kr2.ok := ⟨.inl rfl, by decide, by decide, by decide, fun h => by cases h⟩
  have h3 : kr3.ok := ⟨.inl rfl, by decide, by decide, by decide, fun h => by cases h⟩
  have hq := kes_enter_p B p N S kr0 kr1 kr2 kr3 s 0 b c w h hl h0 h1 h2 h3 (by decide) (by decide) (by decide) (by decide) (by decide) (.inl rfl) (.inl rfl) (.inl rfl) (.inl rfl) hN hc4 hc5
  generalize hR : Post encI B p w (((kesM N kr0 kr1 kr2 kr3 s 0).bind fun _ => .ret 0).run S) = R
  have hO : Owes R encI B p w (((kesM N kr0 kr1 kr2 kr3 s 0).bind fun _ => .ret 0).run S) := hR ▸ owes _ _ _ _ _
  clear hR
  have hK := Keep.refl [2, 3, 4] B p w
  clear h0 h1 h2 h3
  go_enter Try.func13, Try.ntmps13
  go_wp2_with fail
  clear c1 c2
  refine tstep hO hK hq (fun _ h => ⟨rfl, h⟩) ?_
  intro v S1 w1 hr hP1 hk1 hK1 hO1
  have hf := hO1.done (v := (0 : Int)) hP1 hK1
  clear hO1 hP1 hK1 hr hk1 hO h hl hK hq
  go_wp2_with fail
  first | exact hf | (go_ret; exact hf)
theorem kaB (B p N : Nat) (S : TS) (s : Int) (b c bl bs : Nat) (w : World) (h : Plays B w p S) (hl : RegsAt [2, 3, 4] w p b [kr0, kr1, kr2, kr3]) (hN : S.left < N) (hc4 : 4 ≤ c) (hc5 : c ≤ 9223372036854775807)
    (g1 : HeldP w p bl (.cells #[.slice (some ⟨b, 0, none⟩) 4 c] 25)) (g2 : HeldP w p bs (.cells #[.int .i64 s] 3)) :
    Calls Try.prog 15 #[.pointer (some ⟨p, 0, none⟩), .pointer (some ⟨bl, 0, none⟩), .pointer (some ⟨bs, 0, none⟩)] w (Post encI B p w ((kesBoth N s).run S)) := by
  have h0 : kr0.ok := ⟨.inl rfl, by decide, by decide, by decide, fun h => by cases h⟩
  have h1 : kr1.ok := ⟨.inl rfl, by decide, by decide, by decide, fun h => by cases h⟩
  have h2 : kr2.ok := ⟨.inl rfl, by decide, by decide, by decide, fun h => by cases h⟩
  have h3 : kr3.ok := ⟨.inl rfl, by decide, by decide, by decide, fun h => by cases h⟩
  have hq := kes_enter_p B p N S kr0 kr1 kr2 kr3 s 0 b c w h hl h0 h1 h2 h3 (by decide) (by decide) (by decide) (by decide) (by decide) (.inl rfl) (.inl rfl) (.inl rfl) (.inl rfl) hN hc4 hc5
  have hq2 := fun S1 w1 (h : Plays B w1 p S1) hl => kes_leave_p B p S1 kr0 kr1 kr2 kr3 s 0 b c w1 h hl h0 h1 (by decide) (by decide) (by decide)
  generalize hR : Post encI B p w ((kesBoth N s).run S) = R
  have hO : Owes R encI B p w ((kesBoth N s).run S) := hR ▸ owes _ _ _ _ _
  clear hR
  unfold kesBoth at hO
  have hK := Keep.refl [2, 3, 4] B p w
  have c1 := g1.cells
  have c2 := g2.cells
  clear h0 h1 h2 h3
  have hq2h := Lib.hid hq2
  clear hq2
  go_enter Try.func15, Try.ntmps15
  go_wp2_with fail
  clear c1 c2
  refine tstep hO hK hq (fun _ h => ⟨rfl, h⟩) ?_
  intro v S1 w1 hr hP1 hk1 hK1 hO1
  replace g1 := g1.keep hk1
  replace g2 := g2.keep hk1
  replace hl := hl.keep hk1
  have c1 := g1.cells
  have c2 := g2.cells
  clear hr hO h hK hq hk1
  go_wp2_with fail
  clear c1 c2
  refine tstep hO1 hK1 (hq2h.out S1 w1 hP1 hl) (fun _ h => ⟨rfl, h⟩) ?_
  intro v S2 w2 hr hP2 hk2 hK2 hO2
  have hf := hO2.done (v := (0 : Int)) hP2 hK2
  clear hO1 hP1 hK1 hr hl hK2 hP2 hO2 hk2
  go_wp2_with fail
  first | exact hf | (go_ret; exact hf)
end Go.Proofs.Ytpcohbpeglledaa
/-
  ArbiterAlone: plain, what the runs come to.
-/
namespace Kv
/-- What stops has asked once more than there are answers. -/
theorem Prog.run_none {α : Type} : ∀ (p : Prog α) (S S' : TS), p.run S = (none, S') → S.acc.length ≤ S.ans.length → S'.acc.length = S.ans.length + 1
  | .ret a, S, S', h, _ => by cases h
  | .read c k, S, S', h, hl => by
    simp only [Prog.run] at h
    cases hx : S.next with
    | none =>
      rw [hx] at h
      obtain rfl : S.put ⟨1, c, 0⟩ = S' := by simpa using h
      unfold TS.next at hx
      have := List.getElem?_eq_none_iff.1 hx
      simp [TS.put]; omega
    | some v =>
      rw [hx] at h
      unfold TS.next at hx
      have := (List.getElem?_eq_some_iff.1 hx).1
      exact run_none (k v) (S.put ⟨1, c, 0⟩) S' h (by simp [TS.put]; omega)
  | .write c v k, S, S', h, hl => by
    simp only [Prog.run] at h
    cases hx : S.next with
    | none =>
      rw [hx] at h
      obtain rfl : S.put ⟨2, c, v⟩ = S' := by simpa using h
      unfold TS.next at hx
      have := List.getElem?_eq_none_iff.1 hx
      simp [TS.put]; omega
    | some y =>
      rw [hx] at h
      unfold TS.next at hx
      have := (List.getElem?_eq_some_iff.1 hx).1
      exact run_none (k ()) (S.put ⟨2, c, v⟩) S' h (by simp [TS.put]; omega)
  | .get i k, S, S', h, hl => run_none (k _) S S' h hl
  | .set i v k, S, S', h, hl => by
    have := run_none (k ()) (S.upd i v) S' h (by rw [TS.upd_acc, TS.upd_ans]; exact hl)
    rw [TS.upd_ans] at this
    exact this
  | .note n k, S, S', h, hl => run_none (k ()) (S.noted n) S' h hl
/-- The last access: a flag that was 0, or a turn that was not one's own. -/
def LastIs (qb tb s : Int) (S : TS) (ans : List Int) : Prop := ∃ k, S.acc.length = k + 1 ∧ ((S.acc[k]? = some ⟨1, qb, 0⟩ ∧ ans[k]? = some 0) ∨ (S.acc[k]? = some ⟨1, tb, 0⟩ ∧ ∃ v, ans[k]? = some v ∧ v ≠ s))
theorem put_last (S : TS) (a : Acc) : (S.put a).acc.length = S.acc.length + 1 ∧ (S.put a).acc[S.acc.length]? = some a := by
  simp [TS.put]
theorem spin_last {qo rt : Reg} (h1 : qo.kind = 1) (h2 : rt.kind = 1) (s : Int) : ∀ (n : Nat) (S S1 : TS), (arbSpin qo rt s 0 n).run S = (some (), S1) → S.acc.length ≤ S.ans.length → S.left < n → LastIs qo.base rt.base s S1 S.ans ∧ S.acc.length < S1.acc.length
  | 0, S, S1, _, _, hn => by omega
  | n + 1, S, S1, h, hl, hn => by
    rw [arbSpin_succ] at h
    unfold regR at h
    rw [if_pos h1, if_pos h2] at h
    simp only [rd, Prog.bind, Prog.run] at h
    cases hx : S.next with
    | none => rw [hx] at h; cases h
    | some x =>
      rw [hx] at h
      have hx2 := hx
      unfold TS.next at hx
      have hlt := (List.getElem?_eq_some_iff.1 hx).1
      obtain ⟨p1, p2⟩ := put_last S ⟨1, qo.base, 0⟩
      by_cases hx0 : x = 0
      · simp only [if_pos hx0, Prog.run] at h
        obtain rfl : S.put ⟨1, qo.base, 0⟩ = S1 := by simpa using h
        exact ⟨⟨S.acc.length, p1, .inl ⟨p2, by rw [hx, hx0]⟩⟩, by omega⟩
      · simp only [if_neg hx0, Prog.run] at h
        cases hy : (S.put ⟨1, qo.base, 0⟩).next with
        | none => rw [hy] at h; cases h
        | some y =>
          rw [hy] at h
          unfold TS.next at hy
          have hlt2 := (List.getElem?_eq_some_iff.1 hy).1
          obtain ⟨p3, p4⟩ := put_last (S.put ⟨1, qo.base, 0⟩) ⟨1, rt.base, 0⟩
          have ha : ((S.put ⟨1, qo.base, 0⟩).put ⟨1, rt.base, 0⟩).ans = S.ans := rfl
          have hb : (S.put ⟨1, qo.base, 0⟩).ans = S.ans := rfl
          rw [hb] at hy hlt2
          by_cases hys : y = s
          · simp only [if_pos hys] at h
            obtain ⟨g1, g2⟩ := spin_last h1 h2 s n _ S1 h (by rw [ha, p3]; omega) (by unfold TS.left at hn ⊢; rw [ha, p3, p1]; omega)
            rw [ha] at g1
            exact ⟨g1, by omega⟩
          · simp only [if_neg hys, Prog.run] at h
            obtain rfl : (S.put ⟨1, qo.base, 0⟩).put ⟨1, rt.base, 0⟩ = S1 := by simpa using h
            exact ⟨⟨(S.put ⟨1, qo.base, 0⟩).acc.length, p3, .inr ⟨p4, y, hy, hys⟩⟩, by omega⟩
end Kv
namespace Go.Proofs.Ytpcohbpeglledaa
open Go.RowKit Kv
/-- Entering on a side, on native cells. -/
def arbIn (D : Nat) (s : Int) : Prog Int := (arbM D ar0 ar1 ar2 s 0).bind fun _ => .ret 0
theorem arb_lands (a : List Int) {s : Int} (hs : s = 0 ∨ s = 1) : ((arbIn (a.length + 1) s).run (TS0 [] a)).1.isSome = true → LastIs (4 - s) 5 s ((arbIn (a.length + 1) s).run (TS0 [] a)).2 a ∧ 3 ≤ ((arbIn (a.length + 1) s).run (TS0 [] a)).2.acc.length := by
  intro hsome
  have key : ∀ (qs qo : Reg), qs.kind = 1 → qo.kind = 1 → qo.base = 4 - s → arbM (a.length + 1) ar0 ar1 ar2 s 0 = arbEnter (a.length + 1) qs qo ar2 s 0 → LastIs (4 - s) 5 s ((arbIn (a.length + 1) s).run (TS0 [] a)).2 a ∧ 3 ≤ ((arbIn (a.length + 1) s).run (TS0 [] a)).2.acc.length := by
    intro qs qo k1 k2 hb he
    unfold arbIn at hsome ⊢
    rw [he] at hsome ⊢
    unfold arbEnter at hsome ⊢
    rw [regW_one k1, regW_one (show ar2.kind = 1 from rfl)] at hsome ⊢
    simp only [wr, Prog.bind, Prog.run] at hsome ⊢
    cases hx : (TS0 [] a).next with
    | none => rw [hx] at hsome; cases hsome
    | some x =>
      rw [hx] at hsome
      simp only at hsome ⊢
      cases hy : ((TS0 [] a).put ⟨2, qs.base, 1⟩).next with
      | none => rw [hy] at hsome; cases hsome
      | some y =>
        rw [hy] at hsome
        simp only at hsome ⊢
        unfold TS.next at hy
        have hlt := (List.getElem?_eq_some_iff.1 hy).1
        have hlt2 : 1 < a.length := hlt
        generalize hr : (arbSpin qo ar2 s 0 (a.length + 1)).run (((TS0 [] a).put ⟨2, qs.base, 1⟩).put ⟨2, ar2.base, s⟩) = r at *
        rw [Prog.run_bind, hr] at hsome ⊢
        obtain ⟨q, S1⟩ := r
        cases q with
        | none => cases hsome
        | some u =>
          obtain ⟨g1, g2⟩ := spin_last k2 (show ar2.kind = 1 from rfl) s _ _ S1 hr (show 2 ≤ a.length by omega) (by show a.length - 2 < _; omega)
          rw [hb] at g1
          refine ⟨g1, ?_⟩
          have h2 : (((TS0 [] a).put ⟨2, qs.base, 1⟩).put ⟨2, ar2.base, s⟩).acc.length = 2 := rfl
          show 3 ≤ S1.acc.length
          omega
  rcases hs with rfl | rfl
  · exact key ar0 ar1 rfl rfl rfl rfl
  · exact key ar1 ar0 rfl rfl rfl rfl
end Go.Proofs.Ytpcohbpeglledaa
/-
  ArbiterAlone: the walk.
-/
namespace Go.Proofs.Ytpcohbpeglledaa
open Go.RowKit Kv
theorem aaE1 (B p N : Nat) (S : TS) (s : Int) (b c bl bs : Nat) (w : World) (h : Plays B w p S) (hl : RegsAt [2, 3, 4] w p b [ar0, ar1, ar2]) (hN : S.left < N)
    (c1 : w.cell? ⟨bl, 0, none⟩ = some (.slice (some ⟨b, 0, none⟩) 3 c)) (c2 : w.cell? ⟨bs, 0, none⟩ = some (.int .i64 s)) :
    Calls Try.prog 19 #[.pointer (some ⟨p, 0, none⟩), .pointer (some ⟨bl, 0, none⟩), .pointer (some ⟨bs, 0, none⟩)] w (Post encI B p w ((arbIn N s).run S)) := by
  have h0 : ar0.ok := ⟨.inl rfl, by decide, by decide, by decide, fun h => by cases h⟩
  have h1 : ar1.ok := ⟨.inl rfl, by decide, by decide, by decide, fun h => by cases h⟩
  have h2 : ar2.ok := ⟨.inl rfl, by decide, by decide, by decide, fun h => by cases h⟩
  have hq := arb_enter_p B p N S ar0 ar1 ar2 s 0 b c w h hl h0 h1 h2 (by decide) (by decide) (by decide) (by decide) (.inl rfl) (.inl rfl) hN
  generalize hR : Post encI B p w ((arbIn N s).run S) = R
  have hO : Owes R encI B p w ((arbIn N s).run S) := hR ▸ owes _ _ _ _ _
  clear hR
  unfold arbIn at hO
  have hK := Keep.refl [2, 3, 4] B p w
  clear h0 h1 h2
  go_enter Try.func19, Try.ntmps19
  go_wp2_with fail
  clear c1 c2
  refine tstep hO hK hq (fun _ h => ⟨rfl, h⟩) ?_
  intro v S1 w1 hr hP1 hk1 hK1 hO1
  have hf := hO1.done (v := (0 : Int)) hP1 hK1
  clear hO1 hP1 hK1 hr hk1 hO h hl hK hq
  go_wp2_with fail
  first | exact hf | (go_ret; exact hf)
theorem aaE2 (B p N : Nat) (S : TS) (s : Int) (b c bl bs : Nat) (w : World) (h : Plays B w p S) (hl : RegsAt [2, 3, 4] w p b [ar0, ar1, ar2]) (hN : S.left < N)
    (c1 : w.cell? ⟨bl, 0, none⟩ = some (.slice (some ⟨b, 0, none⟩) 3 c)) (c2 : w.cell? ⟨bs, 0, none⟩ = some (.int .i64 s)) :
    Calls Try.prog 21 #[.pointer (some ⟨p, 0, none⟩), .pointer (some ⟨bl, 0, none⟩), .pointer (some ⟨bs, 0, none⟩)] w (Post encI B p w ((arbIn N s).run S)) := by
  have h0 : ar0.ok := ⟨.inl rfl, by decide, by decide, by decide, fun h => by cases h⟩
  have h1 : ar1.ok := ⟨.inl rfl, by decide, by decide, by decide, fun h => by cases h⟩
  have h2 : ar2.ok := ⟨.inl rfl, by decide, by decide, by decide, fun h => by cases h⟩
  have hq := arb_enter_p B p N S ar0 ar1 ar2 s 0 b c w h hl h0 h1 h2 (by decide) (by decide) (by decide) (by decide) (.inl rfl) (.inl rfl) hN
  generalize hR : Post encI B p w ((arbIn N s).run S) = R
  have hO : Owes R encI B p w ((arbIn N s).run S) := hR ▸ owes _ _ _ _ _
  clear hR
  unfold arbIn at hO
  have hK := Keep.refl [2, 3, 4] B p w
  clear h0 h1 h2
  go_enter Try.func21, Try.ntmps21
  go_wp2_with fail
  clear c1 c2
  refine tstep hO hK hq (fun _ h => ⟨rfl, h⟩) ?_
  intro v S1 w1 hr hP1 hk1 hK1 hO1
  have hf := hO1.done (v := (0 : Int)) hP1 hK1
  clear hO1 hP1 hK1 hr hk1 hO h hl hK hq
  go_wp2_with fail
  first | exact hf | (go_ret; exact hf)
set_option maxRecDepth 100000 in
set_option maxHeartbeats 2000000 in
theorem aalone_walk (side : Bool) (vA : Value) (La : List Int) (w : World) (hA : Ints w vA La) :
    Calls Try.prog 4 #[.bool side, vA] w fun e w' => e = .returned (.bool true) ∧ Ext w w' := by
  obtain ⟨Aa, ca, rfl, p3, p4⟩ := hA.slice
  have hmf : ∀ (fn : Fn) (first cap : Array Value) (w : World), (Instr.makeFunc fn first cap).run Try.prog w = .ok (.func fn first cap) w := fun _ _ _ _ => rfl
  have hX := Ext.refl w
  go_enter Try.func4, Try.ntmps4
  by_cases h1 : 300 < La.length
  · have d1 : decide ((300 : Int) < (La.length : Int)) = true := by rw [decide_eq_true_eq]; omega
    go_wp2_with fail
    refine (alive28 _).mono ?_
    rintro e w7 ⟨rfl, hx7⟩
    have hf := Lib.hid hx7
    clear hx7
    go_wp2_with fail
    go_ret
    exact ⟨rfl, hf.out⟩
  · have d1 : decide ((300 : Int) < (La.length : Int)) = false := by rw [decide_eq_false_iff_not]; omega
    have hAh := Lib.hid hA
    clear hA
    go_wp2_with fail
    refine (awants_p _).mono ?_
    rintro e w1 ⟨v1, rfl, hW, hx⟩
    replace hX := hX.trans hx
    have hSm := some_r v1 _ 2 1 w1 hW (by simp)
    have hlay : layM (List.replicate 3 ⟨-1, 1⟩) 2 1 3 2 = some [ar0, ar1, ar2] := by rfl
    rw [hlay] at hSm
    obtain ⟨Aw, cw, rfl, _, _, _⟩ := hW
    clear hlay hx
    go_wp2_with fail
    refine hSm.mono ?_
    rintro e w2 ⟨v2, rfl, hx2, hrow⟩
    replace hX := hX.trans hx2
    obtain ⟨Ar, cr, rfl, r1, r2, hV⟩ := Recs.of_row hrow
    clear hSm hrow hx2
    obtain ⟨b, rfl, hb, hc⟩ := hV (by simp [regVals])
    simp only [Option.getD_some, List.length_cons, List.length_nil] at *
    obtain ⟨s, hs⟩ : ∃ s : Int, s = if side then 1 else 0 := ⟨_, rfl⟩
    have hs2 : s = 0 ∨ s = 1 := by rw [hs]; cases side <;> simp
    have n1 := (Blk.new w2 (.cells #[.slice (some ⟨b, 0, none⟩) 3 cr] 25)).alloc (.cells #[.int .i64 s] 3)
    have n2 := Blk.new (w2.alloc (.cells #[.slice (some ⟨b, 0, none⟩) 3 cr] 25)) (.cells #[.int .i64 s] 3)
    have x1 := ((Ext.refl w2).alloc (.cells #[.slice (some ⟨b, 0, none⟩) 3 cr] 25)).alloc (.cells #[.int .i64 s] 3)
    simp only [World.size_alloc] at n2
    go_upto_if 23 with fail
    go_cut [] (fun wx => wx = (w2.alloc (.cells #[.slice (some ⟨b, 0, none⟩) 3 cr] 25)).alloc (.cells #[.int .i64 s] 3))
    case first =>
      cases side
      · obtain rfl : s = 0 := by simpa using hs
        clear hs hs2 n1 n2 x1 hc hV
        go_wp2_with fail
        go_meet
        rfl
      · obtain rfl : s = 1 := by simpa using hs
        clear hs hs2 n1 n2 x1 hc hV
        go_wp2_with fail
        go_meet
        rfl
    case rest =>
      obtain rfl := hcut
      replace hX := hX.trans x1
      have hb3 := Nat.lt_of_lt_of_le hb x1.size
      have hc3 : Hid (∀ (i : Nat) u, (List.flatMap regVals [ar0, ar1, ar2])[i]? = some u → ((w2.alloc (.cells #[.slice (some ⟨b, 0, none⟩) 3 cr] 25)).alloc (.cells #[.int .i64 s] 3)).cell? ⟨b, i, none⟩ = some u) := Lib.hid fun i u hu => (x1.cell (p := ⟨b, i, none⟩) hb).trans (hc i u hu)
      clear x1 hb hc hV hs
      generalize hz2 : w2.heap.size = z at *
      generalize World.alloc (World.alloc w2 _) _ = V0 at *
      clear hz2
      have hA := ints_new V0 [0, 0, 0] (by simp)
      have xa := (Ext.refl V0).alloc (.cells (([0, 0, 0] : List Int).map (Value.int .i64)).toArray 3)
      simp only [List.map_cons, List.map_nil, List.length_cons, List.length_nil] at hA xa
      go_wp2_with fail
      have hsz : V0.heap.size < (V0.alloc (.cells #[.int .i64 0, .int .i64 0, .int .i64 0] 3)).heap.size := by simp
      generalize hzv : V0.heap.size = zv at hA hsz ⊢
      generalize V0.alloc _ = V1 at *
      clear hzv
      have hres : ((arbIn 4 s).run (TS0 [] [0, 0, 0])).1 = some 0 ∧ ((arbIn 4 s).run (TS0 [] [0, 0, 0])).2.acc.length = 3 := by
        rcases hs2 with rfl | rfl <;> exact ⟨rfl, rfl⟩
      have hl1 : (TS0 [] [0, 0, 0]).left < 4 := by decide
      have hPl := play_int 19 #[.pointer (some ⟨z, 0, none⟩), .pointer (some ⟨z + 1, 0, none⟩)] (arbIn 4 s) none 0 [] (some ⟨zv, 0, none⟩) 3 [0, 0, 0] V1 (Ints.nil _) (by simp) hA (by decide) (fun k hk => by simp only [Value.ownBlock, Option.some.injEq] at hk; omega) (fun _ _ => rfl)
        (fun W p hxW hP => aaE1 _ p 4 _ s b cr z (z + 1) W hP (regsP hb3 hc3.out (xa.trans hxW) hP xa.size) hl1 ((n1.ext (xa.trans hxW)).cells 0) ((n2.ext (xa.trans hxW)).cells 0))
      obtain ⟨e1, e2⟩ := hres
      rw [e1] at hPl
      generalize ((arbIn 4 s).run (TS0 [] [0, 0, 0])).2 = S1 at *
      simp only [Option.getD_some, Option.isSome_some] at hPl
      have e2h := Lib.hid e2
      clear e1 e2 hA hsz hl1
      refine hPl.mono ?_
      rintro e y1 ⟨v1, rfl, hO, hx1⟩
      obtain ⟨A1, c1, A1', c1', vs1, L1, rfl, hO⟩ := hO
      obtain ⟨As1, k1, hvs1, _, _⟩ := hO.locs.slice
      subst hvs1
      unfold outV
      rw [e2h.out]
      clear hO hPl
      replace xa := xa.trans hx1
      have m1 := Blk.new y1 (.cells #[.bool true, .slice A1 3 c1, .slice A1' S1.nts.length c1', .slice As1 (shortL L1).length k1] 32)
      replace xa := xa.alloc (.cells #[.bool true, .slice A1 3 c1, .slice A1' S1.nts.length c1', .slice As1 (shortL L1).length k1] 32)
      clear hx1
      go_wp2_with fail
      generalize hzy : y1.heap.size = z1 at *
      generalize y1.alloc _ = Y1 at *
      clear hzy
      refine (tame_r _ La 1 _ (hAh.out.ext (hX.trans xa))).mono ?_
      rintro e wA ⟨va, rfl, hra, hxa⟩
      have hIa := hra.ints
      have hba : ∀ k, va.ownBlock = some k → k < wA.heap.size := fun k hk => (hra.lt k hk).2
      have la : (tameL La 1).length ≤ 300 := by unfold tameL; simp; omega
      replace xa := xa.trans hxa
      clear hra hxa hAh m1
      generalize tameL La 1 = a at *
      obtain ⟨Aq, cq, rfl, _, _⟩ := hIa.slice
      have hl2 : (TS0 [] a).left < a.length + 1 := by unfold TS.left TS0; simp
      have hPl := play_int 21 #[.pointer (some ⟨z, 0, none⟩), .pointer (some ⟨z + 1, 0, none⟩)] (arbIn (a.length + 1) s) none 0 [] Aq cq a wA (Ints.nil _) (by simp) hIa (by unfold maxAns; omega) hba (fun _ _ => rfl)
        (fun W p hxW hP => aaE2 _ p (a.length + 1) _ s b cr z (z + 1) W hP (regsP hb3 hc3.out (xa.trans hxW) hP xa.size) hl2 ((n1.ext (xa.trans hxW)).cells 0) ((n2.ext (xa.trans hxW)).cells 0))
      have hland := Lib.hid (arb_lands a hs2)
      have hnone := Lib.hid (fun S' (h : (arbIn (a.length + 1) s).run (TS0 [] a) = (none, S')) => Prog.run_none _ _ S' h (Nat.zero_le _))
      have hIah := Lib.hid hIa
      clear hIa hba hl2
      generalize (arbIn (a.length + 1) s).run (TS0 [] a) = r at *
      obtain ⟨q, S2⟩ := r
      simp only at hPl hland
      go_wp2_with fail
      refine hPl.mono ?_
      rintro e y2 ⟨v2, rfl, hO, hx2⟩
      obtain ⟨A2, c2, A2', c2', vs2, L2, rfl, hO⟩ := hO
      obtain ⟨As2, k2, hvs2, _, _⟩ := hO.locs.slice
      subst hvs2
      unfold outV
      clear hPl
      cases q with
      | none =>
        have hlen := hnone.out S2 rfl
        rw [show (TS0 [] a).ans = a from rfl] at hlen
        simp only [Option.isSome_none, Option.getD_none]
        have hXh := Lib.hid (hX.trans ((xa.trans hx2).alloc (.cells #[.bool false, .slice A2 S2.acc.length c2, .slice A2' S2.nts.length c2', .slice As2 (shortL L2).length k2] 32)))
        have m2 := (Blk.new y2 (.cells #[.bool false, .slice A2 S2.acc.length c2, .slice A2' S2.nts.length c2', .slice As2 (shortL L2).length k2] 32)).cells
        have dl : ((S2.acc.length : Int) == (a.length : Int) + 1) = true := by rw [beq_iff_eq, hlen]; rfl
        clear hO hx2 hX xa hland hnone hlen
        go_wp2_with fail
        refine (alive28 _).mono ?_
        rintro e w9 ⟨rfl, hx9⟩
        have hf := Lib.hid (hXh.out.trans hx9)
        clear hx9
        go_wp2_with fail
        go_ret
        exact ⟨rfl, hf.out⟩
      | some qv =>
        obtain ⟨⟨k, hk, hor⟩, hge⟩ := hland.out rfl
        simp only [Option.isSome_some, Option.getD_some]
        rw [hk]
        have hk2 : 2 ≤ k := by omega
        clear hge
        rcases hor with ⟨hx, hak⟩ | ⟨hx, v, hak, hvs⟩
        · have hka : k < a.length := (List.getElem?_eq_some_iff.1 hak).1
          have hav : a.getD k 0 = 0 := by rw [List.getD_eq_getElem?_getD, hak]; rfl
          rcases hs2 with rfl | rfl
          · skip
            obtain ⟨u, rfl, hu, z0, z1, z2⟩ := hO.accs.at_ hx
            simp only at z0 z1 z2
            have g9 := (Blk.new y2 (.cells #[.bool true, .slice (some ⟨u, 0, none⟩) (k + 1) c2, .slice A2' S2.nts.length c2', .slice As2 (shortL L2).length k2] 32)).alloc (.cells #[.int .i64 1, .int .i64 4, .int .i64 0] 39)
            have g8 := Blk.new (y2.alloc (.cells #[.bool true, .slice (some ⟨u, 0, none⟩) (k + 1) c2, .slice A2' S2.nts.length c2', .slice As2 (shortL L2).length k2] 32)) (.cells #[.int .i64 1, .int .i64 4, .int .i64 0] 39)
            have z0' := (((Ext.refl y2).alloc (.cells #[.bool true, .slice (some ⟨u, 0, none⟩) (k + 1) c2, .slice A2' S2.nts.length c2', .slice As2 (shortL L2).length k2] 32)).cell (p := ⟨u, k * 3, none⟩) hu).trans z0
            have z1' := (((Ext.refl y2).alloc (.cells #[.bool true, .slice (some ⟨u, 0, none⟩) (k + 1) c2, .slice A2' S2.nts.length c2', .slice As2 (shortL L2).length k2] 32)).cell (p := ⟨u, k * 3 + 1, none⟩) hu).trans z1
            have z2' := (((Ext.refl y2).alloc (.cells #[.bool true, .slice (some ⟨u, 0, none⟩) (k + 1) c2, .slice A2' S2.nts.length c2', .slice As2 (shortL L2).length k2] 32)).cell (p := ⟨u, k * 3 + 2, none⟩) hu).trans z2
            have hY := ((xa.trans hx2).alloc (.cells #[.bool true, .slice (some ⟨u, 0, none⟩) (k + 1) c2, .slice A2' S2.nts.length c2', .slice As2 (shortL L2).length k2] 32)).alloc (.cells #[.int .i64 1, .int .i64 4, .int .i64 0] 39)
            have hcn := (Blk.new y2 (.cells #[.bool true, .slice (some ⟨u, 0, none⟩) (k + 1) c2, .slice A2' S2.nts.length c2', .slice As2 (shortL L2).length k2] 32)).cells
            simp only [World.size_alloc] at g8
            replace n1 := n1.ext hY
            replace n2 := n2.ext hY
            have q1 := (hY.cell (p := ⟨b, 8, none⟩) hb3).trans (hc3.out 8 _ rfl)
            have q2 := (hY.cell (p := ⟨b, 15, none⟩) hb3).trans (hc3.out 15 _ rfl)
            have hbY := Nat.lt_of_lt_of_le hb3 hY.size
            have hIY := hIah.out.ext ((hx2.alloc (.cells #[.bool true, .slice (some ⟨u, 0, none⟩) (k + 1) c2, .slice A2' S2.nts.length c2', .slice As2 (shortL L2).length k2] 32)).alloc (.cells #[.int .i64 1, .int .i64 4, .int .i64 0] 39))
            obtain ⟨ba, oa, rfl, hba2, hcell⟩ := hIY.at_ hka
            rw [hav] at hcell
            have hXh := Lib.hid (hX.trans hY)
            have hih := Lib.hid (And.intro g8 (And.intro n1 (And.intro n2 (And.intro q1 (And.intro q2 hcell)))))
            have hbb := Lib.hid (And.intro hbY hba2)
            clear hO hx2 hX xa hland hnone hIY hIah hc3 g8 g9 n1 n2 q1 q2 hcell z0 z1 z2 hY hx hba2 hbY
            go_wp2_with fail
            generalize hY2 : World.alloc (World.alloc y2 _) _ = Y at *
            clear hcn z0' z1' z2' hY2
            obtain ⟨g8, n1, n2, q1, q2, q3⟩ := hih.out
            have hS : ∀ w', Ext Y w' → ((∀ i, w'.cell? ⟨y2.heap.size + 1, i, none⟩ = (#[.int .i64 1, .int .i64 4, .int .i64 0] : Array Value)[i]?) ∧ (∀ i, w'.cell? ⟨z, i, none⟩ = (#[.slice (some ⟨b, 0, none⟩) 3 cr] : Array Value)[i]?) ∧ (∀ i, w'.cell? ⟨z + 1, i, none⟩ = (#[.int .i64 0] : Array Value)[i]?) ∧ w'.cell? ⟨b, 8, none⟩ = some (.int .i64 4) ∧ w'.cell? ⟨b, 15, none⟩ = some (.int .i64 5) ∧ w'.cell? ⟨ba, oa + k, none⟩ = some (.int .i64 0)) := fun w' hx => ⟨(Blk.ext g8 hx).cells, (n1.ext hx).cells, (n2.ext hx).cells, (hx.cell (p := ⟨b, 8, none⟩) hbb.out.1).trans q1, (hx.cell (p := ⟨b, 15, none⟩) hbb.out.1).trans q2, (hx.cell (p := ⟨ba, oa + k, none⟩) hbb.out.2).trans q3⟩
            clear g8 n1 n2 q1 q2 q3 hih hk hak hav
            have hE := (Ext.refl Y).drew
            have hw : IntKind.i64.wrap (k : Int) = (k : Int) := by rw [IntKind.wrap_i64]; omega
            have hw1 : IntKind.i64.wrap (1 : Int) = 1 := by decide
            have hw0 : IntKind.i64.wrap (0 : Int) = 0 := by decide
            have d3 : decide ((3 : Int) ≤ (k : Int) + 1) = true := by rw [decide_eq_true_eq]; omega
            refine wp_region_held_drew (S := fun w' => ((∀ i, w'.cell? ⟨y2.heap.size + 1, i, none⟩ = (#[.int .i64 1, .int .i64 4, .int .i64 0] : Array Value)[i]?) ∧ (∀ i, w'.cell? ⟨z, i, none⟩ = (#[.slice (some ⟨b, 0, none⟩) 3 cr] : Array Value)[i]?) ∧ (∀ i, w'.cell? ⟨z + 1, i, none⟩ = (#[.int .i64 0] : Array Value)[i]?) ∧ w'.cell? ⟨b, 8, none⟩ = some (.int .i64 4) ∧ w'.cell? ⟨b, 15, none⟩ = some (.int .i64 5) ∧ w'.cell? ⟨ba, oa + k, none⟩ = some (.int .i64 0))) rfl (hS _ hE) (fun hHeld => ?_)
            refine wpAnyH_take (i := 0) (v := ?_) rfl (by kernel_rfl) (by kernel_rfl) (by kernel_rfl) (fun _ _ _ h => h) (Or.inl ⟨by kernel_rfl, ?_⟩) (by assumption) ?_
            rotate_left
            · (intro w hSw; (try dsimp only at hSw); go_simp; try with_reducible rfl)
            try simp only [put_pack]
            refine wpAnyH_take (i := 1) (v := ?_) rfl (by kernel_rfl) (by kernel_rfl) (by kernel_rfl) (fun _ _ _ h => h) (Or.inl ⟨by kernel_rfl, ?_⟩) (by assumption) ?_
            rotate_left
            · (intro w hSw; (try dsimp only at hSw); go_simp; try with_reducible rfl)
            try simp only [put_pack]
            refine wpAnyH_take (i := 2) (v := ?_) rfl (by kernel_rfl) (by kernel_rfl) (by kernel_rfl) (fun _ _ _ h => h) (Or.inl ⟨by kernel_rfl, ?_⟩) (by assumption) ?_
            rotate_left
            · (intro w hSw; (try dsimp only at hSw); go_simp; try with_reducible rfl)
            try simp only [put_pack]
            refine wpAnyH_take (i := 3) (v := ?_) rfl (by kernel_rfl) (by kernel_rfl) (by kernel_rfl) (fun _ _ _ h => h) (Or.inl ⟨by kernel_rfl, ?_⟩) (by assumption) ?_
            rotate_left
            · (intro w hSw; (try dsimp only at hSw); go_simp; try with_reducible rfl)
            try simp only [put_pack]
            refine wpAnyH_take (i := 4) (v := ?_) rfl (by kernel_rfl) (by kernel_rfl) (by kernel_rfl) (fun _ _ _ h => h) (Or.inl ⟨by kernel_rfl, ?_⟩) (by assumption) ?_
            rotate_left
            · (intro w hSw; (try dsimp only at hSw); go_simp; try with_reducible rfl)
            try simp only [put_pack]
            refine wpAnyH_take (i := 5) (v := ?_) rfl (by kernel_rfl) (by kernel_rfl) (by kernel_rfl) (fun _ _ _ h => h) (Or.inl ⟨by kernel_rfl, ?_⟩) (by assumption) ?_
            rotate_left
            · (intro w hSw; (try dsimp only at hSw); go_simp; try with_reducible rfl)
            try simp only [put_pack]
            refine wpAnyH_take (i := 6) (v := ?_) rfl (by kernel_rfl) (by kernel_rfl) (by kernel_rfl) (fun _ _ _ h => h) (Or.inl ⟨by kernel_rfl, ?_⟩) (by assumption) ?_
            rotate_left
            · (intro w hSw; (try dsimp only at hSw); go_simp; try with_reducible rfl)
            try simp only [put_pack]
            refine wpAnyH_take (i := 7) (v := ?_) rfl (by kernel_rfl) (by kernel_rfl) (by kernel_rfl) (fun _ _ _ h => h) (Or.inl ⟨by kernel_rfl, ?_⟩) (by assumption) ?_
            rotate_left
            · (intro w hSw; (try dsimp only at hSw); go_simp; try with_reducible rfl)
            try simp only [put_pack]
            refine wpAnyH_take (i := 8) (v := ?_) rfl (by kernel_rfl) (by kernel_rfl) (by kernel_rfl) (fun _ _ _ h => h) (Or.inl ⟨by kernel_rfl, ?_⟩) (by assumption) ?_
            rotate_left
            · (intro w hSw; (try dsimp only at hSw); go_simp; try with_reducible rfl)
            try simp only [put_pack]
            refine wpAnyH_take (i := 9) (v := ?_) rfl (by kernel_rfl) (by kernel_rfl) (by kernel_rfl) (fun _ _ _ h => h) (Or.inl ⟨by kernel_rfl, ?_⟩) (by assumption) ?_
            rotate_left
            · (intro w hSw; (try dsimp only at hSw); go_simp; try with_reducible rfl)
            try simp only [put_pack]
            refine wpAnyH_take (i := 10) (v := ?_) rfl (by kernel_rfl) (by kernel_rfl) (by kernel_rfl) (fun _ _ _ h => h) (Or.inl ⟨by kernel_rfl, ?_⟩) (by assumption) ?_
            rotate_left
            · (intro w hSw; (try dsimp only at hSw); go_simp; try with_reducible rfl)
            try simp only [put_pack]
            refine wpAnyH_take (i := 11) (v := ?_) rfl (by kernel_rfl) (by kernel_rfl) (by kernel_rfl) (fun _ _ _ h => h) (Or.inl ⟨by kernel_rfl, ?_⟩) (by assumption) ?_
            rotate_left
            · (intro w hSw; (try dsimp only at hSw); go_simp; try with_reducible rfl)
            try simp only [put_pack]
            refine wpAnyH_take (i := 12) (v := ?_) rfl (by kernel_rfl) (by kernel_rfl) (by kernel_rfl) (fun _ _ _ h => h) (Or.inl ⟨by kernel_rfl, ?_⟩) (by assumption) ?_
            rotate_left
            · (intro w hSw; (try dsimp only at hSw); go_simp; try with_reducible rfl)
            try simp only [put_pack]
            refine wpAnyH_take (i := 13) (v := ?_) rfl (by kernel_rfl) (by kernel_rfl) (by kernel_rfl) (fun _ _ _ h => h) (Or.inl ⟨by kernel_rfl, ?_⟩) (by assumption) ?_
            rotate_left
            · (intro w hSw; (try dsimp only at hSw); go_simp; try with_reducible rfl)
            try simp only [put_pack]
            refine wpAnyH_take (i := 14) (v := ?_) rfl (by kernel_rfl) (by kernel_rfl) (by kernel_rfl) (fun _ _ _ h => h) (Or.inl ⟨by kernel_rfl, ?_⟩) (by assumption) ?_
            rotate_left
            · (intro w hSw; (try dsimp only at hSw); go_simp; try with_reducible rfl)
            try simp only [put_pack]
            refine wpAnyH_take (i := 15) (v := ?_) rfl (by kernel_rfl) (by kernel_rfl) (by kernel_rfl) (fun _ _ _ h => h) (Or.inl ⟨by kernel_rfl, ?_⟩) (by assumption) ?_
            rotate_left
            · (intro w hSw; (try dsimp only at hSw); go_simp; try with_reducible rfl)
            try simp only [put_pack]
            refine wpAnyH_take (i := 16) (v := ?_) rfl (by kernel_rfl) (by kernel_rfl) (by kernel_rfl) (fun _ _ _ h => h) (Or.inl ⟨by kernel_rfl, ?_⟩) (by assumption) ?_
            rotate_left
            · (intro w hSw; (try dsimp only at hSw); go_simp; try with_reducible rfl)
            try simp only [put_pack]
            refine wpAnyH_take (i := 17) (v := ?_) rfl (by kernel_rfl) (by kernel_rfl) (by kernel_rfl) (fun _ _ _ h => h) (Or.inl ⟨by kernel_rfl, ?_⟩) (by assumption) ?_
            rotate_left
            · (intro w hSw; (try dsimp only at hSw); go_simp; try with_reducible rfl)
            try simp only [put_pack]
            refine wpAnyH_take (i := 18) (v := ?_) rfl (by kernel_rfl) (by kernel_rfl) (by kernel_rfl) (fun _ _ _ h => h) (Or.inl ⟨by kernel_rfl, ?_⟩) (by assumption) ?_
            rotate_left
            · (intro w hSw; (try dsimp only at hSw); go_simp; try with_reducible rfl)
            try simp only [put_pack]
            refine wpAnyH_take (i := 19) (v := ?_) rfl (by kernel_rfl) (by kernel_rfl) (by kernel_rfl) (fun _ _ _ h => h) (Or.inl ⟨by kernel_rfl, ?_⟩) (by assumption) ?_
            rotate_left
            · (intro w hSw; (try dsimp only at hSw); go_simp; try with_reducible rfl)
            try simp only [put_pack]
            refine wpAnyH_take (i := 20) (v := ?_) rfl (by kernel_rfl) (by kernel_rfl) (by kernel_rfl) (fun _ _ _ h => h) (Or.inl ⟨by kernel_rfl, ?_⟩) (by assumption) ?_
            rotate_left
            · (intro w hSw; (try dsimp only at hSw); go_simp; try with_reducible rfl)
            try simp only [put_pack]
            refine wpAnyH_take (i := 21) (v := undef) rfl (by kernel_rfl) (by kernel_rfl) (by kernel_rfl) (fun _ _ _ h => h) (Or.inr ⟨by kernel_rfl, rfl⟩) (by assumption) ?_
            try simp only [put_pack]
            refine wpAnyH_take (i := 22) (v := undef) rfl (by kernel_rfl) (by kernel_rfl) (by kernel_rfl) (fun _ _ _ h => h) (Or.inr ⟨by kernel_rfl, rfl⟩) (by assumption) ?_
            try simp only [put_pack]
            refine wpAnyH_take (i := 23) (v := undef) rfl (by kernel_rfl) (by kernel_rfl) (by kernel_rfl) (fun _ _ _ h => h) (Or.inr ⟨by kernel_rfl, rfl⟩) (by assumption) ?_
            try simp only [put_pack]
            refine wpAnyH_take (i := 24) (v := undef) rfl (by kernel_rfl) (by kernel_rfl) (by kernel_rfl) (fun _ _ _ h => h) (Or.inr ⟨by kernel_rfl, rfl⟩) (by assumption) ?_
            try simp only [put_pack]
            refine wpAnyH_take (i := 25) (v := undef) rfl (by kernel_rfl) (by kernel_rfl) (by kernel_rfl) (fun _ _ _ h => h) (Or.inr ⟨by kernel_rfl, rfl⟩) (by assumption) ?_
            try simp only [put_pack]
            refine wpAnyH_take (i := 26) (v := undef) rfl (by kernel_rfl) (by kernel_rfl) (by kernel_rfl) (fun _ _ _ h => h) (Or.inr ⟨by kernel_rfl, rfl⟩) (by assumption) ?_
            try simp only [put_pack]
            refine wpAnyH_take (i := 27) (v := undef) rfl (by kernel_rfl) (by kernel_rfl) (by kernel_rfl) (fun _ _ _ h => h) (Or.inr ⟨by kernel_rfl, rfl⟩) (by assumption) ?_
            try simp only [put_pack]
            refine wpAnyH_take (i := 28) (v := undef) rfl (by kernel_rfl) (by kernel_rfl) (by kernel_rfl) (fun _ _ _ h => h) (Or.inr ⟨by kernel_rfl, rfl⟩) (by assumption) ?_
            try simp only [put_pack]
            refine wpAnyH_take (i := 29) (v := undef) rfl (by kernel_rfl) (by kernel_rfl) (by kernel_rfl) (fun _ _ _ h => h) (Or.inr ⟨by kernel_rfl, rfl⟩) (by assumption) ?_
            try simp only [put_pack]
            refine wpAnyH_take (i := 30) (v := undef) rfl (by kernel_rfl) (by kernel_rfl) (by kernel_rfl) (fun _ _ _ h => h) (Or.inr ⟨by kernel_rfl, rfl⟩) (by assumption) ?_
            try simp only [put_pack]
            refine wpAnyH_take (i := 31) (v := undef) rfl (by kernel_rfl) (by kernel_rfl) (by kernel_rfl) (fun _ _ _ h => h) (Or.inr ⟨by kernel_rfl, rfl⟩) (by assumption) ?_
            try simp only [put_pack]
            refine wpAnyH_take (i := 32) (v := undef) rfl (by kernel_rfl) (by kernel_rfl) (by kernel_rfl) (fun _ _ _ h => h) (Or.inr ⟨by kernel_rfl, rfl⟩) (by assumption) ?_
            try simp only [put_pack]
            refine wpAnyH_take (i := 33) (v := undef) rfl (by kernel_rfl) (by kernel_rfl) (by kernel_rfl) (fun _ _ _ h => h) (Or.inr ⟨by kernel_rfl, rfl⟩) (by assumption) ?_
            try simp only [put_pack]
            refine wpAnyH_take (i := 34) (v := undef) rfl (by kernel_rfl) (by kernel_rfl) (by kernel_rfl) (fun _ _ _ h => h) (Or.inr ⟨by kernel_rfl, rfl⟩) (by assumption) ?_
            try simp only [put_pack]
            refine wpAnyH_take (i := 35) (v := undef) rfl (by kernel_rfl) (by kernel_rfl) (by kernel_rfl) (fun _ _ _ h => h) (Or.inr ⟨by kernel_rfl, rfl⟩) (by assumption) ?_
            try simp only [put_pack]
            refine wpAnyH_take (i := 36) (v := undef) rfl (by kernel_rfl) (by kernel_rfl) (by kernel_rfl) (fun _ _ _ h => h) (Or.inr ⟨by kernel_rfl, rfl⟩) (by assumption) ?_
            try simp only [put_pack]
            refine wpAnyH_take (i := 37) (v := ?_) rfl (by kernel_rfl) (by kernel_rfl) (by kernel_rfl) (fun _ _ _ h => h) (Or.inl ⟨by kernel_rfl, ?_⟩) (by assumption) ?_
            rotate_left
            · (intro w hSw; (try dsimp only at hSw); go_simp; try with_reducible rfl)
            try simp only [put_pack]
            refine wpAnyH_take (i := 38) (v := ?_) rfl (by kernel_rfl) (by kernel_rfl) (by kernel_rfl) (fun _ _ _ h => h) (Or.inl ⟨by kernel_rfl, ?_⟩) (by assumption) ?_
            rotate_left
            · (intro w hSw; (try dsimp only at hSw); go_simp; try with_reducible rfl)
            try simp only [put_pack]
            refine wpAnyH_take (i := 39) (v := ?_) rfl (by kernel_rfl) (by kernel_rfl) (by kernel_rfl) (fun _ _ _ h => h) (Or.inl ⟨by kernel_rfl, ?_⟩) (by assumption) ?_
            rotate_left
            · (intro w hSw; (try dsimp only at hSw); go_simp; try with_reducible rfl)
            try simp only [put_pack]
            refine wpAnyH_ready (rs := [40]) (by kernel_rfl) (by simp) ?_
            refine AllReadyH.cons rfl (fun K hKK => ?_) AllReadyH.nil
            go_simp
            refine (alive28 _).mono ?_
            rintro e w9 ⟨rfl, hx9⟩
            replace hE := hE.trans hx9
            refine hKK.out _ _ (hS _ hE) (fun hHeld => ?_)
            clear hKK K
            try dsimp only
            refine wpAnyH_take (i := 41) (v := ?_) rfl (by kernel_rfl) (by kernel_rfl) (by kernel_rfl) (fun _ _ _ h => h) (Or.inl ⟨by kernel_rfl, ?_⟩) (by assumption) ?_
            rotate_left
            · (intro w hSw; (try dsimp only at hSw); go_simp; try with_reducible rfl)
            try simp only [put_pack]
            refine wpAnyH_take (i := 42) (v := ?_) rfl (by kernel_rfl) (by kernel_rfl) (by kernel_rfl) (fun _ _ _ h => h) (Or.inl ⟨by kernel_rfl, ?_⟩) (by assumption) ?_
            rotate_left
            · (intro w hSw; (try dsimp only at hSw); go_simp; try with_reducible rfl)
            try simp only [put_pack]
            refine wpAnyH_done (by kernel_rfl) ?_ _
            go_simp
            go_wp2_with fail
            go_ret
            exact ⟨rfl, hXh.out.trans hE⟩
          · skip
            obtain ⟨u, rfl, hu, z0, z1, z2⟩ := hO.accs.at_ hx
            simp only at z0 z1 z2
            have g9 := (Blk.new y2 (.cells #[.bool true, .slice (some ⟨u, 0, none⟩) (k + 1) c2, .slice A2' S2.nts.length c2', .slice As2 (shortL L2).length k2] 32)).alloc (.cells #[.int .i64 1, .int .i64 3, .int .i64 0] 39)
            have g8 := Blk.new (y2.alloc (.cells #[.bool true, .slice (some ⟨u, 0, none⟩) (k + 1) c2, .slice A2' S2.nts.length c2', .slice As2 (shortL L2).length k2] 32)) (.cells #[.int .i64 1, .int .i64 3, .int .i64 0] 39)
            have z0' := (((Ext.refl y2).alloc (.cells #[.bool true, .slice (some ⟨u, 0, none⟩) (k + 1) c2, .slice A2' S2.nts.length c2', .slice As2 (shortL L2).length k2] 32)).cell (p := ⟨u, k * 3, none⟩) hu).trans z0
            have z1' := (((Ext.refl y2).alloc (.cells #[.bool true, .slice (some ⟨u, 0, none⟩) (k + 1) c2, .slice A2' S2.nts.length c2', .slice As2 (shortL L2).length k2] 32)).cell (p := ⟨u, k * 3 + 1, none⟩) hu).trans z1
            have z2' := (((Ext.refl y2).alloc (.cells #[.bool true, .slice (some ⟨u, 0, none⟩) (k + 1) c2, .slice A2' S2.nts.length c2', .slice As2 (shortL L2).length k2] 32)).cell (p := ⟨u, k * 3 + 2, none⟩) hu).trans z2
            have hY := ((xa.trans hx2).alloc (.cells #[.bool true, .slice (some ⟨u, 0, none⟩) (k + 1) c2, .slice A2' S2.nts.length c2', .slice As2 (shortL L2).length k2] 32)).alloc (.cells #[.int .i64 1, .int .i64 3, .int .i64 0] 39)
            have hcn := (Blk.new y2 (.cells #[.bool true, .slice (some ⟨u, 0, none⟩) (k + 1) c2, .slice A2' S2.nts.length c2', .slice As2 (shortL L2).length k2] 32)).cells
            simp only [World.size_alloc] at g8
            replace n1 := n1.ext hY
            replace n2 := n2.ext hY
            have q1 := (hY.cell (p := ⟨b, 1, none⟩) hb3).trans (hc3.out 1 _ rfl)
            have q2 := (hY.cell (p := ⟨b, 15, none⟩) hb3).trans (hc3.out 15 _ rfl)
            have hbY := Nat.lt_of_lt_of_le hb3 hY.size
            have hIY := hIah.out.ext ((hx2.alloc (.cells #[.bool true, .slice (some ⟨u, 0, none⟩) (k + 1) c2, .slice A2' S2.nts.length c2', .slice As2 (shortL L2).length k2] 32)).alloc (.cells #[.int .i64 1, .int .i64 3, .int .i64 0] 39))
            obtain ⟨ba, oa, rfl, hba2, hcell⟩ := hIY.at_ hka
            rw [hav] at hcell
            have hXh := Lib.hid (hX.trans hY)
            have hih := Lib.hid (And.intro g8 (And.intro n1 (And.intro n2 (And.intro q1 (And.intro q2 hcell)))))
            have hbb := Lib.hid (And.intro hbY hba2)
            clear hO hx2 hX xa hland hnone hIY hIah hc3 g8 g9 n1 n2 q1 q2 hcell z0 z1 z2 hY hx hba2 hbY
            go_wp2_with fail
            generalize hY2 : World.alloc (World.alloc y2 _) _ = Y at *
            clear hcn z0' z1' z2' hY2
            obtain ⟨g8, n1, n2, q1, q2, q3⟩ := hih.out
            have hS : ∀ w', Ext Y w' → ((∀ i, w'.cell? ⟨y2.heap.size + 1, i, none⟩ = (#[.int .i64 1, .int .i64 3, .int .i64 0] : Array Value)[i]?) ∧ (∀ i, w'.cell? ⟨z, i, none⟩ = (#[.slice (some ⟨b, 0, none⟩) 3 cr] : Array Value)[i]?) ∧ (∀ i, w'.cell? ⟨z + 1, i, none⟩ = (#[.int .i64 1] : Array Value)[i]?) ∧ w'.cell? ⟨b, 1, none⟩ = some (.int .i64 3) ∧ w'.cell? ⟨b, 15, none⟩ = some (.int .i64 5) ∧ w'.cell? ⟨ba, oa + k, none⟩ = some (.int .i64 0)) := fun w' hx => ⟨(Blk.ext g8 hx).cells, (n1.ext hx).cells, (n2.ext hx).cells, (hx.cell (p := ⟨b, 1, none⟩) hbb.out.1).trans q1, (hx.cell (p := ⟨b, 15, none⟩) hbb.out.1).trans q2, (hx.cell (p := ⟨ba, oa + k, none⟩) hbb.out.2).trans q3⟩
            clear g8 n1 n2 q1 q2 q3 hih hk hak hav
            have hE := (Ext.refl Y).drew
            have hw : IntKind.i64.wrap (k : Int) = (k : Int) := by rw [IntKind.wrap_i64]; omega
            have hw1 : IntKind.i64.wrap (1 : Int) = 1 := by decide
            have hw0 : IntKind.i64.wrap (0 : Int) = 0 := by decide
            have d3 : decide ((3 : Int) ≤ (k : Int) + 1) = true := by rw [decide_eq_true_eq]; omega
            refine wp_region_held_drew (S := fun w' => ((∀ i, w'.cell? ⟨y2.heap.size + 1, i, none⟩ = (#[.int .i64 1, .int .i64 3, .int .i64 0] : Array Value)[i]?) ∧ (∀ i, w'.cell? ⟨z, i, none⟩ = (#[.slice (some ⟨b, 0, none⟩) 3 cr] : Array Value)[i]?) ∧ (∀ i, w'.cell? ⟨z + 1, i, none⟩ = (#[.int .i64 1] : Array Value)[i]?) ∧ w'.cell? ⟨b, 1, none⟩ = some (.int .i64 3) ∧ w'.cell? ⟨b, 15, none⟩ = some (.int .i64 5) ∧ w'.cell? ⟨ba, oa + k, none⟩ = some (.int .i64 0))) rfl (hS _ hE) (fun hHeld => ?_)
            refine wpAnyH_take (i := 0) (v := ?_) rfl (by kernel_rfl) (by kernel_rfl) (by kernel_rfl) (fun _ _ _ h => h) (Or.inl ⟨by kernel_rfl, ?_⟩) (by assumption) ?_
            rotate_left
            · (intro w hSw; (try dsimp only at hSw); go_simp; try with_reducible rfl)
            try simp only [put_pack]
            refine wpAnyH_take (i := 1) (v := ?_) rfl (by kernel_rfl) (by kernel_rfl) (by kernel_rfl) (fun _ _ _ h => h) (Or.inl ⟨by kernel_rfl, ?_⟩) (by assumption) ?_
            rotate_left
            · (intro w hSw; (try dsimp only at hSw); go_simp; try with_reducible rfl)
            try simp only [put_pack]
            refine wpAnyH_take (i := 2) (v := ?_) rfl (by kernel_rfl) (by kernel_rfl) (by kernel_rfl) (fun _ _ _ h => h) (Or.inl ⟨by kernel_rfl, ?_⟩) (by assumption) ?_
            rotate_left
            · (intro w hSw; (try dsimp only at hSw); go_simp; try with_reducible rfl)
            try simp only [put_pack]
            refine wpAnyH_take (i := 3) (v := ?_) rfl (by kernel_rfl) (by kernel_rfl) (by kernel_rfl) (fun _ _ _ h => h) (Or.inl ⟨by kernel_rfl, ?_⟩) (by assumption) ?_
            rotate_left
            · (intro w hSw; (try dsimp only at hSw); go_simp; try with_reducible rfl)
            try simp only [put_pack]
            refine wpAnyH_take (i := 4) (v := ?_) rfl (by kernel_rfl) (by kernel_rfl) (by kernel_rfl) (fun _ _ _ h => h) (Or.inl ⟨by kernel_rfl, ?_⟩) (by assumption) ?_
            rotate_left
            · (intro w hSw; (try dsimp only at hSw); go_simp; try with_reducible rfl)
            try simp only [put_pack]
            refine wpAnyH_take (i := 5) (v := ?_) rfl (by kernel_rfl) (by kernel_rfl) (by kernel_rfl) (fun _ _ _ h => h) (Or.inl ⟨by kernel_rfl, ?_⟩) (by assumption) ?_
            rotate_left
            · (intro w hSw; (try dsimp only at hSw); go_simp; try with_reducible rfl)
            try simp only [put_pack]
            refine wpAnyH_take (i := 6) (v := ?_) rfl (by kernel_rfl) (by kernel_rfl) (by kernel_rfl) (fun _ _ _ h => h) (Or.inl ⟨by kernel_rfl, ?_⟩) (by assumption) ?_
            rotate_left
            · (intro w hSw; (try dsimp only at hSw); go_simp; try with_reducible rfl)
            try simp only [put_pack]
            refine wpAnyH_take (i := 7) (v := ?_) rfl (by kernel_rfl) (by kernel_rfl) (by kernel_rfl) (fun _ _ _ h => h) (Or.inl ⟨by kernel_rfl, ?_⟩) (by assumption) ?_
            rotate_left
            · (intro w hSw; (try dsimp only at hSw); go_simp; try with_reducible rfl)
            try simp only [put_pack]
            refine wpAnyH_take (i := 8) (v := ?_) rfl (by kernel_rfl) (by kernel_rfl) (by kernel_rfl) (fun _ _ _ h => h) (Or.inl ⟨by kernel_rfl, ?_⟩) (by assumption) ?_
            rotate_left
            · (intro w hSw; (try dsimp only at hSw); go_simp; try with_reducible rfl)
            try simp only [put_pack]
            refine wpAnyH_take (i := 9) (v := ?_) rfl (by kernel_rfl) (by kernel_rfl) (by kernel_rfl) (fun _ _ _ h => h) (Or.inl ⟨by kernel_rfl, ?_⟩) (by assumption) ?_
            rotate_left
            · (intro w hSw; (try dsimp only at hSw); go_simp; try with_reducible rfl)
            try simp only [put_pack]
            refine wpAnyH_take (i := 10) (v := ?_) rfl (by kernel_rfl) (by kernel_rfl) (by kernel_rfl) (fun _ _ _ h => h) (Or.inl ⟨by kernel_rfl, ?_⟩) (by assumption) ?_
            rotate_left
            · (intro w hSw; (try dsimp only at hSw); go_simp; try with_reducible rfl)
            try simp only [put_pack]
            refine wpAnyH_take (i := 11) (v := ?_) rfl (by kernel_rfl) (by kernel_rfl) (by kernel_rfl) (fun _ _ _ h => h) (Or.inl ⟨by kernel_rfl, ?_⟩) (by assumption) ?_
            rotate_left
            · (intro w hSw; (try dsimp only at hSw); go_simp; try with_reducible rfl)
            try simp only [put_pack]
            refine wpAnyH_take (i := 12) (v := ?_) rfl (by kernel_rfl) (by kernel_rfl) (by kernel_rfl) (fun _ _ _ h => h) (Or.inl ⟨by kernel_rfl, ?_⟩) (by assumption) ?_
            rotate_left
            · (intro w hSw; (try dsimp only at hSw); go_simp; try with_reducible rfl)
            try simp only [put_pack]
            refine wpAnyH_take (i := 13) (v := ?_) rfl (by kernel_rfl) (by kernel_rfl) (by kernel_rfl) (fun _ _ _ h => h) (Or.inl ⟨by kernel_rfl, ?_⟩) (by assumption) ?_
            rotate_left
            · (intro w hSw; (try dsimp only at hSw); go_simp; try with_reducible rfl)
            try simp only [put_pack]
            refine wpAnyH_take (i := 14) (v := ?_) rfl (by kernel_rfl) (by kernel_rfl) (by kernel_rfl) (fun _ _ _ h => h) (Or.inl ⟨by kernel_rfl, ?_⟩) (by assumption) ?_
            rotate_left
            · (intro w hSw; (try dsimp only at hSw); go_simp; try with_reducible rfl)
            try simp only [put_pack]
            refine wpAnyH_take (i := 15) (v := ?_) rfl (by kernel_rfl) (by kernel_rfl) (by kernel_rfl) (fun _ _ _ h => h) (Or.inl ⟨by kernel_rfl, ?_⟩) (by assumption) ?_
            rotate_left
            · (intro w hSw; (try dsimp only at hSw); go_simp; try with_reducible rfl)
            try simp only [put_pack]
            refine wpAnyH_take (i := 16) (v := ?_) rfl (by kernel_rfl) (by kernel_rfl) (by kernel_rfl) (fun _ _ _ h => h) (Or.inl ⟨by kernel_rfl, ?_⟩) (by assumption) ?_
            rotate_left
            · (intro w hSw; (try dsimp only at hSw); go_simp; try with_reducible rfl)
            try simp only [put_pack]
            refine wpAnyH_take (i := 17) (v := ?_) rfl (by kernel_rfl) (by kernel_rfl) (by kernel_rfl) (fun _ _ _ h => h) (Or.inl ⟨by kernel_rfl, ?_⟩) (by assumption) ?_
            rotate_left
            · (intro w hSw; (try dsimp only at hSw); go_simp; try with_reducible rfl)
            try simp only [put_pack]
            refine wpAnyH_take (i := 18) (v := ?_) rfl (by kernel_rfl) (by kernel_rfl) (by kernel_rfl) (fun _ _ _ h => h) (Or.inl ⟨by kernel_rfl, ?_⟩) (by assumption) ?_
            rotate_left
            · (intro w hSw; (try dsimp only at hSw); go_simp; try with_reducible rfl)
            try simp only [put_pack]
            refine wpAnyH_take (i := 19) (v := ?_) rfl (by kernel_rfl) (by kernel_rfl) (by kernel_rfl) (fun _ _ _ h => h) (Or.inl ⟨by kernel_rfl, ?_⟩) (by assumption) ?_
            rotate_left
            · (intro w hSw; (try dsimp only at hSw); go_simp; try with_reducible rfl)
            try simp only [put_pack]
            refine wpAnyH_take (i := 20) (v := ?_) rfl (by kernel_rfl) (by kernel_rfl) (by kernel_rfl) (fun _ _ _ h => h) (Or.inl ⟨by kernel_rfl, ?_⟩) (by assumption) ?_
            rotate_left
            · (intro w hSw; (try dsimp only at hSw); go_simp; try with_reducible rfl)
            try simp only [put_pack]
            refine wpAnyH_take (i := 21) (v := undef) rfl (by kernel_rfl) (by kernel_rfl) (by kernel_rfl) (fun _ _ _ h => h) (Or.inr ⟨by kernel_rfl, rfl⟩) (by assumption) ?_
            try simp only [put_pack]
            refine wpAnyH_take (i := 22) (v := undef) rfl (by kernel_rfl) (by kernel_rfl) (by kernel_rfl) (fun _ _ _ h => h) (Or.inr ⟨by kernel_rfl, rfl⟩) (by assumption) ?_
            try simp only [put_pack]
            refine wpAnyH_take (i := 23) (v := undef) rfl (by kernel_rfl) (by kernel_rfl) (by kernel_rfl) (fun _ _ _ h => h) (Or.inr ⟨by kernel_rfl, rfl⟩) (by assumption) ?_
            try simp only [put_pack]
            refine wpAnyH_take (i := 24) (v := undef) rfl (by kernel_rfl) (by kernel_rfl) (by kernel_rfl) (fun _ _ _ h => h) (Or.inr ⟨by kernel_rfl, rfl⟩) (by assumption) ?_
            try simp only [put_pack]
            refine wpAnyH_take (i := 25) (v := undef) rfl (by kernel_rfl) (by kernel_rfl) (by kernel_rfl) (fun _ _ _ h => h) (Or.inr ⟨by kernel_rfl, rfl⟩) (by assumption) ?_
            try simp only [put_pack]
            refine wpAnyH_take (i := 26) (v := undef) rfl (by kernel_rfl) (by kernel_rfl) (by kernel_rfl) (fun _ _ _ h => h) (Or.inr ⟨by kernel_rfl, rfl⟩) (by assumption) ?_
            try simp only [put_pack]
            refine wpAnyH_take (i := 27) (v := undef) rfl (by kernel_rfl) (by kernel_rfl) (by kernel_rfl) (fun _ _ _ h => h) (Or.inr ⟨by kernel_rfl, rfl⟩) (by assumption) ?_
            try simp only [put_pack]
            refine wpAnyH_take (i := 28) (v := undef) rfl (by kernel_rfl) (by kernel_rfl) (by kernel_rfl) (fun _ _ _ h => h) (Or.inr ⟨by kernel_rfl, rfl⟩) (by assumption) ?_
            try simp only [put_pack]
            refine wpAnyH_take (i := 29) (v := undef) rfl (by kernel_rfl) (by kernel_rfl) (by kernel_rfl) (fun _ _ _ h => h) (Or.inr ⟨by kernel_rfl, rfl⟩) (by assumption) ?_
            try simp only [put_pack]
            refine wpAnyH_take (i := 30) (v := undef) rfl (by kernel_rfl) (by kernel_rfl) (by kernel_rfl) (fun _ _ _ h => h) (Or.inr ⟨by kernel_rfl, rfl⟩) (by assumption) ?_
            try simp only [put_pack]
            refine wpAnyH_take (i := 31) (v := undef) rfl (by kernel_rfl) (by kernel_rfl) (by kernel_rfl) (fun _ _ _ h => h) (Or.inr ⟨by kernel_rfl, rfl⟩) (by assumption) ?_
            try simp only [put_pack]
            refine wpAnyH_take (i := 32) (v := undef) rfl (by kernel_rfl) (by kernel_rfl) (by kernel_rfl) (fun _ _ _ h => h) (Or.inr ⟨by kernel_rfl, rfl⟩) (by assumption) ?_
            try simp only [put_pack]
            refine wpAnyH_take (i := 33) (v := undef) rfl (by kernel_rfl) (by kernel_rfl) (by kernel_rfl) (fun _ _ _ h => h) (Or.inr ⟨by kernel_rfl, rfl⟩) (by assumption) ?_
            try simp only [put_pack]
            refine wpAnyH_take (i := 34) (v := undef) rfl (by kernel_rfl) (by kernel_rfl) (by kernel_rfl) (fun _ _ _ h => h) (Or.inr ⟨by kernel_rfl, rfl⟩) (by assumption) ?_
            try simp only [put_pack]
            refine wpAnyH_take (i := 35) (v := undef) rfl (by kernel_rfl) (by kernel_rfl) (by kernel_rfl) (fun _ _ _ h => h) (Or.inr ⟨by kernel_rfl, rfl⟩) (by assumption) ?_
            try simp only [put_pack]
            refine wpAnyH_take (i := 36) (v := undef) rfl (by kernel_rfl) (by kernel_rfl) (by kernel_rfl) (fun _ _ _ h => h) (Or.inr ⟨by kernel_rfl, rfl⟩) (by assumption) ?_
            try simp only [put_pack]
            refine wpAnyH_take (i := 37) (v := ?_) rfl (by kernel_rfl) (by kernel_rfl) (by kernel_rfl) (fun _ _ _ h => h) (Or.inl ⟨by kernel_rfl, ?_⟩) (by assumption) ?_
            rotate_left
            · (intro w hSw; (try dsimp only at hSw); go_simp; try with_reducible rfl)
            try simp only [put_pack]
            refine wpAnyH_take (i := 38) (v := ?_) rfl (by kernel_rfl) (by kernel_rfl) (by kernel_rfl) (fun _ _ _ h => h) (Or.inl ⟨by kernel_rfl, ?_⟩) (by assumption) ?_
            rotate_left
            · (intro w hSw; (try dsimp only at hSw); go_simp; try with_reducible rfl)
            try simp only [put_pack]
            refine wpAnyH_take (i := 39) (v := ?_) rfl (by kernel_rfl) (by kernel_rfl) (by kernel_rfl) (fun _ _ _ h => h) (Or.inl ⟨by kernel_rfl, ?_⟩) (by assumption) ?_
            rotate_left
            · (intro w hSw; (try dsimp only at hSw); go_simp; try with_reducible rfl)
            try simp only [put_pack]
            refine wpAnyH_ready (rs := [40]) (by kernel_rfl) (by simp) ?_
            refine AllReadyH.cons rfl (fun K hKK => ?_) AllReadyH.nil
            go_simp
            refine (alive28 _).mono ?_
            rintro e w9 ⟨rfl, hx9⟩
            replace hE := hE.trans hx9
            refine hKK.out _ _ (hS _ hE) (fun hHeld => ?_)
            clear hKK K
            try dsimp only
            refine wpAnyH_take (i := 41) (v := ?_) rfl (by kernel_rfl) (by kernel_rfl) (by kernel_rfl) (fun _ _ _ h => h) (Or.inl ⟨by kernel_rfl, ?_⟩) (by assumption) ?_
            rotate_left
            · (intro w hSw; (try dsimp only at hSw); go_simp; try with_reducible rfl)
            try simp only [put_pack]
            refine wpAnyH_take (i := 42) (v := ?_) rfl (by kernel_rfl) (by kernel_rfl) (by kernel_rfl) (fun _ _ _ h => h) (Or.inl ⟨by kernel_rfl, ?_⟩) (by assumption) ?_
            rotate_left
            · (intro w hSw; (try dsimp only at hSw); go_simp; try with_reducible rfl)
            try simp only [put_pack]
            refine wpAnyH_done (by kernel_rfl) ?_ _
            go_simp
            go_wp2_with fail
            go_ret
            exact ⟨rfl, hXh.out.trans hE⟩
        · have hka : k < a.length := (List.getElem?_eq_some_iff.1 hak).1
          have hav : a.getD k 0 = v := by rw [List.getD_eq_getElem?_getD, hak]; rfl
          rcases hs2 with rfl | rfl
          · skip
            obtain ⟨u, rfl, hu, z0, z1, z2⟩ := hO.accs.at_ hx
            simp only at z0 z1 z2
            have g9 := (Blk.new y2 (.cells #[.bool true, .slice (some ⟨u, 0, none⟩) (k + 1) c2, .slice A2' S2.nts.length c2', .slice As2 (shortL L2).length k2] 32)).alloc (.cells #[.int .i64 1, .int .i64 5, .int .i64 0] 39)
            have g8 := Blk.new (y2.alloc (.cells #[.bool true, .slice (some ⟨u, 0, none⟩) (k + 1) c2, .slice A2' S2.nts.length c2', .slice As2 (shortL L2).length k2] 32)) (.cells #[.int .i64 1, .int .i64 5, .int .i64 0] 39)
            have z0' := (((Ext.refl y2).alloc (.cells #[.bool true, .slice (some ⟨u, 0, none⟩) (k + 1) c2, .slice A2' S2.nts.length c2', .slice As2 (shortL L2).length k2] 32)).cell (p := ⟨u, k * 3, none⟩) hu).trans z0
            have z1' := (((Ext.refl y2).alloc (.cells #[.bool true, .slice (some ⟨u, 0, none⟩) (k + 1) c2, .slice A2' S2.nts.length c2', .slice As2 (shortL L2).length k2] 32)).cell (p := ⟨u, k * 3 + 1, none⟩) hu).trans z1
            have z2' := (((Ext.refl y2).alloc (.cells #[.bool true, .slice (some ⟨u, 0, none⟩) (k + 1) c2, .slice A2' S2.nts.length c2', .slice As2 (shortL L2).length k2] 32)).cell (p := ⟨u, k * 3 + 2, none⟩) hu).trans z2
            have hY := ((xa.trans hx2).alloc (.cells #[.bool true, .slice (some ⟨u, 0, none⟩) (k + 1) c2, .slice A2' S2.nts.length c2', .slice As2 (shortL L2).length k2] 32)).alloc (.cells #[.int .i64 1, .int .i64 5, .int .i64 0] 39)
            have hcn := (Blk.new y2 (.cells #[.bool true, .slice (some ⟨u, 0, none⟩) (k + 1) c2, .slice A2' S2.nts.length c2', .slice As2 (shortL L2).length k2] 32)).cells
            simp only [World.size_alloc] at g8
            replace n1 := n1.ext hY
            replace n2 := n2.ext hY
            have q1 := (hY.cell (p := ⟨b, 8, none⟩) hb3).trans (hc3.out 8 _ rfl)
            have q2 := (hY.cell (p := ⟨b, 15, none⟩) hb3).trans (hc3.out 15 _ rfl)
            have hbY := Nat.lt_of_lt_of_le hb3 hY.size
            have hIY := hIah.out.ext ((hx2.alloc (.cells #[.bool true, .slice (some ⟨u, 0, none⟩) (k + 1) c2, .slice A2' S2.nts.length c2', .slice As2 (shortL L2).length k2] 32)).alloc (.cells #[.int .i64 1, .int .i64 5, .int .i64 0] 39))
            obtain ⟨ba, oa, rfl, hba2, hcell⟩ := hIY.at_ hka
            rw [hav] at hcell
            have hXh := Lib.hid (hX.trans hY)
            have hih := Lib.hid (And.intro g8 (And.intro n1 (And.intro n2 (And.intro q1 (And.intro q2 hcell)))))
            have hbb := Lib.hid (And.intro hbY hba2)
            clear hO hx2 hX xa hland hnone hIY hIah hc3 g8 g9 n1 n2 q1 q2 hcell z0 z1 z2 hY hx hba2 hbY
            go_wp2_with fail
            generalize hY2 : World.alloc (World.alloc y2 _) _ = Y at *
            clear hcn z0' z1' z2' hY2
            obtain ⟨g8, n1, n2, q1, q2, q3⟩ := hih.out
            have hS : ∀ w', Ext Y w' → ((∀ i, w'.cell? ⟨y2.heap.size + 1, i, none⟩ = (#[.int .i64 1, .int .i64 5, .int .i64 0] : Array Value)[i]?) ∧ (∀ i, w'.cell? ⟨z, i, none⟩ = (#[.slice (some ⟨b, 0, none⟩) 3 cr] : Array Value)[i]?) ∧ (∀ i, w'.cell? ⟨z + 1, i, none⟩ = (#[.int .i64 0] : Array Value)[i]?) ∧ w'.cell? ⟨b, 8, none⟩ = some (.int .i64 4) ∧ w'.cell? ⟨b, 15, none⟩ = some (.int .i64 5) ∧ w'.cell? ⟨ba, oa + k, none⟩ = some (.int .i64 v)) := fun w' hx => ⟨(Blk.ext g8 hx).cells, (n1.ext hx).cells, (n2.ext hx).cells, (hx.cell (p := ⟨b, 8, none⟩) hbb.out.1).trans q1, (hx.cell (p := ⟨b, 15, none⟩) hbb.out.1).trans q2, (hx.cell (p := ⟨ba, oa + k, none⟩) hbb.out.2).trans q3⟩
            clear g8 n1 n2 q1 q2 q3 hih hk hak hav
            have hE := (Ext.refl Y).drew
            have hw : IntKind.i64.wrap (k : Int) = (k : Int) := by rw [IntKind.wrap_i64]; omega
            have hw1 : IntKind.i64.wrap (1 : Int) = 1 := by decide
            have hw0 : IntKind.i64.wrap (0 : Int) = 0 := by decide
            have d3 : decide ((3 : Int) ≤ (k : Int) + 1) = true := by rw [decide_eq_true_eq]; omega
            have dv : (v != 0) = true := by rw [bne_iff_ne]; exact hvs
            clear hvs
            refine wp_region_held_drew (S := fun w' => ((∀ i, w'.cell? ⟨y2.heap.size + 1, i, none⟩ = (#[.int .i64 1, .int .i64 5, .int .i64 0] : Array Value)[i]?) ∧ (∀ i, w'.cell? ⟨z, i, none⟩ = (#[.slice (some ⟨b, 0, none⟩) 3 cr] : Array Value)[i]?) ∧ (∀ i, w'.cell? ⟨z + 1, i, none⟩ = (#[.int .i64 0] : Array Value)[i]?) ∧ w'.cell? ⟨b, 8, none⟩ = some (.int .i64 4) ∧ w'.cell? ⟨b, 15, none⟩ = some (.int .i64 5) ∧ w'.cell? ⟨ba, oa + k, none⟩ = some (.int .i64 v))) rfl (hS _ hE) (fun hHeld => ?_)
            refine wpAnyH_take (i := 0) (v := ?_) rfl (by kernel_rfl) (by kernel_rfl) (by kernel_rfl) (fun _ _ _ h => h) (Or.inl ⟨by kernel_rfl, ?_⟩) (by assumption) ?_
            rotate_left
            · (intro w hSw; (try dsimp only at hSw); go_simp; try with_reducible rfl)
            try simp only [put_pack]
            refine wpAnyH_take (i := 1) (v := ?_) rfl (by kernel_rfl) (by kernel_rfl) (by kernel_rfl) (fun _ _ _ h => h) (Or.inl ⟨by kernel_rfl, ?_⟩) (by assumption) ?_
            rotate_left
            · (intro w hSw; (try dsimp only at hSw); go_simp; try with_reducible rfl)
            try simp only [put_pack]
            refine wpAnyH_take (i := 2) (v := ?_) rfl (by kernel_rfl) (by kernel_rfl) (by kernel_rfl) (fun _ _ _ h => h) (Or.inl ⟨by kernel_rfl, ?_⟩) (by assumption) ?_
            rotate_left
            · (intro w hSw; (try dsimp only at hSw); go_simp; try with_reducible rfl)
            try simp only [put_pack]
            refine wpAnyH_take (i := 3) (v := ?_) rfl (by kernel_rfl) (by kernel_rfl) (by kernel_rfl) (fun _ _ _ h => h) (Or.inl ⟨by kernel_rfl, ?_⟩) (by assumption) ?_
            rotate_left
            · (intro w hSw; (try dsimp only at hSw); go_simp; try with_reducible rfl)
            try simp only [put_pack]
            refine wpAnyH_take (i := 4) (v := ?_) rfl (by kernel_rfl) (by kernel_rfl) (by kernel_rfl) (fun _ _ _ h => h) (Or.inl ⟨by kernel_rfl, ?_⟩) (by assumption) ?_
            rotate_left
            · (intro w hSw; (try dsimp only at hSw); go_simp; try with_reducible rfl)
            try simp only [put_pack]
            refine wpAnyH_take (i := 5) (v := ?_) rfl (by kernel_rfl) (by kernel_rfl) (by kernel_rfl) (fun _ _ _ h => h) (Or.inl ⟨by kernel_rfl, ?_⟩) (by assumption) ?_
            rotate_left
            · (intro w hSw; (try dsimp only at hSw); go_simp; try with_reducible rfl)
            try simp only [put_pack]
            refine wpAnyH_take (i := 6) (v := ?_) rfl (by kernel_rfl) (by kernel_rfl) (by kernel_rfl) (fun _ _ _ h => h) (Or.inl ⟨by kernel_rfl, ?_⟩) (by assumption) ?_
            rotate_left
            · (intro w hSw; (try dsimp only at hSw); go_simp; try with_reducible rfl)
            try simp only [put_pack]
            refine wpAnyH_take (i := 7) (v := ?_) rfl (by kernel_rfl) (by kernel_rfl) (by kernel_rfl) (fun _ _ _ h => h) (Or.inl ⟨by kernel_rfl, ?_⟩) (by assumption) ?_
            rotate_left
            · (intro w hSw; (try dsimp only at hSw); go_simp; try with_reducible rfl)
            try simp only [put_pack]
            refine wpAnyH_take (i := 8) (v := ?_) rfl (by kernel_rfl) (by kernel_rfl) (by kernel_rfl) (fun _ _ _ h => h) (Or.inl ⟨by kernel_rfl, ?_⟩) (by assumption) ?_
            rotate_left
            · (intro w hSw; (try dsimp only at hSw); go_simp; try with_reducible rfl)
            try simp only [put_pack]
            refine wpAnyH_take (i := 9) (v := ?_) rfl (by kernel_rfl) (by kernel_rfl) (by kernel_rfl) (fun _ _ _ h => h) (Or.inl ⟨by kernel_rfl, ?_⟩) (by assumption) ?_
            rotate_left
            · (intro w hSw; (try dsimp only at hSw); go_simp; try with_reducible rfl)
            try simp only [put_pack]
            refine wpAnyH_take (i := 10) (v := ?_) rfl (by kernel_rfl) (by kernel_rfl) (by kernel_rfl) (fun _ _ _ h => h) (Or.inl ⟨by kernel_rfl, ?_⟩) (by assumption) ?_
            rotate_left
            · (intro w hSw; (try dsimp only at hSw); go_simp; try with_reducible rfl)
            try simp only [put_pack]
            refine wpAnyH_take (i := 11) (v := ?_) rfl (by kernel_rfl) (by kernel_rfl) (by kernel_rfl) (fun _ _ _ h => h) (Or.inl ⟨by kernel_rfl, ?_⟩) (by assumption) ?_
            rotate_left
            · (intro w hSw; (try dsimp only at hSw); go_simp; try with_reducible rfl)
            try simp only [put_pack]
            refine wpAnyH_take (i := 12) (v := ?_) rfl (by kernel_rfl) (by kernel_rfl) (by kernel_rfl) (fun _ _ _ h => h) (Or.inl ⟨by kernel_rfl, ?_⟩) (by assumption) ?_
            rotate_left
            · (intro w hSw; (try dsimp only at hSw); go_simp; try with_reducible rfl)
            try simp only [put_pack]
            refine wpAnyH_take (i := 13) (v := undef) rfl (by kernel_rfl) (by kernel_rfl) (by kernel_rfl) (fun _ _ _ h => h) (Or.inr ⟨by kernel_rfl, rfl⟩) (by assumption) ?_
            try simp only [put_pack]
            refine wpAnyH_take (i := 14) (v := undef) rfl (by kernel_rfl) (by kernel_rfl) (by kernel_rfl) (fun _ _ _ h => h) (Or.inr ⟨by kernel_rfl, rfl⟩) (by assumption) ?_
            try simp only [put_pack]
            refine wpAnyH_take (i := 15) (v := undef) rfl (by kernel_rfl) (by kernel_rfl) (by kernel_rfl) (fun _ _ _ h => h) (Or.inr ⟨by kernel_rfl, rfl⟩) (by assumption) ?_
            try simp only [put_pack]
            refine wpAnyH_take (i := 16) (v := undef) rfl (by kernel_rfl) (by kernel_rfl) (by kernel_rfl) (fun _ _ _ h => h) (Or.inr ⟨by kernel_rfl, rfl⟩) (by assumption) ?_
            try simp only [put_pack]
            refine wpAnyH_take (i := 17) (v := undef) rfl (by kernel_rfl) (by kernel_rfl) (by kernel_rfl) (fun _ _ _ h => h) (Or.inr ⟨by kernel_rfl, rfl⟩) (by assumption) ?_
            try simp only [put_pack]
            refine wpAnyH_take (i := 18) (v := undef) rfl (by kernel_rfl) (by kernel_rfl) (by kernel_rfl) (fun _ _ _ h => h) (Or.inr ⟨by kernel_rfl, rfl⟩) (by assumption) ?_
            try simp only [put_pack]
            refine wpAnyH_take (i := 19) (v := ?_) rfl (by kernel_rfl) (by kernel_rfl) (by kernel_rfl) (fun _ _ _ h => h) (Or.inl ⟨by kernel_rfl, ?_⟩) (by assumption) ?_
            rotate_left
            · (intro w hSw; (try dsimp only at hSw); go_simp; try with_reducible rfl)
            try simp only [put_pack]
            refine wpAnyH_take (i := 20) (v := ?_) rfl (by kernel_rfl) (by kernel_rfl) (by kernel_rfl) (fun _ _ _ h => h) (Or.inl ⟨by kernel_rfl, ?_⟩) (by assumption) ?_
            rotate_left
            · (intro w hSw; (try dsimp only at hSw); go_simp; try with_reducible rfl)
            try simp only [put_pack]
            refine wpAnyH_take (i := 21) (v := ?_) rfl (by kernel_rfl) (by kernel_rfl) (by kernel_rfl) (fun _ _ _ h => h) (Or.inl ⟨by kernel_rfl, ?_⟩) (by assumption) ?_
            rotate_left
            · (intro w hSw; (try dsimp only at hSw); go_simp; try with_reducible rfl)
            try simp only [put_pack]
            refine wpAnyH_take (i := 22) (v := ?_) rfl (by kernel_rfl) (by kernel_rfl) (by kernel_rfl) (fun _ _ _ h => h) (Or.inl ⟨by kernel_rfl, ?_⟩) (by assumption) ?_
            rotate_left
            · (intro w hSw; (try dsimp only at hSw); go_simp; try with_reducible rfl)
            try simp only [put_pack]
            refine wpAnyH_take (i := 23) (v := ?_) rfl (by kernel_rfl) (by kernel_rfl) (by kernel_rfl) (fun _ _ _ h => h) (Or.inl ⟨by kernel_rfl, ?_⟩) (by assumption) ?_
            rotate_left
            · (intro w hSw; (try dsimp only at hSw); go_simp; try with_reducible rfl)
            try simp only [put_pack]
            refine wpAnyH_take (i := 24) (v := ?_) rfl (by kernel_rfl) (by kernel_rfl) (by kernel_rfl) (fun _ _ _ h => h) (Or.inl ⟨by kernel_rfl, ?_⟩) (by assumption) ?_
            rotate_left
            · (intro w hSw; (try dsimp only at hSw); go_simp; try with_reducible rfl)
            try simp only [put_pack]
            refine wpAnyH_take (i := 25) (v := ?_) rfl (by kernel_rfl) (by kernel_rfl) (by kernel_rfl) (fun _ _ _ h => h) (Or.inl ⟨by kernel_rfl, ?_⟩) (by assumption) ?_
            rotate_left
            · (intro w hSw; (try dsimp only at hSw); go_simp; try with_reducible rfl)
            try simp only [put_pack]
            refine wpAnyH_take (i := 26) (v := ?_) rfl (by kernel_rfl) (by kernel_rfl) (by kernel_rfl) (fun _ _ _ h => h) (Or.inl ⟨by kernel_rfl, ?_⟩) (by assumption) ?_
            rotate_left
            · (intro w hSw; (try dsimp only at hSw); go_simp; try with_reducible rfl)
            try simp only [put_pack]
            refine wpAnyH_take (i := 27) (v := ?_) rfl (by kernel_rfl) (by kernel_rfl) (by kernel_rfl) (fun _ _ _ h => h) (Or.inl ⟨by kernel_rfl, ?_⟩) (by assumption) ?_
            rotate_left
            · (intro w hSw; (try dsimp only at hSw); go_simp; try with_reducible rfl)
            try simp only [put_pack]
            refine wpAnyH_take (i := 28) (v := ?_) rfl (by kernel_rfl) (by kernel_rfl) (by kernel_rfl) (fun _ _ _ h => h) (Or.inl ⟨by kernel_rfl, ?_⟩) (by assumption) ?_
            rotate_left
            · (intro w hSw; (try dsimp only at hSw); go_simp; try with_reducible rfl)
            try simp only [put_pack]
            refine wpAnyH_take (i := 29) (v := ?_) rfl (by kernel_rfl) (by kernel_rfl) (by kernel_rfl) (fun _ _ _ h => h) (Or.inl ⟨by kernel_rfl, ?_⟩) (by assumption) ?_
            rotate_left
            · (intro w hSw; (try dsimp only at hSw); go_simp; try with_reducible rfl)
            try simp only [put_pack]
            refine wpAnyH_take (i := 30) (v := ?_) rfl (by kernel_rfl) (by kernel_rfl) (by kernel_rfl) (fun _ _ _ h => h) (Or.inl ⟨by kernel_rfl, ?_⟩) (by assumption) ?_
            rotate_left
            · (intro w hSw; (try dsimp only at hSw); go_simp; try with_reducible rfl)
            try simp only [put_pack]
            refine wpAnyH_take (i := 31) (v := ?_) rfl (by kernel_rfl) (by kernel_rfl) (by kernel_rfl) (fun _ _ _ h => h) (Or.inl ⟨by kernel_rfl, ?_⟩) (by assumption) ?_
            rotate_left
            · (intro w hSw; (try dsimp only at hSw); go_simp; try with_reducible rfl)
            try simp only [put_pack]
            refine wpAnyH_take (i := 32) (v := ?_) rfl (by kernel_rfl) (by kernel_rfl) (by kernel_rfl) (fun _ _ _ h => h) (Or.inl ⟨by kernel_rfl, ?_⟩) (by assumption) ?_
            rotate_left
            · (intro w hSw; (try dsimp only at hSw); go_simp; try with_reducible rfl)
            try simp only [put_pack]
            refine wpAnyH_take (i := 33) (v := ?_) rfl (by kernel_rfl) (by kernel_rfl) (by kernel_rfl) (fun _ _ _ h => h) (Or.inl ⟨by kernel_rfl, ?_⟩) (by assumption) ?_
            rotate_left
            · (intro w hSw; (try dsimp only at hSw); go_simp; try with_reducible rfl)
            try simp only [put_pack]
            refine wpAnyH_take (i := 34) (v := ?_) rfl (by kernel_rfl) (by kernel_rfl) (by kernel_rfl) (fun _ _ _ h => h) (Or.inl ⟨by kernel_rfl, ?_⟩) (by assumption) ?_
            rotate_left
            · (intro w hSw; (try dsimp only at hSw); go_simp; try with_reducible rfl)
            try simp only [put_pack]
            refine wpAnyH_take (i := 35) (v := ?_) rfl (by kernel_rfl) (by kernel_rfl) (by kernel_rfl) (fun _ _ _ h => h) (Or.inl ⟨by kernel_rfl, ?_⟩) (by assumption) ?_
            rotate_left
            · (intro w hSw; (try dsimp only at hSw); go_simp; try with_reducible rfl)
            try simp only [put_pack]
            refine wpAnyH_take (i := 36) (v := ?_) rfl (by kernel_rfl) (by kernel_rfl) (by kernel_rfl) (fun _ _ _ h => h) (Or.inl ⟨by kernel_rfl, ?_⟩) (by assumption) ?_
            rotate_left
            · (intro w hSw; (try dsimp only at hSw); go_simp; try with_reducible rfl)
            try simp only [put_pack]
            refine wpAnyH_take (i := 37) (v := ?_) rfl (by kernel_rfl) (by kernel_rfl) (by kernel_rfl) (fun _ _ _ h => h) (Or.inl ⟨by kernel_rfl, ?_⟩) (by assumption) ?_
            rotate_left
            · (intro w hSw; (try dsimp only at hSw); go_simp; try with_reducible rfl)
            try simp only [put_pack]
            refine wpAnyH_take (i := 38) (v := ?_) rfl (by kernel_rfl) (by kernel_rfl) (by kernel_rfl) (fun _ _ _ h => h) (Or.inl ⟨by kernel_rfl, ?_⟩) (by assumption) ?_
            rotate_left
            · (intro w hSw; (try dsimp only at hSw); go_simp; try with_reducible rfl)
            try simp only [put_pack]
            refine wpAnyH_take (i := 39) (v := ?_) rfl (by kernel_rfl) (by kernel_rfl) (by kernel_rfl) (fun _ _ _ h => h) (Or.inl ⟨by kernel_rfl, ?_⟩) (by assumption) ?_
            rotate_left
            · (intro w hSw; (try dsimp only at hSw); go_simp; try with_reducible rfl)
            try simp only [put_pack]
            refine wpAnyH_ready (rs := [40]) (by kernel_rfl) (by simp) ?_
            refine AllReadyH.cons rfl (fun K hKK => ?_) AllReadyH.nil
            go_simp
            refine (alive28 _).mono ?_
            rintro e w9 ⟨rfl, hx9⟩
            replace hE := hE.trans hx9
            refine hKK.out _ _ (hS _ hE) (fun hHeld => ?_)
            clear hKK K
            try dsimp only
            refine wpAnyH_take (i := 41) (v := ?_) rfl (by kernel_rfl) (by kernel_rfl) (by kernel_rfl) (fun _ _ _ h => h) (Or.inl ⟨by kernel_rfl, ?_⟩) (by assumption) ?_
            rotate_left
            · (intro w hSw; (try dsimp only at hSw); go_simp; try with_reducible rfl)
            try simp only [put_pack]
            refine wpAnyH_take (i := 42) (v := ?_) rfl (by kernel_rfl) (by kernel_rfl) (by kernel_rfl) (fun _ _ _ h => h) (Or.inl ⟨by kernel_rfl, ?_⟩) (by assumption) ?_
            rotate_left
            · (intro w hSw; (try dsimp only at hSw); go_simp; try with_reducible rfl)
            try simp only [put_pack]
            refine wpAnyH_done (by kernel_rfl) ?_ _
            go_simp
            go_wp2_with fail
            go_ret
            exact ⟨rfl, hXh.out.trans hE⟩
          · skip
            obtain ⟨u, rfl, hu, z0, z1, z2⟩ := hO.accs.at_ hx
            simp only at z0 z1 z2
            have g9 := (Blk.new y2 (.cells #[.bool true, .slice (some ⟨u, 0, none⟩) (k + 1) c2, .slice A2' S2.nts.length c2', .slice As2 (shortL L2).length k2] 32)).alloc (.cells #[.int .i64 1, .int .i64 5, .int .i64 0] 39)
            have g8 := Blk.new (y2.alloc (.cells #[.bool true, .slice (some ⟨u, 0, none⟩) (k + 1) c2, .slice A2' S2.nts.length c2', .slice As2 (shortL L2).length k2] 32)) (.cells #[.int .i64 1, .int .i64 5, .int .i64 0] 39)
            have z0' := (((Ext.refl y2).alloc (.cells #[.bool true, .slice (some ⟨u, 0, none⟩) (k + 1) c2, .slice A2' S2.nts.length c2', .slice As2 (shortL L2).length k2] 32)).cell (p := ⟨u, k * 3, none⟩) hu).trans z0
            have z1' := (((Ext.refl y2).alloc (.cells #[.bool true, .slice (some ⟨u, 0, none⟩) (k + 1) c2, .slice A2' S2.nts.length c2', .slice As2 (shortL L2).length k2] 32)).cell (p := ⟨u, k * 3 + 1, none⟩) hu).trans z1
            have z2' := (((Ext.refl y2).alloc (.cells #[.bool true, .slice (some ⟨u, 0, none⟩) (k + 1) c2, .slice A2' S2.nts.length c2', .slice As2 (shortL L2).length k2] 32)).cell (p := ⟨u, k * 3 + 2, none⟩) hu).trans z2
            have hY := ((xa.trans hx2).alloc (.cells #[.bool true, .slice (some ⟨u, 0, none⟩) (k + 1) c2, .slice A2' S2.nts.length c2', .slice As2 (shortL L2).length k2] 32)).alloc (.cells #[.int .i64 1, .int .i64 5, .int .i64 0] 39)
            have hcn := (Blk.new y2 (.cells #[.bool true, .slice (some ⟨u, 0, none⟩) (k + 1) c2, .slice A2' S2.nts.length c2', .slice As2 (shortL L2).length k2] 32)).cells
            simp only [World.size_alloc] at g8
            replace n1 := n1.ext hY
            replace n2 := n2.ext hY
            have q1 := (hY.cell (p := ⟨b, 1, none⟩) hb3).trans (hc3.out 1 _ rfl)
            have q2 := (hY.cell (p := ⟨b, 15, none⟩) hb3).trans (hc3.out 15 _ rfl)
            have hbY := Nat.lt_of_lt_of_le hb3 hY.size
            have hIY := hIah.out.ext ((hx2.alloc (.cells #[.bool true, .slice (some ⟨u, 0, none⟩) (k + 1) c2, .slice A2' S2.nts.length c2', .slice As2 (shortL L2).length k2] 32)).alloc (.cells #[.int .i64 1, .int .i64 5, .int .i64 0] 39))
            obtain ⟨ba, oa, rfl, hba2, hcell⟩ := hIY.at_ hka
            rw [hav] at hcell
            have hXh := Lib.hid (hX.trans hY)
            have hih := Lib.hid (And.intro g8 (And.intro n1 (And.intro n2 (And.intro q1 (And.intro q2 hcell)))))
            have hbb := Lib.hid (And.intro hbY hba2)
            clear hO hx2 hX xa hland hnone hIY hIah hc3 g8 g9 n1 n2 q1 q2 hcell z0 z1 z2 hY hx hba2 hbY
            go_wp2_with fail
            generalize hY2 : World.alloc (World.alloc y2 _) _ = Y at *
            clear hcn z0' z1' z2' hY2
            obtain ⟨g8, n1, n2, q1, q2, q3⟩ := hih.out
            have hS : ∀ w', Ext Y w' → ((∀ i, w'.cell? ⟨y2.heap.size + 1, i, none⟩ = (#[.int .i64 1, .int .i64 5, .int .i64 0] : Array Value)[i]?) ∧ (∀ i, w'.cell? ⟨z, i, none⟩ = (#[.slice (some ⟨b, 0, none⟩) 3 cr] : Array Value)[i]?) ∧ (∀ i, w'.cell? ⟨z + 1, i, none⟩ = (#[.int .i64 1] : Array Value)[i]?) ∧ w'.cell? ⟨b, 1, none⟩ = some (.int .i64 3) ∧ w'.cell? ⟨b, 15, none⟩ = some (.int .i64 5) ∧ w'.cell? ⟨ba, oa + k, none⟩ = some (.int .i64 v)) := fun w' hx => ⟨(Blk.ext g8 hx).cells, (n1.ext hx).cells, (n2.ext hx).cells, (hx.cell (p := ⟨b, 1, none⟩) hbb.out.1).trans q1, (hx.cell (p := ⟨b, 15, none⟩) hbb.out.1).trans q2, (hx.cell (p := ⟨ba, oa + k, none⟩) hbb.out.2).trans q3⟩
            clear g8 n1 n2 q1 q2 q3 hih hk hak hav
            have hE := (Ext.refl Y).drew
            have hw : IntKind.i64.wrap (k : Int) = (k : Int) := by rw [IntKind.wrap_i64]; omega
            have hw1 : IntKind.i64.wrap (1 : Int) = 1 := by decide
            have hw0 : IntKind.i64.wrap (0 : Int) = 0 := by decide
            have d3 : decide ((3 : Int) ≤ (k : Int) + 1) = true := by rw [decide_eq_true_eq]; omega
            have dv : (v != 1) = true := by rw [bne_iff_ne]; exact hvs
            clear hvs
            refine wp_region_held_drew (S := fun w' => ((∀ i, w'.cell? ⟨y2.heap.size + 1, i, none⟩ = (#[.int .i64 1, .int .i64 5, .int .i64 0] : Array Value)[i]?) ∧ (∀ i, w'.cell? ⟨z, i, none⟩ = (#[.slice (some ⟨b, 0, none⟩) 3 cr] : Array Value)[i]?) ∧ (∀ i, w'.cell? ⟨z + 1, i, none⟩ = (#[.int .i64 1] : Array Value)[i]?) ∧ w'.cell? ⟨b, 1, none⟩ = some (.int .i64 3) ∧ w'.cell? ⟨b, 15, none⟩ = some (.int .i64 5) ∧ w'.cell? ⟨ba, oa + k, none⟩ = some (.int .i64 v))) rfl (hS _ hE) (fun hHeld => ?_)
            refine wpAnyH_take (i := 0) (v := ?_) rfl (by kernel_rfl) (by kernel_rfl) (by kernel_rfl) (fun _ _ _ h => h) (Or.inl ⟨by kernel_rfl, ?_⟩) (by assumption) ?_
            rotate_left
            · (intro w hSw; (try dsimp only at hSw); go_simp; try with_reducible rfl)
            try simp only [put_pack]
            refine wpAnyH_take (i := 1) (v := ?_) rfl (by kernel_rfl) (by kernel_rfl) (by kernel_rfl) (fun _ _ _ h => h) (Or.inl ⟨by kernel_rfl, ?_⟩) (by assumption) ?_
            rotate_left
            · (intro w hSw; (try dsimp only at hSw); go_simp; try with_reducible rfl)
            try simp only [put_pack]
            refine wpAnyH_take (i := 2) (v := ?_) rfl (by kernel_rfl) (by kernel_rfl) (by kernel_rfl) (fun _ _ _ h => h) (Or.inl ⟨by kernel_rfl, ?_⟩) (by assumption) ?_
            rotate_left
            · (intro w hSw; (try dsimp only at hSw); go_simp; try with_reducible rfl)
            try simp only [put_pack]
            refine wpAnyH_take (i := 3) (v := ?_) rfl (by kernel_rfl) (by kernel_rfl) (by kernel_rfl) (fun _ _ _ h => h) (Or.inl ⟨by kernel_rfl, ?_⟩) (by assumption) ?_
            rotate_left
            · (intro w hSw; (try dsimp only at hSw); go_simp; try with_reducible rfl)
            try simp only [put_pack]
            refine wpAnyH_take (i := 4) (v := ?_) rfl (by kernel_rfl) (by kernel_rfl) (by kernel_rfl) (fun _ _ _ h => h) (Or.inl ⟨by kernel_rfl, ?_⟩) (by assumption) ?_
            rotate_left
            · (intro w hSw; (try dsimp only at hSw); go_simp; try with_reducible rfl)
            try simp only [put_pack]
            refine wpAnyH_take (i := 5) (v := ?_) rfl (by kernel_rfl) (by kernel_rfl) (by kernel_rfl) (fun _ _ _ h => h) (Or.inl ⟨by kernel_rfl, ?_⟩) (by assumption) ?_
            rotate_left
            · (intro w hSw; (try dsimp only at hSw); go_simp; try with_reducible rfl)
            try simp only [put_pack]
            refine wpAnyH_take (i := 6) (v := ?_) rfl (by kernel_rfl) (by kernel_rfl) (by kernel_rfl) (fun _ _ _ h => h) (Or.inl ⟨by kernel_rfl, ?_⟩) (by assumption) ?_
            rotate_left
            · (intro w hSw; (try dsimp only at hSw); go_simp; try with_reducible rfl)
            try simp only [put_pack]
            refine wpAnyH_take (i := 7) (v := ?_) rfl (by kernel_rfl) (by kernel_rfl) (by kernel_rfl) (fun _ _ _ h => h) (Or.inl ⟨by kernel_rfl, ?_⟩) (by assumption) ?_
            rotate_left
            · (intro w hSw; (try dsimp only at hSw); go_simp; try with_reducible rfl)
            try simp only [put_pack]
            refine wpAnyH_take (i := 8) (v := ?_) rfl (by kernel_rfl) (by kernel_rfl) (by kernel_rfl) (fun _ _ _ h => h) (Or.inl ⟨by kernel_rfl, ?_⟩) (by assumption) ?_
            rotate_left
            · (intro w hSw; (try dsimp only at hSw); go_simp; try with_reducible rfl)
            try simp only [put_pack]
            refine wpAnyH_take (i := 9) (v := ?_) rfl (by kernel_rfl) (by kernel_rfl) (by kernel_rfl) (fun _ _ _ h => h) (Or.inl ⟨by kernel_rfl, ?_⟩) (by assumption) ?_
            rotate_left
            · (intro w hSw; (try dsimp only at hSw); go_simp; try with_reducible rfl)
            try simp only [put_pack]
            refine wpAnyH_take (i := 10) (v := ?_) rfl (by kernel_rfl) (by kernel_rfl) (by kernel_rfl) (fun _ _ _ h => h) (Or.inl ⟨by kernel_rfl, ?_⟩) (by assumption) ?_
            rotate_left
            · (intro w hSw; (try dsimp only at hSw); go_simp; try with_reducible rfl)
            try simp only [put_pack]
            refine wpAnyH_take (i := 11) (v := ?_) rfl (by kernel_rfl) (by kernel_rfl) (by kernel_rfl) (fun _ _ _ h => h) (Or.inl ⟨by kernel_rfl, ?_⟩) (by assumption) ?_
            rotate_left
            · (intro w hSw; (try dsimp only at hSw); go_simp; try with_reducible rfl)
            try simp only [put_pack]
            refine wpAnyH_take (i := 12) (v := ?_) rfl (by kernel_rfl) (by kernel_rfl) (by kernel_rfl) (fun _ _ _ h => h) (Or.inl ⟨by kernel_rfl, ?_⟩) (by assumption) ?_
            rotate_left
            · (intro w hSw; (try dsimp only at hSw); go_simp; try with_reducible rfl)
            try simp only [put_pack]
            refine wpAnyH_take (i := 13) (v := undef) rfl (by kernel_rfl) (by kernel_rfl) (by kernel_rfl) (fun _ _ _ h => h) (Or.inr ⟨by kernel_rfl, rfl⟩) (by assumption) ?_
            try simp only [put_pack]
            refine wpAnyH_take (i := 14) (v := undef) rfl (by kernel_rfl) (by kernel_rfl) (by kernel_rfl) (fun _ _ _ h => h) (Or.inr ⟨by kernel_rfl, rfl⟩) (by assumption) ?_
            try simp only [put_pack]
            refine wpAnyH_take (i := 15) (v := undef) rfl (by kernel_rfl) (by kernel_rfl) (by kernel_rfl) (fun _ _ _ h => h) (Or.inr ⟨by kernel_rfl, rfl⟩) (by assumption) ?_
            try simp only [put_pack]
            refine wpAnyH_take (i := 16) (v := undef) rfl (by kernel_rfl) (by kernel_rfl) (by kernel_rfl) (fun _ _ _ h => h) (Or.inr ⟨by kernel_rfl, rfl⟩) (by assumption) ?_
            try simp only [put_pack]
            refine wpAnyH_take (i := 17) (v := undef) rfl (by kernel_rfl) (by kernel_rfl) (by kernel_rfl) (fun _ _ _ h => h) (Or.inr ⟨by kernel_rfl, rfl⟩) (by assumption) ?_
            try simp only [put_pack]
            refine wpAnyH_take (i := 18) (v := undef) rfl (by kernel_rfl) (by kernel_rfl) (by kernel_rfl) (fun _ _ _ h => h) (Or.inr ⟨by kernel_rfl, rfl⟩) (by assumption) ?_
            try simp only [put_pack]
            refine wpAnyH_take (i := 19) (v := ?_) rfl (by kernel_rfl) (by kernel_rfl) (by kernel_rfl) (fun _ _ _ h => h) (Or.inl ⟨by kernel_rfl, ?_⟩) (by assumption) ?_
            rotate_left
            · (intro w hSw; (try dsimp only at hSw); go_simp; try with_reducible rfl)
            try simp only [put_pack]
            refine wpAnyH_take (i := 20) (v := ?_) rfl (by kernel_rfl) (by kernel_rfl) (by kernel_rfl) (fun _ _ _ h => h) (Or.inl ⟨by kernel_rfl, ?_⟩) (by assumption) ?_
            rotate_left
            · (intro w hSw; (try dsimp only at hSw); go_simp; try with_reducible rfl)
            try simp only [put_pack]
            refine wpAnyH_take (i := 21) (v := ?_) rfl (by kernel_rfl) (by kernel_rfl) (by kernel_rfl) (fun _ _ _ h => h) (Or.inl ⟨by kernel_rfl, ?_⟩) (by assumption) ?_
            rotate_left
            · (intro w hSw; (try dsimp only at hSw); go_simp; try with_reducible rfl)
            try simp only [put_pack]
            refine wpAnyH_take (i := 22) (v := ?_) rfl (by kernel_rfl) (by kernel_rfl) (by kernel_rfl) (fun _ _ _ h => h) (Or.inl ⟨by kernel_rfl, ?_⟩) (by assumption) ?_
            rotate_left
            · (intro w hSw; (try dsimp only at hSw); go_simp; try with_reducible rfl)
            try simp only [put_pack]
            refine wpAnyH_take (i := 23) (v := ?_) rfl (by kernel_rfl) (by kernel_rfl) (by kernel_rfl) (fun _ _ _ h => h) (Or.inl ⟨by kernel_rfl, ?_⟩) (by assumption) ?_
            rotate_left
            · (intro w hSw; (try dsimp only at hSw); go_simp; try with_reducible rfl)
            try simp only [put_pack]
            refine wpAnyH_take (i := 24) (v := ?_) rfl (by kernel_rfl) (by kernel_rfl) (by kernel_rfl) (fun _ _ _ h => h) (Or.inl ⟨by kernel_rfl, ?_⟩) (by assumption) ?_
            rotate_left
            · (intro w hSw; (try dsimp only at hSw); go_simp; try with_reducible rfl)
            try simp only [put_pack]
            refine wpAnyH_take (i := 25) (v := ?_) rfl (by kernel_rfl) (by kernel_rfl) (by kernel_rfl) (fun _ _ _ h => h) (Or.inl ⟨by kernel_rfl, ?_⟩) (by assumption) ?_
            rotate_left
            · (intro w hSw; (try dsimp only at hSw); go_simp; try with_reducible rfl)
            try simp only [put_pack]
            refine wpAnyH_take (i := 26) (v := ?_) rfl (by kernel_rfl) (by kernel_rfl) (by kernel_rfl) (fun _ _ _ h => h) (Or.inl ⟨by kernel_rfl, ?_⟩) (by assumption) ?_
            rotate_left
            · (intro w hSw; (try dsimp only at hSw); go_simp; try with_reducible rfl)
            try simp only [put_pack]
            refine wpAnyH_take (i := 27) (v := ?_) rfl (by kernel_rfl) (by kernel_rfl) (by kernel_rfl) (fun _ _ _ h => h) (Or.inl ⟨by kernel_rfl, ?_⟩) (by assumption) ?_
            rotate_left
            · (intro w hSw; (try dsimp only at hSw); go_simp; try with_reducible rfl)
            try simp only [put_pack]
            refine wpAnyH_take (i := 28) (v := ?_) rfl (by kernel_rfl) (by kernel_rfl) (by kernel_rfl) (fun _ _ _ h => h) (Or.inl ⟨by kernel_rfl, ?_⟩) (by assumption) ?_
            rotate_left
            · (intro w hSw; (try dsimp only at hSw); go_simp; try with_reducible rfl)
            try simp only [put_pack]
            refine wpAnyH_take (i := 29) (v := ?_) rfl (by kernel_rfl) (by kernel_rfl) (by kernel_rfl) (fun _ _ _ h => h) (Or.inl ⟨by kernel_rfl, ?_⟩) (by assumption) ?_
            rotate_left
            · (intro w hSw; (try dsimp only at hSw); go_simp; try with_reducible rfl)
            try simp only [put_pack]
            refine wpAnyH_take (i := 30) (v := ?_) rfl (by kernel_rfl) (by kernel_rfl) (by kernel_rfl) (fun _ _ _ h => h) (Or.inl ⟨by kernel_rfl, ?_⟩) (by assumption) ?_
            rotate_left
            · (intro w hSw; (try dsimp only at hSw); go_simp; try with_reducible rfl)
            try simp only [put_pack]
            refine wpAnyH_take (i := 31) (v := ?_) rfl (by kernel_rfl) (by kernel_rfl) (by kernel_rfl) (fun _ _ _ h => h) (Or.inl ⟨by kernel_rfl, ?_⟩) (by assumption) ?_
            rotate_left
            · (intro w hSw; (try dsimp only at hSw); go_simp; try with_reducible rfl)
            try simp only [put_pack]
            refine wpAnyH_take (i := 32) (v := ?_) rfl (by kernel_rfl) (by kernel_rfl) (by kernel_rfl) (fun _ _ _ h => h) (Or.inl ⟨by kernel_rfl, ?_⟩) (by assumption) ?_
            rotate_left
            · (intro w hSw; (try dsimp only at hSw); go_simp; try with_reducible rfl)
            try simp only [put_pack]
            refine wpAnyH_take (i := 33) (v := ?_) rfl (by kernel_rfl) (by kernel_rfl) (by kernel_rfl) (fun _ _ _ h => h) (Or.inl ⟨by kernel_rfl, ?_⟩) (by assumption) ?_
            rotate_left
            · (intro w hSw; (try dsimp only at hSw); go_simp; try with_reducible rfl)
            try simp only [put_pack]
            refine wpAnyH_take (i := 34) (v := ?_) rfl (by kernel_rfl) (by kernel_rfl) (by kernel_rfl) (fun _ _ _ h => h) (Or.inl ⟨by kernel_rfl, ?_⟩) (by assumption) ?_
            rotate_left
            · (intro w hSw; (try dsimp only at hSw); go_simp; try with_reducible rfl)
            try simp only [put_pack]
            refine wpAnyH_take (i := 35) (v := ?_) rfl (by kernel_rfl) (by kernel_rfl) (by kernel_rfl) (fun _ _ _ h => h) (Or.inl ⟨by kernel_rfl, ?_⟩) (by assumption) ?_
            rotate_left
            · (intro w hSw; (try dsimp only at hSw); go_simp; try with_reducible rfl)
            try simp only [put_pack]
            refine wpAnyH_take (i := 36) (v := ?_) rfl (by kernel_rfl) (by kernel_rfl) (by kernel_rfl) (fun _ _ _ h => h) (Or.inl ⟨by kernel_rfl, ?_⟩) (by assumption) ?_
            rotate_left
            · (intro w hSw; (try dsimp only at hSw); go_simp; try with_reducible rfl)
            try simp only [put_pack]
            refine wpAnyH_take (i := 37) (v := ?_) rfl (by kernel_rfl) (by kernel_rfl) (by kernel_rfl) (fun _ _ _ h => h) (Or.inl ⟨by kernel_rfl, ?_⟩) (by assumption) ?_
            rotate_left
            · (intro w hSw; (try dsimp only at hSw); go_simp; try with_reducible rfl)
            try simp only [put_pack]
            refine wpAnyH_take (i := 38) (v := ?_) rfl (by kernel_rfl) (by kernel_rfl) (by kernel_rfl) (fun _ _ _ h => h) (Or.inl ⟨by kernel_rfl, ?_⟩) (by assumption) ?_
            rotate_left
            · (intro w hSw; (try dsimp only at hSw); go_simp; try with_reducible rfl)
            try simp only [put_pack]
            refine wpAnyH_take (i := 39) (v := ?_) rfl (by kernel_rfl) (by kernel_rfl) (by kernel_rfl) (fun _ _ _ h => h) (Or.inl ⟨by kernel_rfl, ?_⟩) (by assumption) ?_
            rotate_left
            · (intro w hSw; (try dsimp only at hSw); go_simp; try with_reducible rfl)
            try simp only [put_pack]
            refine wpAnyH_ready (rs := [40]) (by kernel_rfl) (by simp) ?_
            refine AllReadyH.cons rfl (fun K hKK => ?_) AllReadyH.nil
            go_simp
            refine (alive28 _).mono ?_
            rintro e w9 ⟨rfl, hx9⟩
            replace hE := hE.trans hx9
            refine hKK.out _ _ (hS _ hE) (fun hHeld => ?_)
            clear hKK K
            try dsimp only
            refine wpAnyH_take (i := 41) (v := ?_) rfl (by kernel_rfl) (by kernel_rfl) (by kernel_rfl) (fun _ _ _ h => h) (Or.inl ⟨by kernel_rfl, ?_⟩) (by assumption) ?_
            rotate_left
            · (intro w hSw; (try dsimp only at hSw); go_simp; try with_reducible rfl)
            try simp only [put_pack]
            refine wpAnyH_take (i := 42) (v := ?_) rfl (by kernel_rfl) (by kernel_rfl) (by kernel_rfl) (fun _ _ _ h => h) (Or.inl ⟨by kernel_rfl, ?_⟩) (by assumption) ?_
            rotate_left
            · (intro w hSw; (try dsimp only at hSw); go_simp; try with_reducible rfl)
            try simp only [put_pack]
            refine wpAnyH_done (by kernel_rfl) ?_ _
            go_simp
            go_wp2_with fail
            go_ret
            exact ⟨rfl, hXh.out.trans hE⟩
end Go.Proofs.Ytpcohbpeglledaa
/-
  ArbiterAlone: the input opened.
-/
namespace Go.Proofs.Ytpcohbpeglledaa.arbiterAlone
open Go.ChangeShapes Go.WideShapes Go.ChangeAt Go.RowKit Kv
set_option maxRecDepth 100000 in
theorem main (H : Type) (enc : TypeId × Value → H) (W : World) (base : Nat) (args : Array Value) (ds : List (DataW H)) (p : List MemPlace)
    (hval : ∀ (j : Nat) t v, Try.f4.params[j]? = some t → args[j]? = some v → Value.okWide Try.prog W .any base t v)
    (hA : DataW.TrodAll enc Try.prog W 0 (fun _ => true) true Try.f4.params.toList args.toList ds p) (_hL : laidMetH Try.prog Rows.arbiterAloneRow.laid W) :
    Calls Try.prog 4 args W fun e w' => e = .returned (.bool true) ∧ Ext W w' := by
  rw [Try.params4] at hA hval
  obtain ⟨v0, vs0, d0, ds0, p0, q0, hargs, rfl, rfl, h0, r0⟩ := trodAll_cons hA
  obtain ⟨v1, vs1, d1, ds1, p1, q1, rfl, rfl, rfl, h1, r1⟩ := trodAll_cons r0
  obtain ⟨rfl, rfl, rfl⟩ := trodAll_nil r1
  obtain rfl : args = #[v0, v1] := by cases args; simp_all
  obtain ⟨La, hLa, -⟩ := ints_arg (hval 1 22 v1 rfl rfl) h1
  obtain ⟨s, rfl, rfl, rfl⟩ := open_bool Try.underlying4 (hval 0 4 v0 rfl rfl) h0
  exact aalone_walk s v1 La W hLa
end Go.Proofs.Ytpcohbpeglledaa.arbiterAlone
/-
  ArbiterAlone holds: whoever is alone enters an arbiter by three accesses, and whoever is in read a flag 0, or a turn that is not its own, as its last access.
-/
namespace Go.Proofs.Ytpcohbpeglledaa.arbiterAlone
open Go.ChangeShapes Go.WideShapes Go.ChangeAt Go.RowKit

theorem laidOut : laidOutB Try.prog = true := by kernel_rfl
set_option maxRecDepth 100000 in
theorem contract (H : Type) (enc : TypeId × Value → H) (W : World) (base : Nat) (args : Array Value) (ds gs : List (DataW H)) (before : List MemPlace)
    (hval : ∀ (j : Nat) t v, Try.f4.params[j]? = some t → args[j]? = some v → Value.okWide Try.prog W .any base t v)
    (hW : DataW.Whole enc Try.prog Try.f4.params.toList Rows.arbiterAloneSpec.vars false W args.toList ds gs before) (hL : laidMetH Try.prog Rows.arbiterAloneRow.laid W) :
    Calls Try.prog 4 args W fun e W' => ∃ v, e = .returned v ∧ Rows.arbiterAloneSpec.post enc Try.prog Try.f4 false true false false W args v W' := by
  refine (main H enc W base args ds before hval (by obtain ⟨p, q, hA, hV, hpq, _, _⟩ := hW; obtain ⟨_, rfl⟩ := trodVars_none hV; rw [List.append_nil] at hpq; subst hpq; exact hA) hL).mono fun e W' ⟨he, hg⟩ => ⟨_, he, ?_⟩
  refine law_post (tb := 4) laidOut ?_ (by kernel_rfl) Try.underlying4 rfl ?_ hW hg
  · rw [Try.params4]
    intro t ht
    simp only [List.mem_cons, List.not_mem_nil, or_false] at ht
    rcases ht with rfl | rfl <;> exact ⟨by kernel_rfl, of_decide_eq_true (by kernel_rfl)⟩
  · intro ds hl
    rw [Try.params4] at hl
    match ds, hl with
    | [d0, d1], _ => rfl
set_option maxRecDepth 100000 in
theorem laid_met (os : Os) : laidMet Try.prog Rows.arbiterAloneRow.laid (((World.holding Try.prog os ⟨#[], #[], []⟩)).forCall (fun _ _ => 0) ⟨#[], #[.bool false, .slice none 0 0], []⟩).memory :=
  laidMet_of_run' 8 (by kernel_rfl) (by kernel_rfl)
set_option maxRecDepth 100000 in
theorem reads (os : Os) {H : Type} (enc : TypeId × Value → H) : ∃ places, DataW.whole enc Try.prog (((World.holding Try.prog os ⟨#[], #[], []⟩)).forCall (fun _ _ => 0) ⟨#[], #[.bool false, .slice none 0 0], []⟩).memory Try.f4.params.toList Rows.arbiterAloneSpec.vars false (#[.bool false, .slice none 0 0] : Array Value).toList 8 = some ([.lit (.bool false), .nil], [], places) :=
  ⟨[], by kernel_rfl⟩
set_option maxRecDepth 100000 in
theorem lifted (os : Os) (started : os.Started) (H : Type) (enc : TypeId × Value → H) (F : Stop.Interp) :
    ReturnsInHanded {} Try.checked os 4 .any ((OpenSpec.ofChange Rows.arbiterAloneSpec).preRow enc Try.prog Try.f4 Rows.arbiterAloneRow.domain false Rows.arbiterAloneRow.laid) (((OpenSpec.ofChange Rows.arbiterAloneSpec).at F).post enc Try.prog Try.f4 false true false false) := by
  obtain ⟨places, hx⟩ := reads os enc
  refine returnsInHanded_of_row (C := Try.checked) (s := (OpenSpec.ofChange Rows.arbiterAloneSpec)) own started (by kernel_rfl) Try.func4
    (witness_row_at (enc := enc) (C := Try.checked) false (World.holding Try.prog os ⟨#[], #[], []⟩) #[.bool false, .slice none 0 0] rfl (by kernel_rfl) (by kernel_rfl) (by kernel_rfl)
      (OpenSpec.preRow_of_cond 8 hx (by kernel_rfl) (fun k hk => by cases hk) (by kernel_rfl) (laid_met os))) ?_
  intro W base args ds gs before hval hW _ _ _ hL _ _
  exact contract H enc W base args ds gs before hval hW hL
theorem said : Rows.ArbiterAloneSaid :=
  OpenClaim.holds_of_cond 4 Try.f4 rfl rfl rfl rfl rfl rfl rfl ⟨rfl, rfl, rfl, rfl, rfl⟩ rfl rfl rfl rfl rfl (by kernel_rfl) Try.func4 (by kernel_rfl)
    (of_decide_eq_true (by kernel_rfl)) (by unfold Func.isWrapper; first | (rw [if_pos (by decide +kernel)]; kernel_rfl) | (rw [if_neg (by decide +kernel)]; exact ⟨rfl, rfl⟩))
    (fun os started H enc _ F => by rw [OpenClaim.pre_eq_preRow]; exact lifted os started H enc F)

end Go.Proofs.Ytpcohbpeglledaa.arbiterAlone
