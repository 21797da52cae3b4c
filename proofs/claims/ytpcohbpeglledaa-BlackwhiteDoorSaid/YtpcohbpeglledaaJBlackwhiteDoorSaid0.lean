/-
  Plain mathematics: registers leave no notes.
-/
import Derived.Test.YtpcohbpeglledaaJB4
import Derived.Laws.AppendOwnNone
import Derived.Deep.DeepCutAuto
/-
  Plain mathematics: registers leave no notes.
-/
namespace Kv
theorem notes_ret {α : Type} (a : α) (n : Nat) : (Prog.ret a).Notes n := .ret a n
theorem notes_forP {σ : Type} {T : Int → σ → Prog σ} (h : ∀ a x, (T a x).Notes 0) : ∀ (l : List Int) (x : σ), (forP T l x).Notes 0
  | [], x => .ret x 0
  | a :: l, x => (h a x).bind0 fun y => notes_forP h l y
theorem notes_trompW (b l v : Int) : (trompW b l v).Notes 0 := by
  refine (notes_gt _).bind0 fun x => ?_
  split
  · exact .ret _ _
  · refine (notes_wr _ _).bind0 fun _ => (notes_st _ _).bind0 fun _ => (notes_gt _).bind0 fun _ => (notes_rd _).bind0 fun _ => ?_
    split
    · exact (notes_wr _ _).bind0 fun _ => notes_st _ _
    · exact .ret _ _
theorem notes_trompR3 (b l x : Int) : (trompR3 b l x).Notes 0 := by
  refine (notes_rd _).bind0 fun _ => (notes_st _ _).bind0 fun _ => (notes_rd _).bind0 fun _ => (notes_gt _).bind0 fun _ => ?_
  split
  · exact notes_gt _
  · exact (notes_rd _).bind0 fun _ => (notes_st _ _).bind0 fun _ => .ret _ _
theorem notes_trompR2 (b l x : Int) : (trompR2 b l x).Notes 0 := by
  refine (notes_rd _).bind0 fun _ => (notes_gt _).bind0 fun _ => ?_
  split
  · exact notes_trompR3 _ _ _
  · exact (notes_gt _).bind0 fun _ => (notes_wr _ _).bind0 fun _ => (notes_st _ _).bind0 fun _ => notes_trompR3 _ _ _
theorem notes_trompR (b l : Int) : (trompR b l).Notes 0 := by
  refine (notes_rd _).bind0 fun _ => (notes_gt _).bind0 fun _ => ?_
  split
  · exact notes_gt _
  · exact (notes_rd _).bind0 fun _ => notes_trompR2 _ _ _
theorem notes_slotsW (b l v : Int) : (slotsW b l v).Notes 0 :=
  (notes_trompR _ _).bind0 fun _ => (notes_gt _).bind0 fun _ => (notes_wr _ _).bind0 fun _ => (notes_st _ _).bind0 fun _ => (notes_trompW _ _ _).bind0 fun _ => notes_trompW _ _ _
theorem notes_slotsR (b l : Int) : (slotsR b l).Notes 0 :=
  (notes_trompR _ _).bind0 fun _ => (notes_trompW _ _ _).bind0 fun _ => (notes_trompR _ _).bind0 fun _ => notes_rd _
theorem notes_tableW (b l n w top me v : Int) : (tableW b l n w top me v).Notes 0 := by
  unfold tableW
  split
  · exact .ret _ _
  · exact (notes_gt _).bind0 fun _ => (notes_st _ _).bind0 fun _ => (notes_forP (fun _ _ => notes_slotsW _ _ _) _ _).bind0 fun _ => notes_st _ _
theorem notes_tableR (b l n w top me : Int) : (tableR b l n w top me).Notes 0 := by
  unfold tableR
  split
  · exact notes_gt _
  · exact (notes_slotsR _ _).bind0 fun _ => (notes_forP (fun _ _ => (notes_slotsR _ _).bind0 fun _ => .ret _ _) _ _).bind0 fun _ => (notes_forP (fun _ _ => notes_slotsW _ _ _) _ _).bind0 fun _ => .ret _ _
theorem notes_manyRs (b l n top me : Int) : ∀ (k : Nat) (j s v : Int), (manyRs b l n top me k j s v).Notes 0
  | 0, _, _, _ => .ret _ _
  | k + 1, j, s, v => by
    unfold manyRs
    refine (notes_tableR _ _ _ _ _ _).bind0 fun y => ?_
    split
    · exact notes_manyRs b l n top me k _ _ _
    · exact notes_manyRs b l n top me k _ _ _
theorem notes_regR (r : Reg) (me : Int) : (regR r me).Notes 0 := by
  unfold regR
  split
  · exact notes_rd _
  · split
    · exact notes_tableR _ _ _ _ _ _
    · exact (notes_manyRs _ _ _ _ _ _ _ _ _).bind0 fun _ => .ret _ _
theorem notes_regW (r : Reg) (me v : Int) : (regW r me v).Notes 0 := by
  unfold regW
  split
  · exact notes_wr _ _
  · split
    · exact notes_tableW _ _ _ _ _ _ _
    · exact (notes_manyRs _ _ _ _ _ _ _ _ _).bind0 fun _ => notes_tableW _ _ _ _ _ _ _
/-- What leaves no notes keeps their number. -/
theorem Prog.Notes.keep {α : Type} {p : Prog α} {n : Nat} (h : p.Notes 0) {S S1 : TS} {a : Option α} (hr : p.run S = (a, S1)) (hn : S.nts.length ≤ n) : S1.nts.length ≤ n := by
  have := h.run S
  rw [hr] at this
  simp only at this
  omega
end Kv
/-
  The program's Mem: a note left.
-/
namespace Go.Proofs.Ytpcohbpeglledaa
open Go.RowKit Kv
set_option maxRecDepth 100000 in
theorem note_p (B p : Nat) (S : TS) (n : Int) (w : World) (h : Plays B w p S) (hl : S.nts.length < maxAns) :
    Calls Try.prog 55 #[.pointer (some ⟨p, 0, none⟩), .int .i64 n] w fun e w' => e = .returned (.tuple #[]) ∧ Plays B w' p (S.noted n) ∧ KeepP B p w w' := by
  obtain ⟨h1, vA, vL, vC, vN, L, h⟩ := h
  have hc := cell_of_heap h.heap
  have hbo := h.ansN
  have hbn := h.ntsN
  unfold maxAns at hbo hbn hl
  have hle := h.lt
  have hge := h.ge
  obtain ⟨An, cn, hvN⟩ : ∃ A c, vN = .slice A S.nts.length c := by
    rcases h.rowN.2 with ⟨rfl, h0⟩ | ⟨g, cap, cur, rfl, _⟩
    · exact ⟨none, 0, by rw [h0]⟩
    · exact ⟨_, _, rfl⟩
  subst hvN
  obtain ⟨Ac, cc, hvC⟩ : ∃ A c, vC = .slice A S.acc.length c := by
    rcases h.rowC.2 with ⟨rfl, h0⟩ | ⟨g, cap, cur, rfl, _⟩
    · exact ⟨none, 0, by rw [h0]⟩
    · exact ⟨_, _, rfl⟩
  subst hvC
  have hL := Lib.hid h
  clear h
  obtain ⟨i0, hi, hz0, hz1, hz2⟩ := info_parts info_note
  go_enter Try.func55, Try.ntmps55
  go_wp2_with fail
  go_region_law ((refine step_append_lies _ (by rfl) _ _ _ (by rfl) B 53 i0 _ 2 16 Try.underlying30 hi hz0 hz1 hz2 rfl (by omega) (Value.slice An S.nts.length cn) S.nts.length (ntVals S.nts) (by rfl) ((World.ownsRow.drew hL.out.rowN).alloc _) ⟨w.heap.size, 0, none⟩ 1 1 [.int .i64 n, .int .i64 S.acc.length] (by rfl) (by rfl) (cells_new1 w _ _) (by simp [Value.oneCell']) (by omega) (by unfold maxLen; omega) (by omega) (by simp; omega) (w.heap.size + 1) (by simp) ?_; intro gg cap w1 hown1 hgrow hat hlt; have hp1 := grown_heap hL.out.heap hL.out.cNe.2.2 (grown1 hgrow); have hq1 := cell_of_heap hp1; have hf1 := frozen_of_heap hp1))
  all_goals
    obtain ⟨HM, HK⟩ := hL.out.grewN n (grown1 hgrow) (hat.imp id (by omega)) hown1 hl
    clear hown1 hgrow hat hlt hp1 hq1 hf1 hc
    generalize hv' : (Value.slice (some ⟨gg, 0, none⟩) (S.nts.length + 1) cap) = v' at *
    generalize w1.setCell ⟨p, 4, none⟩ v' = W at *
    clear hv' w1
    have HMh : Plays B W p (S.noted n) := ⟨h1, _, _, _, _, _, HM⟩
    have HKh := Lib.hid HK
    clear HM HK
    go_wp2_with fail
    first | go_end0 | refine bodyPost_ret (results_none rfl _ _ _) rfl ?_
    exact ⟨rfl, HMh, HKh.out⟩
end Go.Proofs.Ytpcohbpeglledaa
/-
  The document's Mem: a note left.
-/
namespace Go.Proofs.Ytpcohbpeglledaa
open Go.RowKit Kv
theorem noteO {B p : Nat} {S : TS} {n : Int} {w : World} (h : Plays B w p S) (hl : S.nts.length < maxAns) :
    Calls Try.prog 55 #[.pointer (some ⟨p, 0, none⟩), .int .i64 n] w (Post encU B p w ((nt n).run S)) :=
  (note_p B p S n w h hl).mono fun _ _ ⟨h1, h2, h3⟩ => ⟨h1, h2, h3⟩
end Go.Proofs.Ytpcohbpeglledaa
/-
  Steps that tell how many notes there are; loops of plays; rows laid meanwhile.
-/
namespace Kv
theorem forP_consB {σ β : Type} (T : Int → σ → Prog σ) (a : Int) (l : List Int) (x : σ) (k : σ → Prog β) : (forP T (a :: l) x).bind k = (T a x).bind fun y => (forP T l y).bind k := Prog.bind_assoc _ _ _
theorem forP_nilB {σ β : Type} (T : Int → σ → Prog σ) (x : σ) (k : σ → Prog β) : (forP T [] x).bind k = k x := rfl
theorem ranks_cons (but : Int) (n : Nat) (i : Int) (h : i ≠ but) : ranksFrom but (n + 1) i = i :: ranksFrom but n (i + 1) := by
  rw [ranksFrom, if_neg h]
theorem ranks_skip (n : Nat) (i : Int) : ranksFrom i (n + 1) i = ranksFrom i n (i + 1) := by
  rw [ranksFrom, if_pos rfl]
theorem ranks_zero (but i : Int) : ranksFrom but 0 i = [] := rfl
end Kv
namespace Go.Proofs.Ytpcohbpeglledaa
open Go.RowKit Kv
theorem RegsAt.nth {ix : List Nat} {p b : Nat} {w : World} {l : List Reg} (h : RegsAt ix w p b l) {i : Nat} {r : Reg} (hi : l[i]? = some r) : RegCells w b (i * 7) r := reg_cells h.cells hi
/-- A block laid meanwhile is none of the Mem's. -/
theorem Plays.fresh {B p b : Nat} {w w' : World} {S : TS} (h : Plays B w p S) (hx : Ext w w') (hb : w.heap.size ≤ b) : ¬ ownR [2, 3, 4] w' p b := by
  obtain ⟨_, _, _, _, _, _, h⟩ := h
  intro ho
  have := (h.own ((ownR_same (Below.block hx p h.lt) b).1 ho)).2
  omega
/-- One call behind what was done: what it takes of the answers, and how many notes it leaves. -/
theorem tstepN {α β : Type} {B p : Nat} {w0 w : World} {S : TS} {R : Ending → World → Prop} {P : Program} {f : FuncId} {args : Array Value} {K : Ending → World → Prop} {enc : α → Value} {enc' : β → Value} {T : Prog α} {g : α → Prog β} {k : Nat} (hN : T.Notes k)
    (hO : Owes R enc' B p w0 ((T.bind g).run S)) (hB : KeepP B p w0 w) (h : Calls P f args w (Post enc B p w (T.run S))) (hp : ∀ w', R (stopE p) w' → K (stopE p) w')
    (hk : ∀ v S1 w1, S1.left ≤ S.left → (T.Asks → S1.left < S.left) → S1.nts.length ≤ S.nts.length + k → Plays B w1 p S1 → KeepP B p w w1 → KeepP B p w0 w1 → Owes R enc' B p w0 ((g v).run S1) → K (.returned (enc v)) w1) : Calls P f args w K := by
  refine tstep hO hB h hp fun v S1 w1 hr hP hk1 hk2 hO1 => hk v S1 w1 ?_ (fun ha => ha.left hr hP.1) ?_ hP hk1 hk2 hO1
  · have := Prog.run_left T S
    rw [hr] at this
    exact this
  · have := hN.run S
    rw [hr] at this
    exact this
theorem ref_notes {α : Type} {T : Prog α} {o o' : Bool} {S S' : TS} {a : α} {k : Nat} (hN : T.Notes k) (h : Ref T o S a o' S') : S'.nts.length ≤ S.nts.length + k := by
  have := hN.run S
  cases h with
  | over => omega
  | done h => rw [h] at this; exact this
  | stop _ h => rw [h] at this; exact this
end Go.Proofs.Ytpcohbpeglledaa
/-
  Plain mathematics: which locals an operation sets.
-/
namespace Kv
/-- An operation that sets locals from lo on, below hi, alone. -/
inductive Prog.Sets {α : Type} (lo hi : Int) : Prog α → Prop
  | ret (a : α) : Sets lo hi (.ret a)
  | read (c : Int) {k : Int → Prog α} : (∀ x, Sets lo hi (k x)) → Sets lo hi (.read c k)
  | write (c v : Int) {k : Unit → Prog α} : Sets lo hi (k ()) → Sets lo hi (.write c v k)
  | get (i : Int) {k : Int → Prog α} : (∀ x, Sets lo hi (k x)) → Sets lo hi (.get i k)
  | set (i v : Int) {k : Unit → Prog α} : lo ≤ i → i < hi → Sets lo hi (k ()) → Sets lo hi (.set i v k)
  | note (m : Int) {k : Unit → Prog α} : Sets lo hi (k ()) → Sets lo hi (.note m k)
theorem Prog.Sets.bind {α β : Type} {lo hi : Int} {p : Prog α} {f : α → Prog β} (h : p.Sets lo hi) (hf : ∀ a, (f a).Sets lo hi) : (p.bind f).Sets lo hi := by
  induction h with
  | ret a => exact hf a
  | read c _ ih => exact .read c fun x => ih x
  | write c v _ ih => exact .write c v ih
  | get c _ ih => exact .get c fun x => ih x
  | set c v h1 h2 _ ih => exact .set c v h1 h2 ih
  | note m _ ih => exact .note m ih
theorem Prog.Sets.mono {α : Type} {lo hi lo' hi' : Int} {p : Prog α} (h : p.Sets lo hi) (h1 : lo' ≤ lo) (h2 : hi ≤ hi') : p.Sets lo' hi' := by
  induction h with
  | ret a => exact .ret a
  | read c _ ih => exact .read c fun x => ih x
  | write c v _ ih => exact .write c v ih
  | get c _ ih => exact .get c fun x => ih x
  | set c v h3 h4 _ ih => exact .set c v (by omega) (by omega) ih
  | note m _ ih => exact .note m ih
/-- All other locals stay. -/
theorem Prog.Sets.got {α : Type} {lo hi i : Int} {p : Prog α} (h : p.Sets lo hi) (hi2 : i < lo ∨ hi ≤ i) : ∀ S : TS, (p.run S).2.got i = S.got i := by
  induction h with
  | ret a => intro S; rfl
  | read c _ ih =>
    intro S
    simp only [Prog.run]
    cases S.next with
    | none => rfl
    | some v => exact (ih v _).trans rfl
  | write c v _ ih =>
    intro S
    simp only [Prog.run]
    cases S.next with
    | none => rfl
    | some _ => exact (ih _).trans rfl
  | get c _ ih => intro S; exact ih _ _
  | set j v h1 h2 _ ih =>
    intro S
    refine (ih (S.upd j v)).trans ?_
    unfold TS.got TS.upd
    split
    · rfl
    · split
      · simp only
        rw [if_neg (by omega)]
      · rfl
  | note m _ ih => intro S; exact (ih _).trans rfl
theorem sets_rd (lo hi c : Int) : (rd c).Sets lo hi := .read c fun x => .ret x
theorem sets_wr (lo hi c v : Int) : (wr c v).Sets lo hi := .write c v (.ret ())
theorem sets_gt (lo hi c : Int) : (gt c).Sets lo hi := .get c fun x => .ret x
theorem sets_st {lo hi c : Int} (v : Int) (h1 : lo ≤ c) (h2 : c < hi) : (st c v).Sets lo hi := .set c v h1 h2 (.ret ())
theorem sets_forP {σ : Type} {lo hi : Int} {T : Int → σ → Prog σ} : ∀ (l : List Int), (∀ a ∈ l, ∀ x, (T a x).Sets lo hi) → ∀ x : σ, (forP T l x).Sets lo hi
  | [], _, x => .ret x
  | a :: l, h, x => (h a (List.mem_cons_self ..) x).bind fun y => sets_forP l (fun b hb => h b (List.mem_cons_of_mem _ hb)) y
theorem ranks_mem {but : Int} : ∀ (n : Nat) (i : Int) {a : Int}, a ∈ ranksFrom but n i → i ≤ a ∧ a < i + n ∧ a ≠ but
  | 0, i, a, h => by cases h
  | n + 1, i, a, h => by
    unfold ranksFrom at h
    split at h
    · have := ranks_mem n (i + 1) h
      omega
    · rcases List.mem_cons.1 h with rfl | h
      · omega
      · have := ranks_mem n (i + 1) h
        omega
theorem otherM_bd (v : Int) : 0 ≤ otherM v ∧ otherM v ≤ 1 := by unfold otherM; split <;> omega
theorem bitM_bd (v : Int) : 0 ≤ bitM v ∧ bitM v ≤ 1 := by unfold bitM; split <;> omega
theorem sets_trompW (b l v : Int) : (trompW b l v).Sets l (l + 4) := by
  refine (sets_gt _ _ _).bind fun x => ?_
  split
  · exact .ret _
  · refine (sets_wr _ _ _ _).bind fun _ => (sets_st _ (by omega) (by omega)).bind fun _ => (sets_gt _ _ _).bind fun _ => (sets_rd _ _ _).bind fun _ => ?_
    split
    · exact (sets_wr _ _ _ _).bind fun _ => sets_st _ (by omega) (by omega)
    · exact .ret _
theorem sets_trompR3 (b l x : Int) : (trompR3 b l x).Sets l (l + 4) := by
  refine (sets_rd _ _ _).bind fun _ => (sets_st _ (by omega) (by omega)).bind fun _ => (sets_rd _ _ _).bind fun _ => (sets_gt _ _ _).bind fun _ => ?_
  split
  · exact sets_gt _ _ _
  · exact (sets_rd _ _ _).bind fun _ => (sets_st _ (by omega) (by omega)).bind fun _ => .ret _
theorem sets_trompR2 (b l x : Int) : (trompR2 b l x).Sets l (l + 4) := by
  refine (sets_rd _ _ _).bind fun _ => (sets_gt _ _ _).bind fun _ => ?_
  split
  · exact sets_trompR3 _ _ _
  · exact (sets_gt _ _ _).bind fun _ => (sets_wr _ _ _ _).bind fun _ => (sets_st _ (by omega) (by omega)).bind fun _ => sets_trompR3 _ _ _
theorem sets_trompR (b l : Int) : (trompR b l).Sets l (l + 4) := by
  refine (sets_rd _ _ _).bind fun _ => (sets_gt _ _ _).bind fun _ => ?_
  split
  · exact sets_gt _ _ _
  · exact (sets_rd _ _ _).bind fun _ => sets_trompR2 _ _ _
theorem sets_slotsW (b l v : Int) : (slotsW b l v).Sets l (l + 18) := by
  refine ((sets_trompR _ _).mono (by omega) (by omega)).bind fun y => (sets_gt _ _ _).bind fun z => (sets_wr _ _ _ _).bind fun _ => ?_
  have := otherM_bd y
  refine (sets_st _ (by omega) (by omega)).bind fun _ => ((sets_trompW _ _ _).mono (by omega) (by omega)).bind fun _ => (sets_trompW _ _ _).mono (by omega) (by omega)
theorem sets_slotsR (b l : Int) : (slotsR b l).Sets l (l + 18) := by
  refine ((sets_trompR _ _).mono (by omega) (by omega)).bind fun y => ((sets_trompW _ _ _).mono (by omega) (by omega)).bind fun _ => ?_
  have := bitM_bd y
  exact ((sets_trompR _ _).mono (by omega) (by omega)).bind fun _ => sets_rd _ _ _
/-- The numbers of a table's slots. -/
theorem tells_bd {k a b : Int} (ha : 0 ≤ a) (ha2 : a < k) (hb : 0 ≤ b) (hb2 : b < k) (hab : a ≠ b) : 0 ≤ tellsM k a b ∧ tellsM k a b < k * k := by
  unfold tellsM
  have h1 : a * (k - 1) ≤ (k - 1) * (k - 1) := Int.mul_le_mul_of_nonneg_right (by omega) (by omega)
  have h0 : 0 ≤ a * (k - 1) := Int.mul_nonneg ha (by omega)
  have h2 : (k - 1) * (k - 1) = k * k - 2 * k + 1 := by
    rw [Int.sub_mul, Int.mul_sub, Int.mul_one, Int.one_mul]; omega
  split
  · omega
  · rename_i h
    by_cases e : a = k - 1
    · omega
    · have h3 : a * (k - 1) ≤ (k - 2) * (k - 1) := Int.mul_le_mul_of_nonneg_right (by omega) (by omega)
      have h4 : (k - 2) * (k - 1) = k * k - 3 * k + 2 := by
        rw [Int.sub_mul, Int.mul_sub, Int.mul_one]; omega
      omega
theorem rankM_bd {n w me : Int} (hw : 0 ≤ w) (hw2 : w < n) (hm : 0 ≤ me) (hm2 : me < n) (h : me ≠ w) : 0 ≤ rankM w me ∧ rankM w me < n - 1 := by
  unfold rankM
  split <;> omega
theorem sets_tableR {b l n w top me : Int} (hw : 0 ≤ w) (hw2 : w < n) (hm : 0 ≤ me) (hm2 : me < n) : (tableR b l n w top me).Sets l (l + (2 + 18 * ((n - 1) * (n - 1)))) := by
  unfold tableR
  split
  · exact sets_gt _ _ _
  · rename_i h
    obtain ⟨r1, r2⟩ := rankM_bd hw hw2 hm hm2 h
    have hk : n - 1 ≤ (n - 1) * (n - 1) := by
      have := Int.mul_le_mul_of_nonneg_right (show 1 ≤ n - 1 by omega) (show 0 ≤ n - 1 by omega)
      omega
    refine ((sets_slotsR _ _).mono (by omega) (by omega)).bind fun x => (sets_forP _ (fun i hi y => ?_) _).bind fun x => (sets_forP _ (fun i hi y => ?_) _).bind fun _ => .ret _
    · obtain ⟨i1, i2, i3⟩ := ranks_mem _ _ hi
      obtain ⟨t1, t2⟩ := tells_bd (k := n - 1) (a := i) (b := rankM w me) i1 (by omega) r1 r2 i3
      exact ((sets_slotsR _ _).mono (by omega) (by omega)).bind fun _ => .ret _
    · obtain ⟨i1, i2, i3⟩ := ranks_mem _ _ hi
      obtain ⟨t1, t2⟩ := tells_bd (k := n - 1) (a := rankM w me) (b := i) r1 r2 i1 (by omega) (fun e => i3 e.symm)
      exact (sets_slotsW _ _ _).mono (by omega) (by omega)
end Kv
/-
  Plain mathematics of three locks (Peterson's filter, Lamport's fast lock, the black-white bakery) as trees.
-/
namespace Kv
/-- The register at a place. -/
def regAt (l : List Reg) (i : Int) : Reg := l.getD i.toNat ⟨1, 0, 0, 1, -1, -1, 1⟩
theorem regAt_of {l : List Reg} {i : Int} {k : Nat} {r : Reg} (hi : i = k) (h : l[k]? = some r) : regAt l i = r := by
  unfold regAt
  rw [hi, Int.toNat_natCast, List.getD_eq_getElem?_getD, h]; rfl
/-- Waiting in the filter: till a thread's level is below one, or another one is the victim. -/
def filWait (r v : Reg) (me level : Int) : Nat → Prog Unit
  | 0 => .ret ()
  | n + 1 => (regR r me).bind fun x => if x < level then .ret () else (regR v me).bind fun y => if y = me + 1 then filWait r v me level n else .ret ()
/-- A level of the filter. -/
def filLevel (N : Nat) (l : List Reg) (n me level : Int) : Prog Unit :=
  (regW (regAt l me) me level).bind fun _ => (regW (regAt l (n - 1 + level)) me (me + 1)).bind fun _ =>
    forP (fun j _ => filWait (regAt l j) (regAt l (n - 1 + level)) me level N) (ranksFrom me n.toNat 0) ()
def filA (N : Nat) (l : List Reg) (n me : Int) : Prog Int :=
  (nt 1).bind fun _ => (forP (fun level _ => filLevel N l n me level) (ranksFrom (-1) (n - 1).toNat 1) ()).bind fun _ => (nt 3).bind fun _ => .ret 0
def filR (l : List Reg) (me : Int) : Prog Unit := (nt 5).bind fun _ => regW (regAt l me) me 0
/-- Reading a register till it tells 0. -/
def zeroP (r : Reg) (me : Int) : Nat → Prog Unit
  | 0 => .ret ()
  | n + 1 => (regR r me).bind fun x => if x = 0 then .ret () else zeroP r me n
/-- The fast lock: so many tries at most. -/
def fastTry (N : Nat) (l : List Reg) (n me : Int) : Nat → Prog Unit
  | 0 => .ret ()
  | k + 1 => (regW (regAt l (2 + me)) me 1).bind fun _ => (regW (regAt l 0) me (me + 1)).bind fun _ => (regR (regAt l 1) me).bind fun y =>
      if y = 0 then
        (regW (regAt l 1) me (me + 1)).bind fun _ => (regR (regAt l 0) me).bind fun x =>
          if x = me + 1 then .ret () else
            (regW (regAt l (2 + me)) me 0).bind fun _ => (forP (fun j _ => zeroP (regAt l (2 + j)) me N) (ranksFrom (-1) n.toNat 0) ()).bind fun _ =>
              (regR (regAt l 1) me).bind fun y => if y = me + 1 then .ret () else (zeroP (regAt l 1) me N).bind fun _ => fastTry N l n me k
      else (regW (regAt l (2 + me)) me 0).bind fun _ => (zeroP (regAt l 1) me N).bind fun _ => fastTry N l n me k
def fastA (N : Nat) (l : List Reg) (n me : Int) : Prog Int := (nt 1).bind fun _ => (fastTry N l n me N).bind fun _ => (nt 3).bind fun _ => .ret 0
def fastR (l : List Reg) (me : Int) : Prog Unit := (nt 5).bind fun _ => (regW (regAt l 1) me 0).bind fun _ => regW (regAt l (2 + me)) me 0
/-- The bakery: the ticket behind all of one's color. -/
def bwMost (l : List Reg) (n me c : Int) (t : Int) : Prog Int :=
  forP (fun j t => (regR (regAt l (1 + n + j)) me).bind fun x => .ret (if x % 2 = c then max t (x / 2) else t)) (ranksFrom me n.toNat 0) t
def bwChoose (r : Reg) (me : Int) : Nat → Prog Unit
  | 0 => .ret ()
  | n + 1 => (regR r me).bind fun x => if x = 0 then .ret () else bwChoose r me n
/-- Waiting till a thread is not ahead any more. -/
def bwWait (l : List Reg) (n me j t c : Int) : Nat → Prog Unit
  | 0 => .ret ()
  | k + 1 => (regR (regAt l (1 + n + j)) me).bind fun x =>
      if x / 2 = 0 then .ret () else if x % 2 = c then (if t < x / 2 ∨ (x / 2 = t ∧ me < j) then .ret () else bwWait l n me j t c k)
      else (regR (regAt l 0) me).bind fun y => if bitM y = c then bwWait l n me j t c k else .ret ()
def bwA (N : Nat) (l : List Reg) (own n me : Int) : Prog Int :=
  (nt 1).bind fun _ => (regW (regAt l (1 + me)) me 1).bind fun _ => (regR (regAt l 0) me).bind fun y => (st own (bitM y)).bind fun _ =>
    (bwMost l n me (bitM y) 0).bind fun t => (regW (regAt l (1 + n + me)) me (2 * (t + 1) + bitM y)).bind fun _ => (regW (regAt l (1 + me)) me 0).bind fun _ => (nt 2).bind fun _ =>
      (forP (fun j _ => (bwChoose (regAt l (1 + j)) me N).bind fun _ => bwWait l n me j (t + 1) (bitM y) N) (ranksFrom me n.toNat 0) ()).bind fun _ => (nt 3).bind fun _ => .ret 0
def bwR (l : List Reg) (own n me : Int) : Prog Unit :=
  (nt 5).bind fun _ => (gt own).bind fun x => (regW (regAt l 0) me (1 - bitM x)).bind fun _ => regW (regAt l (1 + n + me)) me (bitM x)
theorem filLevel_bind {β : Type} (N : Nat) (l : List Reg) (n me level : Int) (f : Unit → Prog β) : (filLevel N l n me level).bind f = (regW (regAt l me) me level).bind fun _ => (regW (regAt l (n - 1 + level)) me (me + 1)).bind fun _ =>
    (forP (fun j _ => filWait (regAt l j) (regAt l (n - 1 + level)) me level N) (ranksFrom me n.toNat 0) ()).bind f := by
  unfold filLevel
  simp only [Prog.bind_assoc]
theorem filWait_bind {β : Type} (r v : Reg) (me level : Int) (n : Nat) (f : Unit → Prog β) : (filWait r v me level (n + 1)).bind f = (regR r me).bind fun x => if x < level then f () else (regR v me).bind fun y => if y = me + 1 then (filWait r v me level n).bind f else f () := by
  rw [show filWait r v me level (n + 1) = (regR r me).bind fun x => if x < level then .ret () else (regR v me).bind fun y => if y = me + 1 then filWait r v me level n else .ret () from rfl, Prog.bind_assoc]
  congr 1
  funext x
  split
  · rfl
  · rw [Prog.bind_assoc]
    congr 1
    funext y
    split <;> rfl
theorem zeroP_bind {β : Type} (r : Reg) (me : Int) (n : Nat) (f : Unit → Prog β) : (zeroP r me (n + 1)).bind f = (regR r me).bind fun x => if x = 0 then f () else (zeroP r me n).bind f := by
  rw [show zeroP r me (n + 1) = (regR r me).bind fun x => if x = 0 then .ret () else zeroP r me n from rfl, Prog.bind_assoc]
  congr 1
  funext x
  split <;> rfl
theorem notes_filWait (r v : Reg) (me level : Int) : ∀ n : Nat, (filWait r v me level n).Notes 0
  | 0 => .ret _ _
  | n + 1 => by
    rw [show filWait r v me level (n + 1) = (regR r me).bind fun x => if x < level then .ret () else (regR v me).bind fun y => if y = me + 1 then filWait r v me level n else .ret () from rfl]
    refine (notes_regR _ _).bind0 fun x => ?_
    split
    · exact .ret _ _
    · refine (notes_regR _ _).bind0 fun y => ?_
      split
      · exact notes_filWait r v me level n
      · exact .ret _ _
theorem notes_zeroP (r : Reg) (me : Int) : ∀ n : Nat, (zeroP r me n).Notes 0
  | 0 => .ret _ _
  | n + 1 => by
    rw [show zeroP r me (n + 1) = (regR r me).bind fun x => if x = 0 then .ret () else zeroP r me n from rfl]
    refine (notes_regR _ _).bind0 fun x => ?_
    split
    · exact .ret _ _
    · exact notes_zeroP r me n
end Kv
/-
  The wants of three locks, as the program and the document list them.
-/
namespace Kv
def filWant (N i : Nat) : Want := if i < N then ⟨i, N⟩ else ⟨-1, N⟩
def filWants (N : Nat) : List Want := (List.range (2 * N - 1)).map (filWant N)
def fastWant (N i : Nat) : Want := if i < 2 then ⟨-1, N⟩ else ⟨i - 2, 1⟩
def fastWants (N : Nat) : List Want := (List.range (N + 2)).map (fastWant N)
def bwWant (N i : Nat) : Want := if i = 0 then ⟨-1, 1⟩ else if i ≤ N then ⟨i - 1, 1⟩ else ⟨i - 1 - N, 4 * N⟩
def bwWants (N : Nat) : List Want := (List.range (2 * N + 1)).map (bwWant N)
end Kv
namespace Go.Proofs.Ytpcohbpeglledaa
open Go.RowKit Kv
/-- The first so many wants, as cells. -/
def wantRow (f : Nat → Want) (n : Nat) : List Value := ((List.range n).map f).flatMap wantVals
theorem wants_succ (f : Nat → Want) (j : Nat) : wantRow f (j + 1) = wantRow f j ++ wantVals (f j) := by
  unfold wantRow
  rw [List.range_succ, List.map_append, List.flatMap_append]
  simp
theorem wants_row {w : World} {B : Nat} {v : Value} {n : Nat} {f : Nat → Want} (h : w.ownsRow B 59 2 v n (wantRow f n)) : WantsAt w v ((List.range n).map f) := by
  have := Recs.of_row h
  unfold WantsAt
  rw [List.length_map, List.length_range]
  exact this
set_option maxRecDepth 100000 in
theorem filwants_p (N : Nat) (w : World) (h1 : 1 ≤ N) (h2 : N ≤ 8) : Calls Try.prog 58 #[.int .i64 N] w fun e w' => ∃ v, e = .returned v ∧ WantsAt w' v (filWants N) ∧ Ext w w' := by
  have hmx : min (max (N : Int) 1) 8 = N := by omega
  go_enter Try.func58, Try.ntmps58
  go_wp2_with fail
  go_loopw [3, 9] (fun v i wr => ∃ j : Nat, i = .int .i64 j ∧ j ≤ N ∧ wr.ownsRow w.heap.size 59 2 v j (wantRow (filWant N) j) ∧ Ext w wr) (fun _ i _ => N - (intOf i).toNat)
  case atStart => exact ⟨0, rfl, by omega, World.ownsRow_nil _ _ _ _, Ext.refl _⟩
  case round =>
    obtain ⟨j, rfl, hj, hown, hE⟩ := hrel
    by_cases hl : j < N
    · go_wp2_with (at_builtin; refine append_rec info_want Try.underlying27 rfl (by decide) (by decide) rfl _ _ rfl _ j _ [.int .i64 j, .int .i64 N] hE hown rfl rfl rfl (by simp [Value.oneCell']) (by omega) ?_)
      intro v' w' ho hx _
      have hoh := Lib.hid ho
      clear hown ho
      go_wp2_with fail
      refine ⟨⟨j + 1, by go_num, by omega, ?_, hx⟩, ?_⟩
      · rw [show (j + 1) = j + 1 from by omega, wants_succ]
        rw [show filWant N (j) = ⟨(j : Int), (N : Int)⟩ from by unfold filWant; rw [if_pos hl]]
        exact hoh.out
      · simp [intOf]; omega
    · obtain rfl : j = N := by omega
      have hsub := IntWalk.i64_in ((j : Int) - 1) (by omega)
      have hE0 := Lib.hid hE
      have hown0 := Lib.hid hown
      clear hown hE
      go_wp2_with fail
      clear hmx hsub
      go_loopw [3, 21] (fun v i wr => ∃ k : Nat, i = .int .i64 k ∧ k ≤ j - 1 ∧ wr.ownsRow w.heap.size 59 2 v (j + k) (wantRow (filWant j) (j + k)) ∧ Ext w wr) (fun _ i _ => (j - 1) - (intOf i).toNat)
      case atStart => exact ⟨0, rfl, by omega, hown0.out, hE0.out⟩
      case round =>
        clear hown0 hE0
        obtain ⟨k, rfl, hk, hown, hE⟩ := hrel
        by_cases hl : k < j - 1
        · have dl : decide ((k : Int) < (j : Int) - 1) = true := by rw [decide_eq_true_eq]; omega
          go_wp2_with (at_builtin; refine append_rec info_want Try.underlying27 rfl (by decide) (by decide) rfl _ _ rfl _ (j + k) _ [.int .i64 (-1), .int .i64 j] hE hown rfl rfl rfl (by simp [Value.oneCell']) (by omega) ?_)
          intro v' w' ho hx _
          have hoh := Lib.hid ho
          clear hown ho
          go_wp2_with fail
          refine ⟨⟨k + 1, by go_num, by omega, ?_, hx⟩, ?_⟩
          · rw [show j + (k + 1) = (j + k) + 1 from by omega, wants_succ]
            rw [show filWant j (j + k) = ⟨-1, (j : Int)⟩ from by unfold filWant; rw [if_neg (by omega)]]
            exact hoh.out
          · simp [intOf]; omega
        · have dl : decide ((k : Int) < (j : Int) - 1) = false := by rw [decide_eq_false_iff_not]; omega
          obtain rfl : k = j - 1 := by omega
          have hownh := Lib.hid hown
          clear hown
          go_wp2_with fail
          go_ret
          refine ⟨_, rfl, ?_, hE⟩
          have := hownh.out
          rw [show j + (j - 1) = 2 * j - 1 from by omega] at this
          exact wants_row this
set_option maxRecDepth 100000 in
theorem fastwants_p (N : Nat) (w : World) (h1 : 1 ≤ N) (h2 : N ≤ 8) : Calls Try.prog 63 #[.int .i64 N] w fun e w' => ∃ v, e = .returned v ∧ WantsAt w' v (fastWants N) ∧ Ext w w' := by
  have hmx : min (max (N : Int) 1) 8 = N := by omega
  have hr0 := Lib.hid (row_new w [.int .i64 (-1), .int .i64 N, .int .i64 (-1), .int .i64 N] 59 2 2 rfl (by omega))
  have hx0 := Lib.hid ((Ext.refl w).alloc (.cells [.int .i64 (-1), .int .i64 (N : Int), .int .i64 (-1), .int .i64 (N : Int)].toArray 59))
  go_enter Try.func63, Try.ntmps63
  go_wp2_with fail
  clear hmx
  go_loopw [3, 14] (fun v i wr => ∃ j : Nat, i = .int .i64 j ∧ j ≤ N ∧ wr.ownsRow w.heap.size 59 2 v (j + 2) (wantRow (fastWant N) (j + 2)) ∧ Ext w wr) (fun _ i _ => N - (intOf i).toNat)
  case atStart => exact ⟨0, rfl, by omega, hr0.out, hx0.out⟩
  case round =>
    clear hr0 hx0
    obtain ⟨j, rfl, hj, hown, hE⟩ := hrel
    by_cases hl : j < N
    · go_wp2_with (at_builtin; refine append_rec info_want Try.underlying27 rfl (by decide) (by decide) rfl _ _ rfl _ (j + 2) _ [.int .i64 j, .int .i64 1] hE hown rfl rfl rfl (by simp [Value.oneCell']) (by omega) ?_)
      intro v' w' ho hx _
      have hoh := Lib.hid ho
      clear hown ho
      go_wp2_with fail
      refine ⟨⟨j + 1, by go_num, by omega, ?_, hx⟩, ?_⟩
      · rw [show ((j + 1) + 2) = (j + 2) + 1 from by omega, wants_succ]
        rw [show fastWant N ((j + 2)) = ⟨(j : Int), 1⟩ from by unfold fastWant; rw [if_neg (by omega)]; congr 1; omega]
        exact hoh.out
      · simp [intOf]; omega
    · obtain rfl : j = N := by omega
      have hownh := Lib.hid hown
      clear hown
      go_wp2_with fail
      go_ret
      exact ⟨_, rfl, wants_row hownh.out, hE⟩
set_option maxRecDepth 100000 in
theorem bwwants_p (N : Nat) (w : World) (h1 : 1 ≤ N) (h2 : N ≤ 8) : Calls Try.prog 65 #[.int .i64 N] w fun e w' => ∃ v, e = .returned v ∧ WantsAt w' v (bwWants N) ∧ Ext w w' := by
  have hmx : min (max (N : Int) 1) 8 = N := by omega
  have h4 := IntWalk.i64_in (4 * (N : Int)) (by omega)
  have hr0 := Lib.hid (row_new w [.int .i64 (-1), .int .i64 1] 59 2 1 rfl (by omega))
  have hx0 := Lib.hid ((Ext.refl w).alloc (.cells [.int .i64 (-1), .int .i64 1].toArray 59))
  go_enter Try.func65, Try.ntmps65
  go_wp2_with fail
  clear hmx
  go_loopw [3, 12] (fun v i wr => ∃ j : Nat, i = .int .i64 j ∧ j ≤ N ∧ wr.ownsRow w.heap.size 59 2 v (j + 1) (wantRow (bwWant N) (j + 1)) ∧ Ext w wr) (fun _ i _ => N - (intOf i).toNat)
  case atStart => exact ⟨0, rfl, by omega, hr0.out, hx0.out⟩
  case round =>
    clear hr0 hx0
    obtain ⟨j, rfl, hj, hown, hE⟩ := hrel
    by_cases hl : j < N
    · go_wp2_with (at_builtin; refine append_rec info_want Try.underlying27 rfl (by decide) (by decide) rfl _ _ rfl _ (j + 1) _ [.int .i64 j, .int .i64 1] hE hown rfl rfl rfl (by simp [Value.oneCell']) (by omega) ?_)
      intro v' w' ho hx _
      have hoh := Lib.hid ho
      clear hown ho
      go_wp2_with fail
      refine ⟨⟨j + 1, by go_num, by omega, ?_, hx⟩, ?_⟩
      · rw [show ((j + 1) + 1) = (j + 1) + 1 from by omega, wants_succ]
        rw [show bwWant N ((j + 1)) = ⟨(j : Int), 1⟩ from by unfold bwWant; rw [if_neg (by omega), if_pos (by omega)]; congr 1; omega]
        exact hoh.out
      · simp [intOf]; omega
    · obtain rfl : j = N := by omega
      have hE0 := Lib.hid hE
      have hown0 := Lib.hid hown
      clear hown hE
      go_wp2_with fail
      go_loopw [3, 22] (fun v i wr => ∃ k : Nat, i = .int .i64 k ∧ k ≤ j ∧ wr.ownsRow w.heap.size 59 2 v (j + 1 + k) (wantRow (bwWant j) (j + 1 + k)) ∧ Ext w wr) (fun _ i _ => j - (intOf i).toNat)
      case atStart => exact ⟨0, rfl, by omega, hown0.out, hE0.out⟩
      case round =>
        clear hown0 hE0
        obtain ⟨k, rfl, hk, hown, hE⟩ := hrel
        by_cases hl : k < j
        · go_wp2_with (at_builtin; refine append_rec info_want Try.underlying27 rfl (by decide) (by decide) rfl _ _ rfl _ (j + 1 + k) _ [.int .i64 k, .int .i64 (4 * (j : Int))] hE hown rfl rfl rfl (by simp [Value.oneCell']) (by omega) ?_)
          intro v' w' ho hx _
          have hoh := Lib.hid ho
          clear hown ho
          go_wp2_with fail
          refine ⟨⟨k + 1, by go_num, by omega, ?_, hx⟩, ?_⟩
          · rw [show j + 1 + (k + 1) = (j + 1 + k) + 1 from by omega, wants_succ]
            rw [show bwWant j (j + 1 + k) = ⟨(k : Int), 4 * (j : Int)⟩ from by unfold bwWant; rw [if_neg (by omega), if_neg (by omega)]; congr 1; omega]
            exact hoh.out
          · simp [intOf]; omega
        · obtain rfl : k = j := by omega
          have hownh := Lib.hid hown
          clear hown
          go_wp2_with fail
          go_ret
          refine ⟨_, rfl, ?_, hE⟩
          have := hownh.out
          rw [show k + 1 + k = 2 * k + 1 from by omega] at this
          exact wants_row this
end Go.Proofs.Ytpcohbpeglledaa
/-
  The program's registers: how many locals one has, whether one may be.
-/
namespace Go.Proofs.Ytpcohbpeglledaa
open Go.RowKit Kv
theorem within_p (a m : Int) (w : World) (h : 0 ≤ a ∧ 0 ≤ m ∧ m ≤ 10000) : Calls Try.prog 130 #[.int .i64 a, .int .i64 m, .int .i64 32768] w fun e w' => e = .returned (.bool (decide (a ≤ 32768) && decide (a + m ≤ 32768))) ∧ w = w' := by
  obtain ⟨h0, h1, h2⟩ := h
  by_cases e1 : a ≤ 32768
  · have d : decide (a ≤ 32768) = true := by simpa using e1
    rw [d, Bool.true_and]
    go_enter Try.func130, Try.ntmps130
    go_wp2_with fail
    go_ret
    exact ⟨rfl, rfl⟩
  · have d : decide (a ≤ 32768) = false := by simpa using e1
    rw [d, Bool.false_and]
    go_enter Try.func130, Try.ntmps130
    go_wp2_with fail
    go_ret
    exact ⟨rfl, rfl⟩
theorem greatest1_p (w : World) : Calls Try.prog 129 #[.int .i64 1] w fun e w' => e = .returned (.int .i64 1099511627776) ∧ w = w' := by
  go_enter Try.func129, Try.ntmps129
  go_wp2_with fail
  go_ret
  exact ⟨rfl, rfl⟩
theorem greatest6_p (w : World) : Calls Try.prog 129 #[.int .i64 6] w fun e w' => e = .returned (.int .i64 1048576) ∧ w = w' := by
  go_enter Try.func129, Try.ntmps129
  go_wp2_with fail
  go_ret
  exact ⟨rfl, rfl⟩
theorem greatest7_p (w : World) : Calls Try.prog 129 #[.int .i64 7] w fun e w' => e = .returned (.int .i64 255) ∧ w = w' := by
  go_enter Try.func129, Try.ntmps129
  go_wp2_with fail
  go_ret
  exact ⟨rfl, rfl⟩
theorem mlocals_p (n : Int) (w : World) (h1 : 1 ≤ n) (h2 : n ≤ 8) : Calls Try.prog 135 #[.int .i64 n] w fun e w' => e = .returned (.int .i64 (n * (2 + 18 * (n - 1) * (n - 1)))) ∧ w = w' := by
  have hb := locals_bd n h1 h2
  go_enter Try.func135, Try.ntmps135
  go_wp2_with fail
  refine (mthreads_p n _ h1 h2).mono ?_
  rintro e w' ⟨rfl, rfl⟩
  go_wp2_with fail
  refine (tlocals_p n _ h1 h2).mono ?_
  rintro e w' ⟨rfl, rfl⟩
  go_wp2_with fail
  go_ret
  exact ⟨rfl, rfl⟩
theorem locals_p (r : Reg) (w : World) (hk : r.kind = 1 ∨ r.kind = 6 ∨ r.kind = 7) (hn : 1 ≤ r.n ∧ r.n ≤ 8) : Calls Try.prog 125 #[encR r] w fun e w' => e = .returned (.int .i64 (localsM r)) ∧ Ext w w' := by
  obtain ⟨kind, base, loc, n, wr, rd, top⟩ := r
  simp only at hk hn
  unfold encR localsM
  simp only
  have hX := Ext.refl w
  have b1 := Blk.new w (.cells #[.int .i64 kind, .int .i64 base, .int .i64 loc, .int .i64 n, .int .i64 wr, .int .i64 rd, .int .i64 top] 41)
  replace hX := hX.alloc (.cells #[.int .i64 kind, .int .i64 base, .int .i64 loc, .int .i64 n, .int .i64 wr, .int .i64 rd, .int .i64 top] 41)
  have c_b1 := b1.cells
  rcases hk with rfl | rfl | rfl
  · go_enter Try.func125, Try.ntmps125
    go_wp2_with fail
    go_ret
    exact ⟨rfl, hX⟩
  · go_enter Try.func125, Try.ntmps125
    go_wp2_with fail
    refine (tlocals_p n _ hn.1 hn.2).mono ?_
    rintro e w' ⟨rfl, rfl⟩
    go_wp2_with fail
    go_ret
    exact ⟨rfl, hX⟩
  · go_enter Try.func125, Try.ntmps125
    go_wp2_with fail
    refine (mlocals_p n _ hn.1 hn.2).mono ?_
    rintro e w' ⟨rfl, rfl⟩
    go_wp2_with fail
    go_ret
    exact ⟨rfl, hX⟩
set_option maxRecDepth 100000 in
set_option maxHeartbeats 2000000 in
theorem pfine1_p (base loc n wr top C D : Int) (w : World) (hb : 0 ≤ base) (hl : 0 ≤ loc) (hn : 1 ≤ n ∧ n ≤ 8) (hw : -1 ≤ wr ∧ wr < n) (ht : 1 ≤ top ∧ top ≤ 255) (hz : 0 ≤ C ∧ C ≤ 6272 ∧ 0 ≤ D ∧ D ≤ 7072)
    (hC : ∀ w, Calls Try.prog 47 #[.agg #[.int .i64 1, .int .i64 base, .int .i64 loc, .int .i64 n, .int .i64 wr, .int .i64 (-1), .int .i64 top]] w fun e w' => e = .returned (.int .i64 C) ∧ Ext w w')
    (hL : ∀ w, Calls Try.prog 125 #[.agg #[.int .i64 1, .int .i64 base, .int .i64 loc, .int .i64 n, .int .i64 wr, .int .i64 (-1), .int .i64 top]] w fun e w' => e = .returned (.int .i64 D) ∧ Ext w w') :
    Calls Try.prog 124 #[.agg #[.int .i64 1, .int .i64 base, .int .i64 loc, .int .i64 n, .int .i64 wr, .int .i64 (-1), .int .i64 top]] w fun e w' => e = .returned (.bool (decide (base ≤ 32768) && decide (loc ≤ 32768) && decide (base + C ≤ 32768) && decide (loc + D ≤ 32768))) ∧ Ext w w' := by
  have d3 : decide (n < 1) = false := by simpa using hn.1
  have d4 : decide (8 < n) = false := by simpa using hn.2
  have d5 : decide (top < 1) = false := by simpa using ht.1
  have d6 : decide (1099511627776 < top) = false := by rw [decide_eq_false_iff_not]; omega
  have d7 : decide (wr < -1) = false := by rw [decide_eq_false_iff_not]; omega
  have d8 : decide (n ≤ wr) = false := by rw [decide_eq_false_iff_not]; omega
  have d9 : decide (n ≤ -1) = false := by rw [decide_eq_false_iff_not]; omega
  have hX := Ext.refl w
  have b1 := Blk.new w (.cells #[.int .i64 1, .int .i64 base, .int .i64 loc, .int .i64 n, .int .i64 wr, .int .i64 (-1), .int .i64 top] 41)
  replace hX := hX.alloc (.cells #[.int .i64 1, .int .i64 base, .int .i64 loc, .int .i64 n, .int .i64 wr, .int .i64 (-1), .int .i64 top] 41)
  have c_b1 := b1.cells
  have hW1 := fun w => within_p base C w ⟨hb, by omega⟩
  have hW2 := fun w => within_p loc D w ⟨hl, by omega⟩
  have he : (decide (base ≤ 32768) && decide (loc ≤ 32768) && decide (base + C ≤ 32768) && decide (loc + D ≤ 32768)) = ((decide (base ≤ 32768) && decide (base + C ≤ 32768)) && (decide (loc ≤ 32768) && decide (loc + D ≤ 32768))) := by
    cases decide (base ≤ 32768) <;> cases decide (loc ≤ 32768) <;> simp
  rw [he]
  clear he
  generalize (decide (base ≤ 32768) && decide (base + C ≤ 32768)) = F1 at *
  generalize (decide (loc ≤ 32768) && decide (loc + D ≤ 32768)) = F2 at *
  clear hz hb hl hn hw ht
  go_enter Try.func124, Try.ntmps124
  go_wp2_with fail
  generalize w.alloc (.cells #[.int .i64 1, .int .i64 base, .int .i64 loc, .int .i64 n, .int .i64 wr, .int .i64 (-1), .int .i64 top] 41) = W0 at *
  have hE := hX.drew
  replace b1 := b1.drew
  clear hX c_b1
  have hX := hE
  have c_b1 := b1.cells
  go_region_held2 (fun w' => ∀ i, w'.cell? ⟨w.heap.size, i, none⟩ = (#[.int .i64 1, .int .i64 base, .int .i64 loc, .int .i64 n, .int .i64 wr, .int .i64 (-1), .int .i64 top] : Array Value)[i]?) (exact c_b1)
    (first
      | (go_at_call 129
         refine (greatest1_p _).mono ?_
         rintro e w' ⟨rfl, rfl⟩))
  rename_i hh
  clear hh hE
  generalize W0.drew = W at *
  go_wp2_with fail
  have hS : ∀ w', Ext W w' → (∀ i, w'.cell? ⟨w.heap.size, i, none⟩ = (#[.int .i64 1, .int .i64 base, .int .i64 loc, .int .i64 n, .int .i64 wr, .int .i64 (-1), .int .i64 top] : Array Value)[i]?) := fun w' hx => (b1.ext hx).cells
  have hXW := hX
  clear hX c_b1
  have hX := (Ext.refl W).drew
  cases F1 with
  | true =>
    go_region_held2 (fun w' => ∀ i, w'.cell? ⟨w.heap.size, i, none⟩ = (#[.int .i64 1, .int .i64 base, .int .i64 loc, .int .i64 n, .int .i64 wr, .int .i64 (-1), .int .i64 top] : Array Value)[i]?) (exact hS _ hX)
      (first
          | (go_at_call 47
             refine (hC _).mono ?_
             rintro e w2 ⟨rfl, hx⟩
             replace hX := hX.trans hx
             clear hx)
          | (go_at_call 125
             refine (hL _).mono ?_
             rintro e w2 ⟨rfl, hx⟩
             replace hX := hX.trans hx
             clear hx)
          | (go_at_call_of 130 (Value.int IntKind.i64 base)
             refine (hW1 _).mono ?_
             rintro e w' ⟨rfl, rfl⟩)
          | (go_at_call_of 130 (Value.int IntKind.i64 loc)
             refine (hW2 _).mono ?_
             rintro e w' ⟨rfl, rfl⟩))
    go_wp2_with fail
    go_ret
    exact ⟨rfl, hXW.trans hX⟩
  | false =>
    refine wp_region_held_drew (S := (fun w' => ∀ i, w'.cell? ⟨w.heap.size, i, none⟩ = (#[.int .i64 1, .int .i64 base, .int .i64 loc, .int .i64 n, .int .i64 wr, .int .i64 (-1), .int .i64 top] : Array Value)[i]?)) rfl (hS _ hX) (fun hHeld => ?_)
    refine wpAnyH_take (i := 0) (v := ?_) rfl (by kernel_rfl) (by kernel_rfl) (by kernel_rfl) (fun _ _ _ h => h) (Or.inl ⟨by kernel_rfl, ?_⟩) (by assumption) ?_
    rotate_left
    · (intro w hSw; (try dsimp only at hSw); go_simp; try with_reducible rfl)
    try simp only [put_pack]
    refine wpAnyH_take (i := 1) (v := ?_) rfl (by kernel_rfl) (by kernel_rfl) (by kernel_rfl) (fun _ _ _ h => h) (Or.inl ⟨by kernel_rfl, ?_⟩) (by assumption) ?_
    rotate_left
    · (intro w hSw; (try dsimp only at hSw); go_simp; try with_reducible rfl)
    try simp only [put_pack]
    refine wpAnyH_take (i := 2) (v := ?_) rfl (by kernel_rfl) (by kernel_rfl) (by kernel_rfl) (fun _ _ _ h => h) (Or.inl ⟨by kernel_rfl, ?_⟩) (by assumption) ?_
    rotate_left
    · (intro w hSw; (try dsimp only at hSw); go_simp; try with_reducible rfl)
    try simp only [put_pack]
    refine wpAnyH_ready (rs := [3]) (by kernel_rfl) (by simp) ?_
    refine AllReadyH.cons rfl (fun K hKK => ?_) AllReadyH.nil
    go_simp
    refine (hC _).mono ?_
    rintro e w2 ⟨rfl, hx⟩
    replace hX := hX.trans hx
    clear hx
    refine hKK.out _ _ (hS _ hX) (fun hHeld => ?_)
    clear hKK K
    try dsimp only
    refine wpAnyH_ready (rs := [4]) (by kernel_rfl) (by simp) ?_
    refine AllReadyH.cons rfl (fun K hKK => ?_) AllReadyH.nil
    go_simp
    refine (hW1 _).mono ?_
    rintro e w' ⟨rfl, rfl⟩
    refine hKK.out _ _ (hS _ hX) (fun hHeld => ?_)
    clear hKK K
    try dsimp only
    refine wpAnyH_take (i := 5) (v := ?_) rfl (by kernel_rfl) (by kernel_rfl) (by kernel_rfl) (fun _ _ _ h => h) (Or.inl ⟨by kernel_rfl, ?_⟩) (by assumption) ?_
    rotate_left
    · (intro w hSw; (try dsimp only at hSw); go_simp; try with_reducible rfl)
    try simp only [put_pack]
    refine wpAnyH_take (i := 6) (v := undef) rfl (by kernel_rfl) (by kernel_rfl) (by kernel_rfl) (fun _ _ _ h => h) (Or.inr ⟨by kernel_rfl, rfl⟩) (by assumption) ?_
    try simp only [put_pack]
    refine wpAnyH_take (i := 7) (v := undef) rfl (by kernel_rfl) (by kernel_rfl) (by kernel_rfl) (fun _ _ _ h => h) (Or.inr ⟨by kernel_rfl, rfl⟩) (by assumption) ?_
    try simp only [put_pack]
    refine wpAnyH_take (i := 8) (v := undef) rfl (by kernel_rfl) (by kernel_rfl) (by kernel_rfl) (fun _ _ _ h => h) (Or.inr ⟨by kernel_rfl, rfl⟩) (by assumption) ?_
    try simp only [put_pack]
    refine wpAnyH_take (i := 9) (v := undef) rfl (by kernel_rfl) (by kernel_rfl) (by kernel_rfl) (fun _ _ _ h => h) (Or.inr ⟨by kernel_rfl, rfl⟩) (by assumption) ?_
    try simp only [put_pack]
    refine wpAnyH_take (i := 10) (v := undef) rfl (by kernel_rfl) (by kernel_rfl) (by kernel_rfl) (fun _ _ _ h => h) (Or.inr ⟨by kernel_rfl, rfl⟩) (by assumption) ?_
    try simp only [put_pack]
    refine wpAnyH_take (i := 11) (v := ?_) rfl (by kernel_rfl) (by kernel_rfl) (by kernel_rfl) (fun _ _ _ h => h) (Or.inl ⟨by kernel_rfl, ?_⟩) (by assumption) ?_
    rotate_left
    · (intro w hSw; (try dsimp only at hSw); go_simp; try with_reducible rfl)
    try simp only [put_pack]
    refine wpAnyH_take (i := 12) (v := ?_) rfl (by kernel_rfl) (by kernel_rfl) (by kernel_rfl) (fun _ _ _ h => h) (Or.inl ⟨by kernel_rfl, ?_⟩) (by assumption) ?_
    rotate_left
    · (intro w hSw; (try dsimp only at hSw); go_simp; try with_reducible rfl)
    try simp only [put_pack]
    refine wpAnyH_done (by kernel_rfl) ?_ _
    go_simp
    go_wp2_with fail
    go_ret
    refine ⟨?_, hXW.trans hX⟩
    rfl
set_option maxRecDepth 100000 in
set_option maxHeartbeats 2000000 in
theorem pfine6_p (base loc n wr top C D : Int) (w : World) (hb : 0 ≤ base) (hl : 0 ≤ loc) (hn : 1 ≤ n ∧ n ≤ 8) (hw : 0 ≤ wr ∧ wr < n) (ht : 1 ≤ top ∧ top ≤ 255) (hz : 0 ≤ C ∧ C ≤ 6272 ∧ 0 ≤ D ∧ D ≤ 7072)
    (hC : ∀ w, Calls Try.prog 47 #[.agg #[.int .i64 6, .int .i64 base, .int .i64 loc, .int .i64 n, .int .i64 wr, .int .i64 (-1), .int .i64 top]] w fun e w' => e = .returned (.int .i64 C) ∧ Ext w w')
    (hL : ∀ w, Calls Try.prog 125 #[.agg #[.int .i64 6, .int .i64 base, .int .i64 loc, .int .i64 n, .int .i64 wr, .int .i64 (-1), .int .i64 top]] w fun e w' => e = .returned (.int .i64 D) ∧ Ext w w') :
    Calls Try.prog 124 #[.agg #[.int .i64 6, .int .i64 base, .int .i64 loc, .int .i64 n, .int .i64 wr, .int .i64 (-1), .int .i64 top]] w fun e w' => e = .returned (.bool (decide (base ≤ 32768) && decide (loc ≤ 32768) && decide (base + C ≤ 32768) && decide (loc + D ≤ 32768))) ∧ Ext w w' := by
  have d3 : decide (n < 1) = false := by simpa using hn.1
  have d4 : decide (8 < n) = false := by simpa using hn.2
  have d5 : decide (top < 1) = false := by simpa using ht.1
  have d6 : decide (1048576 < top) = false := by rw [decide_eq_false_iff_not]; omega
  have d7 : decide (wr < -1) = false := by rw [decide_eq_false_iff_not]; omega
  have d8 : decide (n ≤ wr) = false := by rw [decide_eq_false_iff_not]; omega
  have d9 : decide (n ≤ -1) = false := by rw [decide_eq_false_iff_not]; omega
  have dn : (wr == -1) = false := by rw [beq_eq_false_iff_ne]; omega
  have hX := Ext.refl w
  have b1 := Blk.new w (.cells #[.int .i64 6, .int .i64 base, .int .i64 loc, .int .i64 n, .int .i64 wr, .int .i64 (-1), .int .i64 top] 41)
  replace hX := hX.alloc (.cells #[.int .i64 6, .int .i64 base, .int .i64 loc, .int .i64 n, .int .i64 wr, .int .i64 (-1), .int .i64 top] 41)
  have c_b1 := b1.cells
  have hW1 := fun w => within_p base C w ⟨hb, by omega⟩
  have hW2 := fun w => within_p loc D w ⟨hl, by omega⟩
  have he : (decide (base ≤ 32768) && decide (loc ≤ 32768) && decide (base + C ≤ 32768) && decide (loc + D ≤ 32768)) = ((decide (base ≤ 32768) && decide (base + C ≤ 32768)) && (decide (loc ≤ 32768) && decide (loc + D ≤ 32768))) := by
    cases decide (base ≤ 32768) <;> cases decide (loc ≤ 32768) <;> simp
  rw [he]
  clear he
  generalize (decide (base ≤ 32768) && decide (base + C ≤ 32768)) = F1 at *
  generalize (decide (loc ≤ 32768) && decide (loc + D ≤ 32768)) = F2 at *
  clear hz hb hl hn hw ht
  go_enter Try.func124, Try.ntmps124
  go_wp2_with fail
  generalize w.alloc (.cells #[.int .i64 6, .int .i64 base, .int .i64 loc, .int .i64 n, .int .i64 wr, .int .i64 (-1), .int .i64 top] 41) = W0 at *
  have hE := hX.drew
  replace b1 := b1.drew
  clear hX c_b1
  have hX := hE
  have c_b1 := b1.cells
  go_region_held2 (fun w' => ∀ i, w'.cell? ⟨w.heap.size, i, none⟩ = (#[.int .i64 6, .int .i64 base, .int .i64 loc, .int .i64 n, .int .i64 wr, .int .i64 (-1), .int .i64 top] : Array Value)[i]?) (exact c_b1)
    (first
      | (go_at_call 129
         refine (greatest6_p _).mono ?_
         rintro e w' ⟨rfl, rfl⟩))
  rename_i hh
  clear hh hE
  generalize W0.drew = W at *
  go_wp2_with fail
  have hS : ∀ w', Ext W w' → (∀ i, w'.cell? ⟨w.heap.size, i, none⟩ = (#[.int .i64 6, .int .i64 base, .int .i64 loc, .int .i64 n, .int .i64 wr, .int .i64 (-1), .int .i64 top] : Array Value)[i]?) := fun w' hx => (b1.ext hx).cells
  have hXW := hX
  clear hX c_b1
  have hX := (Ext.refl W).drew
  cases F1 with
  | true =>
    go_region_held2 (fun w' => ∀ i, w'.cell? ⟨w.heap.size, i, none⟩ = (#[.int .i64 6, .int .i64 base, .int .i64 loc, .int .i64 n, .int .i64 wr, .int .i64 (-1), .int .i64 top] : Array Value)[i]?) (exact hS _ hX)
      (first
          | (go_at_call 47
             refine (hC _).mono ?_
             rintro e w2 ⟨rfl, hx⟩
             replace hX := hX.trans hx
             clear hx)
          | (go_at_call 125
             refine (hL _).mono ?_
             rintro e w2 ⟨rfl, hx⟩
             replace hX := hX.trans hx
             clear hx)
          | (go_at_call_of 130 (Value.int IntKind.i64 base)
             refine (hW1 _).mono ?_
             rintro e w' ⟨rfl, rfl⟩)
          | (go_at_call_of 130 (Value.int IntKind.i64 loc)
             refine (hW2 _).mono ?_
             rintro e w' ⟨rfl, rfl⟩))
    go_wp2_with fail
    go_ret
    exact ⟨rfl, hXW.trans hX⟩
  | false =>
    refine wp_region_held_drew (S := (fun w' => ∀ i, w'.cell? ⟨w.heap.size, i, none⟩ = (#[.int .i64 6, .int .i64 base, .int .i64 loc, .int .i64 n, .int .i64 wr, .int .i64 (-1), .int .i64 top] : Array Value)[i]?)) rfl (hS _ hX) (fun hHeld => ?_)
    refine wpAnyH_take (i := 0) (v := ?_) rfl (by kernel_rfl) (by kernel_rfl) (by kernel_rfl) (fun _ _ _ h => h) (Or.inl ⟨by kernel_rfl, ?_⟩) (by assumption) ?_
    rotate_left
    · (intro w hSw; (try dsimp only at hSw); go_simp; try with_reducible rfl)
    try simp only [put_pack]
    refine wpAnyH_take (i := 1) (v := ?_) rfl (by kernel_rfl) (by kernel_rfl) (by kernel_rfl) (fun _ _ _ h => h) (Or.inl ⟨by kernel_rfl, ?_⟩) (by assumption) ?_
    rotate_left
    · (intro w hSw; (try dsimp only at hSw); go_simp; try with_reducible rfl)
    try simp only [put_pack]
    refine wpAnyH_take (i := 2) (v := ?_) rfl (by kernel_rfl) (by kernel_rfl) (by kernel_rfl) (fun _ _ _ h => h) (Or.inl ⟨by kernel_rfl, ?_⟩) (by assumption) ?_
    rotate_left
    · (intro w hSw; (try dsimp only at hSw); go_simp; try with_reducible rfl)
    try simp only [put_pack]
    refine wpAnyH_ready (rs := [3]) (by kernel_rfl) (by simp) ?_
    refine AllReadyH.cons rfl (fun K hKK => ?_) AllReadyH.nil
    go_simp
    refine (hC _).mono ?_
    rintro e w2 ⟨rfl, hx⟩
    replace hX := hX.trans hx
    clear hx
    refine hKK.out _ _ (hS _ hX) (fun hHeld => ?_)
    clear hKK K
    try dsimp only
    refine wpAnyH_ready (rs := [4]) (by kernel_rfl) (by simp) ?_
    refine AllReadyH.cons rfl (fun K hKK => ?_) AllReadyH.nil
    go_simp
    refine (hW1 _).mono ?_
    rintro e w' ⟨rfl, rfl⟩
    refine hKK.out _ _ (hS _ hX) (fun hHeld => ?_)
    clear hKK K
    try dsimp only
    refine wpAnyH_take (i := 5) (v := ?_) rfl (by kernel_rfl) (by kernel_rfl) (by kernel_rfl) (fun _ _ _ h => h) (Or.inl ⟨by kernel_rfl, ?_⟩) (by assumption) ?_
    rotate_left
    · (intro w hSw; (try dsimp only at hSw); go_simp; try with_reducible rfl)
    try simp only [put_pack]
    refine wpAnyH_take (i := 6) (v := undef) rfl (by kernel_rfl) (by kernel_rfl) (by kernel_rfl) (fun _ _ _ h => h) (Or.inr ⟨by kernel_rfl, rfl⟩) (by assumption) ?_
    try simp only [put_pack]
    refine wpAnyH_take (i := 7) (v := undef) rfl (by kernel_rfl) (by kernel_rfl) (by kernel_rfl) (fun _ _ _ h => h) (Or.inr ⟨by kernel_rfl, rfl⟩) (by assumption) ?_
    try simp only [put_pack]
    refine wpAnyH_take (i := 8) (v := undef) rfl (by kernel_rfl) (by kernel_rfl) (by kernel_rfl) (fun _ _ _ h => h) (Or.inr ⟨by kernel_rfl, rfl⟩) (by assumption) ?_
    try simp only [put_pack]
    refine wpAnyH_take (i := 9) (v := undef) rfl (by kernel_rfl) (by kernel_rfl) (by kernel_rfl) (fun _ _ _ h => h) (Or.inr ⟨by kernel_rfl, rfl⟩) (by assumption) ?_
    try simp only [put_pack]
    refine wpAnyH_take (i := 10) (v := undef) rfl (by kernel_rfl) (by kernel_rfl) (by kernel_rfl) (fun _ _ _ h => h) (Or.inr ⟨by kernel_rfl, rfl⟩) (by assumption) ?_
    try simp only [put_pack]
    refine wpAnyH_take (i := 11) (v := ?_) rfl (by kernel_rfl) (by kernel_rfl) (by kernel_rfl) (fun _ _ _ h => h) (Or.inl ⟨by kernel_rfl, ?_⟩) (by assumption) ?_
    rotate_left
    · (intro w hSw; (try dsimp only at hSw); go_simp; try with_reducible rfl)
    try simp only [put_pack]
    refine wpAnyH_take (i := 12) (v := ?_) rfl (by kernel_rfl) (by kernel_rfl) (by kernel_rfl) (fun _ _ _ h => h) (Or.inl ⟨by kernel_rfl, ?_⟩) (by assumption) ?_
    rotate_left
    · (intro w hSw; (try dsimp only at hSw); go_simp; try with_reducible rfl)
    try simp only [put_pack]
    refine wpAnyH_done (by kernel_rfl) ?_ _
    go_simp
    go_wp2_with fail
    go_ret
    refine ⟨?_, hXW.trans hX⟩
    rfl
set_option maxRecDepth 100000 in
set_option maxHeartbeats 2000000 in
theorem pfine7_p (base loc n wr top C D : Int) (w : World) (hb : 0 ≤ base) (hl : 0 ≤ loc) (hn : 1 ≤ n ∧ n ≤ 8) (hw : -1 ≤ wr ∧ wr < n) (ht : 1 ≤ top ∧ top ≤ 255) (hz : 0 ≤ C ∧ C ≤ 6272 ∧ 0 ≤ D ∧ D ≤ 7072)
    (hC : ∀ w, Calls Try.prog 47 #[.agg #[.int .i64 7, .int .i64 base, .int .i64 loc, .int .i64 n, .int .i64 wr, .int .i64 (-1), .int .i64 top]] w fun e w' => e = .returned (.int .i64 C) ∧ Ext w w')
    (hL : ∀ w, Calls Try.prog 125 #[.agg #[.int .i64 7, .int .i64 base, .int .i64 loc, .int .i64 n, .int .i64 wr, .int .i64 (-1), .int .i64 top]] w fun e w' => e = .returned (.int .i64 D) ∧ Ext w w') :
    Calls Try.prog 124 #[.agg #[.int .i64 7, .int .i64 base, .int .i64 loc, .int .i64 n, .int .i64 wr, .int .i64 (-1), .int .i64 top]] w fun e w' => e = .returned (.bool (decide (base ≤ 32768) && decide (loc ≤ 32768) && decide (base + C ≤ 32768) && decide (loc + D ≤ 32768))) ∧ Ext w w' := by
  have d3 : decide (n < 1) = false := by simpa using hn.1
  have d4 : decide (8 < n) = false := by simpa using hn.2
  have d5 : decide (top < 1) = false := by simpa using ht.1
  have d6 : decide (255 < top) = false := by rw [decide_eq_false_iff_not]; omega
  have d7 : decide (wr < -1) = false := by rw [decide_eq_false_iff_not]; omega
  have d8 : decide (n ≤ wr) = false := by rw [decide_eq_false_iff_not]; omega
  have d9 : decide (n ≤ -1) = false := by rw [decide_eq_false_iff_not]; omega
  have hX := Ext.refl w
  have b1 := Blk.new w (.cells #[.int .i64 7, .int .i64 base, .int .i64 loc, .int .i64 n, .int .i64 wr, .int .i64 (-1), .int .i64 top] 41)
  replace hX := hX.alloc (.cells #[.int .i64 7, .int .i64 base, .int .i64 loc, .int .i64 n, .int .i64 wr, .int .i64 (-1), .int .i64 top] 41)
  have c_b1 := b1.cells
  have hW1 := fun w => within_p base C w ⟨hb, by omega⟩
  have hW2 := fun w => within_p loc D w ⟨hl, by omega⟩
  have he : (decide (base ≤ 32768) && decide (loc ≤ 32768) && decide (base + C ≤ 32768) && decide (loc + D ≤ 32768)) = ((decide (base ≤ 32768) && decide (base + C ≤ 32768)) && (decide (loc ≤ 32768) && decide (loc + D ≤ 32768))) := by
    cases decide (base ≤ 32768) <;> cases decide (loc ≤ 32768) <;> simp
  rw [he]
  clear he
  generalize (decide (base ≤ 32768) && decide (base + C ≤ 32768)) = F1 at *
  generalize (decide (loc ≤ 32768) && decide (loc + D ≤ 32768)) = F2 at *
  clear hz hb hl hn hw ht
  go_enter Try.func124, Try.ntmps124
  go_wp2_with fail
  generalize w.alloc (.cells #[.int .i64 7, .int .i64 base, .int .i64 loc, .int .i64 n, .int .i64 wr, .int .i64 (-1), .int .i64 top] 41) = W0 at *
  have hE := hX.drew
  replace b1 := b1.drew
  clear hX c_b1
  have hX := hE
  have c_b1 := b1.cells
  go_region_held2 (fun w' => ∀ i, w'.cell? ⟨w.heap.size, i, none⟩ = (#[.int .i64 7, .int .i64 base, .int .i64 loc, .int .i64 n, .int .i64 wr, .int .i64 (-1), .int .i64 top] : Array Value)[i]?) (exact c_b1)
    (first
      | (go_at_call 129
         refine (greatest7_p _).mono ?_
         rintro e w' ⟨rfl, rfl⟩))
  rename_i hh
  clear hh hE
  generalize W0.drew = W at *
  go_wp2_with fail
  have hS : ∀ w', Ext W w' → (∀ i, w'.cell? ⟨w.heap.size, i, none⟩ = (#[.int .i64 7, .int .i64 base, .int .i64 loc, .int .i64 n, .int .i64 wr, .int .i64 (-1), .int .i64 top] : Array Value)[i]?) := fun w' hx => (b1.ext hx).cells
  have hXW := hX
  clear hX c_b1
  have hX := (Ext.refl W).drew
  cases F1 with
  | true =>
    go_region_held2 (fun w' => ∀ i, w'.cell? ⟨w.heap.size, i, none⟩ = (#[.int .i64 7, .int .i64 base, .int .i64 loc, .int .i64 n, .int .i64 wr, .int .i64 (-1), .int .i64 top] : Array Value)[i]?) (exact hS _ hX)
      (first
          | (go_at_call 47
             refine (hC _).mono ?_
             rintro e w2 ⟨rfl, hx⟩
             replace hX := hX.trans hx
             clear hx)
          | (go_at_call 125
             refine (hL _).mono ?_
             rintro e w2 ⟨rfl, hx⟩
             replace hX := hX.trans hx
             clear hx)
          | (go_at_call_of 130 (Value.int IntKind.i64 base)
             refine (hW1 _).mono ?_
             rintro e w' ⟨rfl, rfl⟩)
          | (go_at_call_of 130 (Value.int IntKind.i64 loc)
             refine (hW2 _).mono ?_
             rintro e w' ⟨rfl, rfl⟩))
    go_wp2_with fail
    go_ret
    exact ⟨rfl, hXW.trans hX⟩
  | false =>
    refine wp_region_held_drew (S := (fun w' => ∀ i, w'.cell? ⟨w.heap.size, i, none⟩ = (#[.int .i64 7, .int .i64 base, .int .i64 loc, .int .i64 n, .int .i64 wr, .int .i64 (-1), .int .i64 top] : Array Value)[i]?)) rfl (hS _ hX) (fun hHeld => ?_)
    refine wpAnyH_take (i := 0) (v := ?_) rfl (by kernel_rfl) (by kernel_rfl) (by kernel_rfl) (fun _ _ _ h => h) (Or.inl ⟨by kernel_rfl, ?_⟩) (by assumption) ?_
    rotate_left
    · (intro w hSw; (try dsimp only at hSw); go_simp; try with_reducible rfl)
    try simp only [put_pack]
    refine wpAnyH_take (i := 1) (v := ?_) rfl (by kernel_rfl) (by kernel_rfl) (by kernel_rfl) (fun _ _ _ h => h) (Or.inl ⟨by kernel_rfl, ?_⟩) (by assumption) ?_
    rotate_left
    · (intro w hSw; (try dsimp only at hSw); go_simp; try with_reducible rfl)
    try simp only [put_pack]
    refine wpAnyH_take (i := 2) (v := ?_) rfl (by kernel_rfl) (by kernel_rfl) (by kernel_rfl) (fun _ _ _ h => h) (Or.inl ⟨by kernel_rfl, ?_⟩) (by assumption) ?_
    rotate_left
    · (intro w hSw; (try dsimp only at hSw); go_simp; try with_reducible rfl)
    try simp only [put_pack]
    refine wpAnyH_ready (rs := [3]) (by kernel_rfl) (by simp) ?_
    refine AllReadyH.cons rfl (fun K hKK => ?_) AllReadyH.nil
    go_simp
    refine (hC _).mono ?_
    rintro e w2 ⟨rfl, hx⟩
    replace hX := hX.trans hx
    clear hx
    refine hKK.out _ _ (hS _ hX) (fun hHeld => ?_)
    clear hKK K
    try dsimp only
    refine wpAnyH_ready (rs := [4]) (by kernel_rfl) (by simp) ?_
    refine AllReadyH.cons rfl (fun K hKK => ?_) AllReadyH.nil
    go_simp
    refine (hW1 _).mono ?_
    rintro e w' ⟨rfl, rfl⟩
    refine hKK.out _ _ (hS _ hX) (fun hHeld => ?_)
    clear hKK K
    try dsimp only
    refine wpAnyH_take (i := 5) (v := ?_) rfl (by kernel_rfl) (by kernel_rfl) (by kernel_rfl) (fun _ _ _ h => h) (Or.inl ⟨by kernel_rfl, ?_⟩) (by assumption) ?_
    rotate_left
    · (intro w hSw; (try dsimp only at hSw); go_simp; try with_reducible rfl)
    try simp only [put_pack]
    refine wpAnyH_take (i := 6) (v := undef) rfl (by kernel_rfl) (by kernel_rfl) (by kernel_rfl) (fun _ _ _ h => h) (Or.inr ⟨by kernel_rfl, rfl⟩) (by assumption) ?_
    try simp only [put_pack]
    refine wpAnyH_take (i := 7) (v := undef) rfl (by kernel_rfl) (by kernel_rfl) (by kernel_rfl) (fun _ _ _ h => h) (Or.inr ⟨by kernel_rfl, rfl⟩) (by assumption) ?_
    try simp only [put_pack]
    refine wpAnyH_take (i := 8) (v := undef) rfl (by kernel_rfl) (by kernel_rfl) (by kernel_rfl) (fun _ _ _ h => h) (Or.inr ⟨by kernel_rfl, rfl⟩) (by assumption) ?_
    try simp only [put_pack]
    refine wpAnyH_take (i := 9) (v := undef) rfl (by kernel_rfl) (by kernel_rfl) (by kernel_rfl) (fun _ _ _ h => h) (Or.inr ⟨by kernel_rfl, rfl⟩) (by assumption) ?_
    try simp only [put_pack]
    refine wpAnyH_take (i := 10) (v := undef) rfl (by kernel_rfl) (by kernel_rfl) (by kernel_rfl) (fun _ _ _ h => h) (Or.inr ⟨by kernel_rfl, rfl⟩) (by assumption) ?_
    try simp only [put_pack]
    refine wpAnyH_take (i := 11) (v := ?_) rfl (by kernel_rfl) (by kernel_rfl) (by kernel_rfl) (fun _ _ _ h => h) (Or.inl ⟨by kernel_rfl, ?_⟩) (by assumption) ?_
    rotate_left
    · (intro w hSw; (try dsimp only at hSw); go_simp; try with_reducible rfl)
    try simp only [put_pack]
    refine wpAnyH_take (i := 12) (v := ?_) rfl (by kernel_rfl) (by kernel_rfl) (by kernel_rfl) (fun _ _ _ h => h) (Or.inl ⟨by kernel_rfl, ?_⟩) (by assumption) ?_
    rotate_left
    · (intro w hSw; (try dsimp only at hSw); go_simp; try with_reducible rfl)
    try simp only [put_pack]
    refine wpAnyH_done (by kernel_rfl) ?_ _
    go_simp
    go_wp2_with fail
    go_ret
    refine ⟨?_, hXW.trans hX⟩
    rfl
theorem fine_p (r : Reg) (w : World) (h : Drawn r) (hC : ∀ w, Calls Try.prog 47 #[encR r] w fun e w' => e = .returned (.int .i64 (cellsM r)) ∧ Ext w w') : Calls Try.prog 124 #[encR r] w fun e w' => e = .returned (.bool (fineM r)) ∧ Ext w w' := by
  obtain ⟨hk, hb, hl, hn, hw, hw6, hrd, ht⟩ := h
  have hL := fun w => locals_p r w hk hn
  have hz := cells_nat r hn
  obtain ⟨kind, base, loc, n, wr, rd, top⟩ := r
  simp only at hk hb hl hn hw hw6 hrd ht
  subst hrd
  unfold fineM
  rcases hk with rfl | rfl | rfl
  · exact pfine1_p base loc n wr top _ _ w hb hl hn hw ht hz hC hL
  · exact pfine6_p base loc n wr top _ _ w hb hl hn ⟨hw6 rfl, hw.2⟩ ht hz hC hL
  · exact pfine7_p base loc n wr top _ _ w hb hl hn hw ht hz hC hL
end Go.Proofs.Ytpcohbpeglledaa
/-
  Plans of the program: laying registers.
-/
namespace Go.Proofs.Ytpcohbpeglledaa
open Go.RowKit Kv
@[go_sem] theorem build_regw (a b c d e : Int) (w : World) : (Instr.build 41 #[(0, .int .i64 a), (3, .int .i64 b), (4, .int .i64 c), (5, .int .i64 d), (6, .int .i64 e)]).run Try.prog w = .ok (.agg #[.int .i64 a, .int .i64 0, .int .i64 0, .int .i64 b, .int .i64 c, .int .i64 d, .int .i64 e]) w := run_build w 41 _ _ (by kernel_rfl)
theorem topM_max (t : Int) : max 1 (min t 255) = topM t := by
  unfold topM clamp within
  split <;> omega
theorem want_p (q : Want) (n mode : Int) (w : World) (hm : mode = 1 ∨ mode = 2) (hq : -1 ≤ q.wr) : Calls Try.prog 123 #[.agg #[.int .i64 q.wr, .int .i64 q.top], .int .i64 n, .int .i64 mode] w fun e w' => e = .returned (encR (regOf n mode 0 0 q)) ∧ Ext w w' := by
  obtain ⟨wr, top⟩ := q
  unfold encR regOf
  simp only at hq ⊢
  have ht := topM_max top
  rcases hm with rfl | rfl
  · rw [show kindM 1 wr = 1 from by unfold kindM; rw [if_neg (by omega)]]
    clear hq
    go_enter Try.func123, Try.ntmps123
    go_wp2_with fail
    refine bodyPost_ret (v := .agg #[.int .i64 1, .int .i64 0, .int .i64 0, .int .i64 n, .int .i64 wr, .int .i64 (-1), .int .i64 (topM top)]) (by simp [results, Try.results123, go_sem]) rfl ⟨rfl, ?_⟩
    exact (((Ext.refl _).alloc _).alloc _).alloc _
  · by_cases h : wr = -1
    · rw [show kindM 2 wr = 7 from by unfold kindM; rw [if_pos rfl, if_neg (by omega)]]
      have d : (wr == -1) = true := by rw [beq_iff_eq]; exact h
      clear hq h
      go_enter Try.func123, Try.ntmps123
      go_wp2_with fail
      refine bodyPost_ret (v := .agg #[.int .i64 7, .int .i64 0, .int .i64 0, .int .i64 n, .int .i64 wr, .int .i64 (-1), .int .i64 (topM top)]) (by simp [results, Try.results123, go_sem]) rfl ⟨rfl, ?_⟩
      exact (((Ext.refl _).alloc _).alloc _).alloc _
    · rw [show kindM 2 wr = 6 from by unfold kindM; rw [if_pos rfl, if_pos (by omega)]]
      have d : (wr == -1) = false := by rw [beq_eq_false_iff_ne]; exact h
      clear hq h
      go_enter Try.func123, Try.ntmps123
      go_wp2_with fail
      refine bodyPost_ret (v := .agg #[.int .i64 6, .int .i64 0, .int .i64 0, .int .i64 n, .int .i64 wr, .int .i64 (-1), .int .i64 (topM top)]) (by simp [results, Try.results123, go_sem]) rfl ⟨rfl, ?_⟩
      exact (((Ext.refl _).alloc _).alloc _).alloc _
set_option maxRecDepth 100000 in
set_option maxHeartbeats 2000000 in
theorem lay_p (va : Value) (l : List Want) (n mode base loc : Int) (w : World) (h : WantsAt w va l) (hlen : l.length ≤ 1000) (hC : ∀ (r : Reg) w, Drawn r → r.n = n → Calls Try.prog 47 #[encR r] w fun e w' => e = .returned (.int .i64 (cellsM r)) ∧ Ext w w') :
    Calls Try.prog 90 #[va, .int .i64 n, .int .i64 mode, .int .i64 base, .int .i64 loc] w (LayPost w.heap.size w (layM l n mode base loc)) := by
  obtain ⟨A, c, rfl, q1, q2, hv⟩ := h
  by_cases h0 : 1 ≤ mode ∧ mode ≤ 2 ∧ 1 ≤ n ∧ n ≤ 8 ∧ 0 ≤ base ∧ 0 ≤ loc
  · have hmd : mode = 1 ∨ mode = 2 := by omega
    rcases hmd with rfl | rfl
    · have hgood := Lib.hid (fun hq => argsM_good (l := l) h0 hq)
      have hbad := Lib.hid (fun (i : Nat) q hq hx => argsM_bad (l := l) (n := n) (mode := 1) (b := base) (c := loc) (i := i) (q := q) hq hx)
      obtain ⟨-, -, n1, n2, b1, l1⟩ := h0
      have d3 : decide (n < 1) = false := by rw [decide_eq_false_iff_not]; omega
      have d4 : decide (8 < n) = false := by rw [decide_eq_false_iff_not]; omega
      have d5 : decide (base < 0) = false := by rw [decide_eq_false_iff_not]; omega
      have d6 : decide (loc < 0) = false := by rw [decide_eq_false_iff_not]; omega
      go_enter Try.func90, Try.ntmps90
      go_wp2_with fail
      go_loopw [40] (fun i wr => ∃ j : Nat, i = .int .i64 j ∧ j ≤ l.length ∧ Hid (∀ (k : Nat) q, k < j → l[k]? = some q → -1 ≤ q.wr ∧ q.wr < n) ∧ Ext w wr) (fun i _ => l.length - (intOf i).toNat)
      case atStart => exact ⟨0, rfl, by omega, fun k q hk => by omega, Ext.refl _⟩
      case round =>
        obtain ⟨j, rfl, hj, hs, hE⟩ := hrel
        by_cases hl : j < l.length
        · obtain ⟨q, hq⟩ : ∃ q, l[j]? = some q := ⟨_, List.getElem?_eq_getElem hl⟩
          obtain ⟨b, rfl, hb, e1, e2⟩ := want_at (hv.ext hE) hq
          have hE2 := hE.alloc (.cells #[.int .i64 q.wr, .int .i64 q.top] 59)
          by_cases f1 : q.wr < -1
          · have d7 : decide (q.wr < -1) = true := by simpa using f1
            have hf := Lib.hid (hbad.out j q hq (by omega))
            clear hq hgood hbad hs
            go_wp2_with fail
            rw [hf.out]
            refine bodyPost_ret (v := .tuple #[.slice none 0 0, .int .i64 1]) (by simp [results, Try.results90, go_sem]) rfl ?_
            exact ⟨hE2, 1, by decide, rfl⟩
          · have d7 : decide (q.wr < -1) = false := by rw [decide_eq_false_iff_not]; omega
            by_cases f2 : n ≤ q.wr
            · have d8 : decide (n ≤ q.wr) = true := by simpa using f2
              have hf := Lib.hid (hbad.out j q hq (by omega))
              clear hq hgood hbad hs
              go_wp2_with fail
              rw [hf.out]
              refine bodyPost_ret (v := .tuple #[.slice none 0 0, .int .i64 1]) (by simp [results, Try.results90, go_sem]) rfl ?_
              exact ⟨hE2, 1, by decide, rfl⟩
            · have d8 : decide (n ≤ q.wr) = false := by rw [decide_eq_false_iff_not]; omega
              have hs2 : Hid (∀ (k : Nat) q, k < j + 1 → l[k]? = some q → -1 ≤ q.wr ∧ q.wr < n) := Lib.hid fun k q' hk hq' => by
                by_cases e : k = j
                · subst e
                  rw [hq] at hq'
                  obtain rfl : q = q' := by simpa using hq'
                  omega
                · exact hs.out k q' (by omega) hq'
              have hE3 := Lib.hid hE2
              clear hq hs hgood hbad hE2
              go_wp2_with fail
              refine ⟨⟨j + 1, by go_num, by omega, hs2, hE3.out⟩, ?_⟩
              simp [intOf]; omega
        · have hlay := Lib.hid (hgood.out fun k q hq => hs.out k q (by have := (List.getElem?_eq_some_iff.1 hq).1; omega) hq)
          have hwr := Lib.hid (fun (k : Nat) (q : Want) (hq : l[k]? = some q) => hs.out k q (by have := (List.getElem?_eq_some_iff.1 hq).1; omega) hq)
          clear hgood hbad hs
          go_wp2_with fail
          have hE0 := Lib.hid hE
          clear hE
          go_loopw [3, 4, 14, 56] (fun b' c' v i wr => ∃ (j : Nat) (bi ci : Int) (pre : List Reg), b' = .int .i64 bi ∧ c' = .int .i64 ci ∧ i = .int .i64 j ∧ j ≤ l.length ∧ pre.length = j ∧ 0 ≤ bi ∧ 0 ≤ ci ∧ Hid (layFrom n 1 l base loc = (layFrom n 1 (l.drop j) bi ci).map (pre ++ ·)) ∧ wr.ownsRow w.heap.size 41 7 v j (pre.flatMap regVals) ∧ Ext w wr) (fun _ _ _ i _ => l.length - (intOf i).toNat)
          case atStart => exact ⟨0, base, loc, [], rfl, rfl, rfl, by omega, rfl, b1, l1, by unfold Hid; simp, World.ownsRow_nil _ _ _ _, hE0.out⟩
          case round =>
            clear hE0
            obtain ⟨j, bi, ci, pre, rfl, rfl, rfl, hj, hpl, hbi, hci, hM, hown, hE⟩ := hrel
            by_cases hl : j < l.length
            · obtain ⟨q, hq⟩ : ∃ q, l[j]? = some q := ⟨_, List.getElem?_eq_getElem hl⟩
              obtain ⟨b, rfl, hb, e1, e2⟩ := want_at (hv.ext hE) hq
              obtain ⟨w1, w2⟩ := hwr.out j q hq
              have hdr : l.drop j = q :: l.drop (j + 1) := by
                rw [List.drop_eq_getElem_cons hl]
                congr 1
                rw [List.getElem?_eq_getElem hl] at hq
                simpa using hq
              have hMh := Lib.hid hM
              have hownh := Lib.hid hown
              clear hM hown hq
              have hrk : regOf n 1 bi ci q = ⟨kindM 1 q.wr, bi, ci, n, q.wr, -1, topM q.top⟩ := rfl
              have hWW := fun W => want_p q n 1 W (by omega) w1
              have hK : kindM 1 q.wr = 1 ∨ kindM 1 q.wr = 6 ∨ kindM 1 q.wr = 7 := by unfold kindM; split <;> (try split) <;> simp
              have hK6 : kindM 1 q.wr = 6 → 0 ≤ q.wr := by unfold kindM; split <;> (try split) <;> omega
              have htm := topM_bd q.top
              have hdn : Drawn ⟨kindM 1 q.wr, bi, ci, n, q.wr, -1, topM q.top⟩ := ⟨hK, hbi, hci, ⟨n1, n2⟩, ⟨w1, w2⟩, hK6, rfl, htm⟩
              have hlf := Lib.hid (show layFrom n 1 (l.drop j) bi ci = if fineM ⟨kindM 1 q.wr, bi, ci, n, q.wr, -1, topM q.top⟩ then (layFrom n 1 (l.drop (j + 1)) (bi + cellsM ⟨kindM 1 q.wr, bi, ci, n, q.wr, -1, topM q.top⟩) (ci + localsM ⟨kindM 1 q.wr, bi, ci, n, q.wr, -1, topM q.top⟩)).map (⟨kindM 1 q.wr, bi, ci, n, q.wr, -1, topM q.top⟩ :: ·) else none from by rw [hdr, layFrom_cons, hrk])
              have hCC := fun W => hC ⟨kindM 1 q.wr, bi, ci, n, q.wr, -1, topM q.top⟩ W hdn rfl
              have hFF := fun W => fine_p ⟨kindM 1 q.wr, bi, ci, n, q.wr, -1, topM q.top⟩ W hdn hCC
              have hLL := fun W => locals_p ⟨kindM 1 q.wr, bi, ci, n, q.wr, -1, topM q.top⟩ W hK ⟨n1, n2⟩
              have hcn := cells_nat ⟨kindM 1 q.wr, bi, ci, n, q.wr, -1, topM q.top⟩ ⟨n1, n2⟩
              have hfb : fineM ⟨kindM 1 q.wr, bi, ci, n, q.wr, -1, topM q.top⟩ = true → bi ≤ 32768 ∧ ci ≤ 32768 := by
                unfold fineM
                simp only [Bool.and_eq_true, decide_eq_true_eq]
                omega
              clear hdn hrk htm hdr hK hK6
              unfold encR regOf at hWW
              unfold encR at hFF hCC hLL
              simp only at hWW hFF hCC hLL
              generalize kindM 1 q.wr = kk at *
              generalize topM q.top = tp at *
              generalize cellsM _ = C at *
              generalize localsM _ = D at *
              generalize hfm : fineM _ = F at *
              clear hfm
              go_wp2_with fail
              refine (hWW _).mono ?_
              rintro e w3 ⟨rfl, hx⟩
              clear hWW
              have g3 := Blk.new w3 (.cells #[.int .i64 kk, .int .i64 bi, .int .i64 ci, .int .i64 n, .int .i64 q.wr, .int .i64 (-1), .int .i64 tp] 41)
              have x3 : Ext wr (w3.alloc (.cells #[.int .i64 kk, .int .i64 bi, .int .i64 ci, .int .i64 n, .int .i64 q.wr, .int .i64 (-1), .int .i64 tp] 41)) := (((Ext.refl wr).alloc _).trans hx).alloc _
              have hz3 : wr.heap.size < w3.heap.size := by have := hx.size; simp at this; omega
              clear hx
              go_wp2_with fail
              generalize w3.alloc _ = W at *
              have c_3 := g3.cells
              refine (hFF _).mono ?_
              rintro e w4 ⟨rfl, hx⟩
              clear hFF c_3
              replace g3 := g3.ext hx
              replace x3 := x3.trans hx
              clear hx
              have c_3 := g3.cells
              cases F with
              | false =>
                have hres := Lib.hid (show layM l n 1 base loc = none from by rw [hlay.out, hMh.out, hlf.out]; rfl)
                go_wp2_with fail
                rw [hres.out]
                exact bodyPost_ret (v := .tuple #[.slice none 0 0, .int .i64 6]) (by simp [results, Try.results90, go_sem]) rfl ⟨hE.trans x3, 6, by decide, rfl⟩
              | true =>
                obtain ⟨hb1, hb2⟩ := hfb rfl
                have s1 := IntWalk.i64_in (bi + C) (by omega)
                have s2 := IntWalk.i64_in (ci + D) (by omega)
                have hown3 := row_ext hownh.out x3
                have hRn : Hid (u14.ownBlock ≠ some w3.heap.size) := Lib.hid fun e => by have := (hownh.out.lt _ e).2; omega
                have hE3 := hE.trans x3
                have hM2 := Lib.hid (show layFrom n 1 l base loc = (layFrom n 1 (l.drop (j + 1)) (bi + C) (ci + D)).map ((pre ++ [⟨kk, bi, ci, n, q.wr, -1, tp⟩]) ++ ·) from by
                  rw [hMh.out, hlf.out]
                  simp only [if_true, Option.map_map]
                  congr 1
                  funext x
                  simp)
                clear hfb hlf hMh hownh hb1 hb2
                go_wp2_with (at_builtin; refine append_rec info_reg Try.underlying25 rfl (by decide) (by decide) rfl _ _ rfl _ j (pre.flatMap regVals) [.int .i64 kk, .int .i64 bi, .int .i64 ci, .int .i64 n, .int .i64 q.wr, .int .i64 (-1), .int .i64 tp] hE3 hown3 rfl rfl rfl (by simp [Value.oneCell']) (by omega) ?_)
                intro v' w5 ho4 hx4 hbk
                have g4 : Blk w5 w3.heap.size _ := (hbk _ g3.lt hRn.out).trans g3
                have c_4 := g4.cells
                clear hbk hown3 hE3 c_3 hRn g3 x3
                go_wp2_with fail
                refine (hCC _).mono ?_
                rintro e w6 ⟨rfl, hx⟩
                replace g4 := g4.ext hx
                replace ho4 := row_ext ho4 hx
                replace hx4 := hx4.trans hx
                clear c_4 hx hCC
                have c_4 := g4.cells
                go_wp2_with fail
                refine (hLL _).mono ?_
                rintro e w7 ⟨rfl, hx⟩
                replace ho4 := row_ext ho4 hx
                replace hx4 := hx4.trans hx
                clear c_4 g4 hx hLL
                have ho5 := Lib.hid ho4
                clear ho4
                go_wp2_with fail
                refine ⟨⟨j + 1, bi + C, ci + D, pre ++ [⟨kk, bi, ci, n, q.wr, -1, tp⟩], rfl, rfl, by go_num, by omega, by simp [hpl], by omega, by omega, hM2, by rw [List.flatMap_append]; exact ho5.out, hx4⟩, ?_⟩
                simp [intOf]; omega
            · have hf : layFrom n 1 l base loc = some pre := by
                rw [hM.out, List.drop_eq_nil_of_le (by omega)]
                simp [layFrom]
              have hres := Lib.hid (hlay.out.trans hf)
              clear hM hf hlay hwr
              have hownh := Lib.hid hown
              clear hown
              go_wp2_with fail
              rw [hres.out]
              refine bodyPost_ret (v := .tuple #[u14, .int .i64 0]) (by simp [results, Try.results90, go_sem]) rfl ?_
              exact ⟨hE, u14, rfl, by rw [hpl]; exact hownh.out⟩
    · have hgood := Lib.hid (fun hq => argsM_good (l := l) h0 hq)
      have hbad := Lib.hid (fun (i : Nat) q hq hx => argsM_bad (l := l) (n := n) (mode := 2) (b := base) (c := loc) (i := i) (q := q) hq hx)
      obtain ⟨-, -, n1, n2, b1, l1⟩ := h0
      have d3 : decide (n < 1) = false := by rw [decide_eq_false_iff_not]; omega
      have d4 : decide (8 < n) = false := by rw [decide_eq_false_iff_not]; omega
      have d5 : decide (base < 0) = false := by rw [decide_eq_false_iff_not]; omega
      have d6 : decide (loc < 0) = false := by rw [decide_eq_false_iff_not]; omega
      go_enter Try.func90, Try.ntmps90
      go_wp2_with fail
      go_loopw [40] (fun i wr => ∃ j : Nat, i = .int .i64 j ∧ j ≤ l.length ∧ Hid (∀ (k : Nat) q, k < j → l[k]? = some q → -1 ≤ q.wr ∧ q.wr < n) ∧ Ext w wr) (fun i _ => l.length - (intOf i).toNat)
      case atStart => exact ⟨0, rfl, by omega, fun k q hk => by omega, Ext.refl _⟩
      case round =>
        obtain ⟨j, rfl, hj, hs, hE⟩ := hrel
        by_cases hl : j < l.length
        · obtain ⟨q, hq⟩ : ∃ q, l[j]? = some q := ⟨_, List.getElem?_eq_getElem hl⟩
          obtain ⟨b, rfl, hb, e1, e2⟩ := want_at (hv.ext hE) hq
          have hE2 := hE.alloc (.cells #[.int .i64 q.wr, .int .i64 q.top] 59)
          by_cases f1 : q.wr < -1
          · have d7 : decide (q.wr < -1) = true := by simpa using f1
            have hf := Lib.hid (hbad.out j q hq (by omega))
            clear hq hgood hbad hs
            go_wp2_with fail
            rw [hf.out]
            refine bodyPost_ret (v := .tuple #[.slice none 0 0, .int .i64 1]) (by simp [results, Try.results90, go_sem]) rfl ?_
            exact ⟨hE2, 1, by decide, rfl⟩
          · have d7 : decide (q.wr < -1) = false := by rw [decide_eq_false_iff_not]; omega
            by_cases f2 : n ≤ q.wr
            · have d8 : decide (n ≤ q.wr) = true := by simpa using f2
              have hf := Lib.hid (hbad.out j q hq (by omega))
              clear hq hgood hbad hs
              go_wp2_with fail
              rw [hf.out]
              refine bodyPost_ret (v := .tuple #[.slice none 0 0, .int .i64 1]) (by simp [results, Try.results90, go_sem]) rfl ?_
              exact ⟨hE2, 1, by decide, rfl⟩
            · have d8 : decide (n ≤ q.wr) = false := by rw [decide_eq_false_iff_not]; omega
              have hs2 : Hid (∀ (k : Nat) q, k < j + 1 → l[k]? = some q → -1 ≤ q.wr ∧ q.wr < n) := Lib.hid fun k q' hk hq' => by
                by_cases e : k = j
                · subst e
                  rw [hq] at hq'
                  obtain rfl : q = q' := by simpa using hq'
                  omega
                · exact hs.out k q' (by omega) hq'
              have hE3 := Lib.hid hE2
              clear hq hs hgood hbad hE2
              go_wp2_with fail
              refine ⟨⟨j + 1, by go_num, by omega, hs2, hE3.out⟩, ?_⟩
              simp [intOf]; omega
        · have hlay := Lib.hid (hgood.out fun k q hq => hs.out k q (by have := (List.getElem?_eq_some_iff.1 hq).1; omega) hq)
          have hwr := Lib.hid (fun (k : Nat) (q : Want) (hq : l[k]? = some q) => hs.out k q (by have := (List.getElem?_eq_some_iff.1 hq).1; omega) hq)
          clear hgood hbad hs
          go_wp2_with fail
          have hE0 := Lib.hid hE
          clear hE
          go_loopw [3, 4, 14, 56] (fun b' c' v i wr => ∃ (j : Nat) (bi ci : Int) (pre : List Reg), b' = .int .i64 bi ∧ c' = .int .i64 ci ∧ i = .int .i64 j ∧ j ≤ l.length ∧ pre.length = j ∧ 0 ≤ bi ∧ 0 ≤ ci ∧ Hid (layFrom n 2 l base loc = (layFrom n 2 (l.drop j) bi ci).map (pre ++ ·)) ∧ wr.ownsRow w.heap.size 41 7 v j (pre.flatMap regVals) ∧ Ext w wr) (fun _ _ _ i _ => l.length - (intOf i).toNat)
          case atStart => exact ⟨0, base, loc, [], rfl, rfl, rfl, by omega, rfl, b1, l1, by unfold Hid; simp, World.ownsRow_nil _ _ _ _, hE0.out⟩
          case round =>
            clear hE0
            obtain ⟨j, bi, ci, pre, rfl, rfl, rfl, hj, hpl, hbi, hci, hM, hown, hE⟩ := hrel
            by_cases hl : j < l.length
            · obtain ⟨q, hq⟩ : ∃ q, l[j]? = some q := ⟨_, List.getElem?_eq_getElem hl⟩
              obtain ⟨b, rfl, hb, e1, e2⟩ := want_at (hv.ext hE) hq
              obtain ⟨w1, w2⟩ := hwr.out j q hq
              have hdr : l.drop j = q :: l.drop (j + 1) := by
                rw [List.drop_eq_getElem_cons hl]
                congr 1
                rw [List.getElem?_eq_getElem hl] at hq
                simpa using hq
              have hMh := Lib.hid hM
              have hownh := Lib.hid hown
              clear hM hown hq
              have hrk : regOf n 2 bi ci q = ⟨kindM 2 q.wr, bi, ci, n, q.wr, -1, topM q.top⟩ := rfl
              have hWW := fun W => want_p q n 2 W (by omega) w1
              have hK : kindM 2 q.wr = 1 ∨ kindM 2 q.wr = 6 ∨ kindM 2 q.wr = 7 := by unfold kindM; split <;> (try split) <;> simp
              have hK6 : kindM 2 q.wr = 6 → 0 ≤ q.wr := by unfold kindM; split <;> (try split) <;> omega
              have htm := topM_bd q.top
              have hdn : Drawn ⟨kindM 2 q.wr, bi, ci, n, q.wr, -1, topM q.top⟩ := ⟨hK, hbi, hci, ⟨n1, n2⟩, ⟨w1, w2⟩, hK6, rfl, htm⟩
              have hlf := Lib.hid (show layFrom n 2 (l.drop j) bi ci = if fineM ⟨kindM 2 q.wr, bi, ci, n, q.wr, -1, topM q.top⟩ then (layFrom n 2 (l.drop (j + 1)) (bi + cellsM ⟨kindM 2 q.wr, bi, ci, n, q.wr, -1, topM q.top⟩) (ci + localsM ⟨kindM 2 q.wr, bi, ci, n, q.wr, -1, topM q.top⟩)).map (⟨kindM 2 q.wr, bi, ci, n, q.wr, -1, topM q.top⟩ :: ·) else none from by rw [hdr, layFrom_cons, hrk])
              have hCC := fun W => hC ⟨kindM 2 q.wr, bi, ci, n, q.wr, -1, topM q.top⟩ W hdn rfl
              have hFF := fun W => fine_p ⟨kindM 2 q.wr, bi, ci, n, q.wr, -1, topM q.top⟩ W hdn hCC
              have hLL := fun W => locals_p ⟨kindM 2 q.wr, bi, ci, n, q.wr, -1, topM q.top⟩ W hK ⟨n1, n2⟩
              have hcn := cells_nat ⟨kindM 2 q.wr, bi, ci, n, q.wr, -1, topM q.top⟩ ⟨n1, n2⟩
              have hfb : fineM ⟨kindM 2 q.wr, bi, ci, n, q.wr, -1, topM q.top⟩ = true → bi ≤ 32768 ∧ ci ≤ 32768 := by
                unfold fineM
                simp only [Bool.and_eq_true, decide_eq_true_eq]
                omega
              clear hdn hrk htm hdr hK hK6
              unfold encR regOf at hWW
              unfold encR at hFF hCC hLL
              simp only at hWW hFF hCC hLL
              generalize kindM 2 q.wr = kk at *
              generalize topM q.top = tp at *
              generalize cellsM _ = C at *
              generalize localsM _ = D at *
              generalize hfm : fineM _ = F at *
              clear hfm
              go_wp2_with fail
              refine (hWW _).mono ?_
              rintro e w3 ⟨rfl, hx⟩
              clear hWW
              have g3 := Blk.new w3 (.cells #[.int .i64 kk, .int .i64 bi, .int .i64 ci, .int .i64 n, .int .i64 q.wr, .int .i64 (-1), .int .i64 tp] 41)
              have x3 : Ext wr (w3.alloc (.cells #[.int .i64 kk, .int .i64 bi, .int .i64 ci, .int .i64 n, .int .i64 q.wr, .int .i64 (-1), .int .i64 tp] 41)) := (((Ext.refl wr).alloc _).trans hx).alloc _
              have hz3 : wr.heap.size < w3.heap.size := by have := hx.size; simp at this; omega
              clear hx
              go_wp2_with fail
              generalize w3.alloc _ = W at *
              have c_3 := g3.cells
              refine (hFF _).mono ?_
              rintro e w4 ⟨rfl, hx⟩
              clear hFF c_3
              replace g3 := g3.ext hx
              replace x3 := x3.trans hx
              clear hx
              have c_3 := g3.cells
              cases F with
              | false =>
                have hres := Lib.hid (show layM l n 2 base loc = none from by rw [hlay.out, hMh.out, hlf.out]; rfl)
                go_wp2_with fail
                rw [hres.out]
                exact bodyPost_ret (v := .tuple #[.slice none 0 0, .int .i64 6]) (by simp [results, Try.results90, go_sem]) rfl ⟨hE.trans x3, 6, by decide, rfl⟩
              | true =>
                obtain ⟨hb1, hb2⟩ := hfb rfl
                have s1 := IntWalk.i64_in (bi + C) (by omega)
                have s2 := IntWalk.i64_in (ci + D) (by omega)
                have hown3 := row_ext hownh.out x3
                have hRn : Hid (u14.ownBlock ≠ some w3.heap.size) := Lib.hid fun e => by have := (hownh.out.lt _ e).2; omega
                have hE3 := hE.trans x3
                have hM2 := Lib.hid (show layFrom n 2 l base loc = (layFrom n 2 (l.drop (j + 1)) (bi + C) (ci + D)).map ((pre ++ [⟨kk, bi, ci, n, q.wr, -1, tp⟩]) ++ ·) from by
                  rw [hMh.out, hlf.out]
                  simp only [if_true, Option.map_map]
                  congr 1
                  funext x
                  simp)
                clear hfb hlf hMh hownh hb1 hb2
                go_wp2_with (at_builtin; refine append_rec info_reg Try.underlying25 rfl (by decide) (by decide) rfl _ _ rfl _ j (pre.flatMap regVals) [.int .i64 kk, .int .i64 bi, .int .i64 ci, .int .i64 n, .int .i64 q.wr, .int .i64 (-1), .int .i64 tp] hE3 hown3 rfl rfl rfl (by simp [Value.oneCell']) (by omega) ?_)
                intro v' w5 ho4 hx4 hbk
                have g4 : Blk w5 w3.heap.size _ := (hbk _ g3.lt hRn.out).trans g3
                have c_4 := g4.cells
                clear hbk hown3 hE3 c_3 hRn g3 x3
                go_wp2_with fail
                refine (hCC _).mono ?_
                rintro e w6 ⟨rfl, hx⟩
                replace g4 := g4.ext hx
                replace ho4 := row_ext ho4 hx
                replace hx4 := hx4.trans hx
                clear c_4 hx hCC
                have c_4 := g4.cells
                go_wp2_with fail
                refine (hLL _).mono ?_
                rintro e w7 ⟨rfl, hx⟩
                replace ho4 := row_ext ho4 hx
                replace hx4 := hx4.trans hx
                clear c_4 g4 hx hLL
                have ho5 := Lib.hid ho4
                clear ho4
                go_wp2_with fail
                refine ⟨⟨j + 1, bi + C, ci + D, pre ++ [⟨kk, bi, ci, n, q.wr, -1, tp⟩], rfl, rfl, by go_num, by omega, by simp [hpl], by omega, by omega, hM2, by rw [List.flatMap_append]; exact ho5.out, hx4⟩, ?_⟩
                simp [intOf]; omega
            · have hf : layFrom n 2 l base loc = some pre := by
                rw [hM.out, List.drop_eq_nil_of_le (by omega)]
                simp [layFrom]
              have hres := Lib.hid (hlay.out.trans hf)
              clear hM hf hlay hwr
              have hownh := Lib.hid hown
              clear hown
              go_wp2_with fail
              rw [hres.out]
              refine bodyPost_ret (v := .tuple #[u14, .int .i64 0]) (by simp [results, Try.results90, go_sem]) rfl ?_
              exact ⟨hE, u14, rfl, by rw [hpl]; exact hownh.out⟩
  · rw [argsM_false h0]
    go_enter Try.func90, Try.ntmps90
    have hfin : LayPost w.heap.size w none (.returned (.tuple #[.slice none 0 0, .int .i64 1])) w := ⟨Ext.refl _, 1, by decide, rfl⟩
    by_cases m1 : mode = 1 ∨ mode = 2
    · by_cases m3 : n < 1
      · have d3 : decide (n < 1) = true := by simpa using m3
        rcases m1 with rfl | rfl
        all_goals
          go_wp2_with fail
          exact bodyPost_ret (v := .tuple #[.slice none 0 0, .int .i64 1]) (by simp [results, Try.results90, go_sem]) rfl hfin
      · have d3 : decide (n < 1) = false := by simpa using m3
        by_cases m4 : 8 < n
        · have d4 : decide (8 < n) = true := by simpa using m4
          rcases m1 with rfl | rfl
          all_goals
            go_wp2_with fail
            exact bodyPost_ret (v := .tuple #[.slice none 0 0, .int .i64 1]) (by simp [results, Try.results90, go_sem]) rfl hfin
        · have d4 : decide (8 < n) = false := by simpa using m4
          by_cases m5 : base < 0
          · have d5 : decide (base < 0) = true := by simpa using m5
            rcases m1 with rfl | rfl
            all_goals
              go_wp2_with fail
              exact bodyPost_ret (v := .tuple #[.slice none 0 0, .int .i64 1]) (by simp [results, Try.results90, go_sem]) rfl hfin
          · have d5 : decide (base < 0) = false := by simpa using m5
            have d6 : decide (loc < 0) = true := by rw [decide_eq_true_eq]; omega
            rcases m1 with rfl | rfl
            all_goals
              go_wp2_with fail
              exact bodyPost_ret (v := .tuple #[.slice none 0 0, .int .i64 1]) (by simp [results, Try.results90, go_sem]) rfl hfin
    · have d1 : (mode != 1) = true := by rw [bne_iff_ne]; omega
      have d2 : (mode != 2) = true := by rw [bne_iff_ne]; omega
      go_wp2_with fail
      exact bodyPost_ret (v := .tuple #[.slice none 0 0, .int .i64 1]) (by simp [results, Try.results90, go_sem]) rfl hfin
end Go.Proofs.Ytpcohbpeglledaa
/-
  The cells of any register that a plan lays.
-/
namespace Go.Proofs.Ytpcohbpeglledaa
open Go.RowKit Kv
theorem append_none {w : World} {ops : Array Oper} {rest : List Oper} {o : Oper} {a : Act} {Q : Exit → Act → World → Prop} {z : Value} {e t : TypeId} {size bytes : Nat}
    (hinfo : (Try.prog.info? e).map (fun i => (i.zero, i.size, i.bytes)) = some (some z, size, bytes)) (hund : Try.prog.underlying t = some (.slice e)) (hgd : o.guard = none) (s x : Operand)
    (ho : o.op = .call { callee := .builtin .append, args := #[s, x], argTypes := #[t, t] }) (base : Nat) (v : Value) (n : Nat) (xs : List Value) (hown : w.ownsRow base e size v n xs) (hs : a.eval s = v) (hx : a.eval x = .slice none 0 0)
    (h : wpList Try.prog ops Q rest (a.put o.dst v) w) : wpList Try.prog ops Q (o :: rest) a w := by
  obtain ⟨i0, hi, hz0, hz1, hz2⟩ := info_parts hinfo
  exact wpList_append_own_none hgd s x t ho base e i0 size hund hi v n xs hs hown hx h
set_option maxRecDepth 100000 in
theorem mstrips1_p (w : World) : Calls Try.prog 122 #[.int .i64 1] w fun e w' => ∃ A c, e = .returned (.slice A 0 c) ∧ Ext w w' := by
  go_enter Try.func122, Try.ntmps122
  go_wp2_with fail
  refine (mthreads_p 1 _ (by omega) (by omega)).mono ?_
  rintro e w' ⟨rfl, rfl⟩
  go_wp2_with fail
  go_loopw [3, 6] (fun v i wr => ∃ j : Nat, i = .int .i64 j ∧ j ≤ 1 ∧ wr.ownsRow w.heap.size 92 3 v 0 [] ∧ Ext w wr) (fun _ i _ => 1 - (intOf i).toNat)
  case atStart => exact ⟨0, rfl, by omega, World.ownsRow_nil _ _ _ _, Ext.refl _⟩
  case round =>
    obtain ⟨j, rfl, hj, hown, hX⟩ := hrel
    by_cases hl : j < 1
    · obtain rfl : j = 0 := by omega
      go_wp2_with fail
      refine (tstrips_p 1 _ (by omega) (by omega)).mono ?_
      rintro e w2 ⟨v2, rfl, hr2, hx2⟩
      rw [show 2 * ((1 - 1 : Int).toNat * (1 - 1 : Int).toNat) = 0 from rfl, show pairVals ((1 - 1 : Int).toNat * (1 - 1 : Int).toNat) = [] from rfl] at hr2
      replace hown := row_ext hown hx2
      replace hX := hX.trans hx2
      clear hx2
      rcases hr2.2 with ⟨rfl, -⟩ | ⟨g, cap, cur, rfl, q1, q2, q3, q4, -⟩
      · clear hr2
        go_wp2_with (at_builtin; refine append_none info_strip Try.underlying89 rfl _ _ rfl w.heap.size _ 0 [] hown rfl rfl ?_)
        have hoh := Lib.hid hown
        clear hown
        go_wp2_with fail
        refine ⟨⟨1, by go_num, by omega, hoh.out, hX⟩, ?_⟩
        simp [intOf]
      · clear hr2
        go_wp2_with (at_builtin; refine append_recs info_strip Try.underlying89 rfl (by decide) (by decide) rfl _ _ rfl _ 0 [] [] ⟨g, 0, none⟩ 0 cap hX hown rfl rfl rfl (fun i u hu => by simp at hu) (fun u hu => by simp at hu) (by omega) (by omega) ?_)
        intro v' w' ho hx'
        have hoh := Lib.hid ho
        clear hown ho q1 q2 q3 q4
        go_wp2_with fail
        refine ⟨⟨1, by go_num, by omega, hoh.out, hx'⟩, ?_⟩
        simp [intOf]
    · obtain rfl : j = 1 := by omega
      obtain ⟨A, c, rfl, -⟩ := Recs.of_row hown
      clear hown
      go_wp2_with fail
      go_ret
      exact ⟨_, _, rfl, hX⟩
set_option maxRecDepth 100000 in
theorem cells71_p (base loc wr rd top : Int) (w : World) : Calls Try.prog 47 #[.agg #[.int .i64 7, .int .i64 base, .int .i64 loc, .int .i64 1, .int .i64 wr, .int .i64 rd, .int .i64 top]] w fun e w' => e = .returned (.int .i64 0) ∧ Ext w w' := by
  have hS : ∀ w, Calls Try.prog 89 #[.agg #[.int .i64 7, .int .i64 base, .int .i64 loc, .int .i64 1, .int .i64 wr, .int .i64 rd, .int .i64 top]] w fun e w' => ∃ A c, e = .returned (.slice A 0 c) ∧ Ext w w' := by
    intro w
    have hX := Ext.refl w
    have b1 := Blk.new w (.cells #[.int .i64 7, .int .i64 base, .int .i64 loc, .int .i64 1, .int .i64 wr, .int .i64 rd, .int .i64 top] 41)
    replace hX := hX.alloc (.cells #[.int .i64 7, .int .i64 base, .int .i64 loc, .int .i64 1, .int .i64 wr, .int .i64 rd, .int .i64 top] 41)
    have c_b1 := b1.cells
    go_enter Try.func89, Try.ntmps89
    go_wp2_with fail
    refine (mstrips1_p _).mono ?_
    rintro e w2 ⟨A, c, rfl, hx⟩
    have hf := Lib.hid (hX.trans hx)
    clear hx
    go_wp2_with fail
    go_ret
    exact ⟨_, _, rfl, hf.out⟩
  have hX := Ext.refl w
  have b1 := Blk.new w (.cells #[.int .i64 7, .int .i64 base, .int .i64 loc, .int .i64 1, .int .i64 wr, .int .i64 rd, .int .i64 top] 41)
  replace hX := hX.alloc (.cells #[.int .i64 7, .int .i64 base, .int .i64 loc, .int .i64 1, .int .i64 wr, .int .i64 rd, .int .i64 top] 41)
  have c_b1 := b1.cells
  go_enter Try.func47, Try.ntmps47
  go_wp2_with fail
  refine (hS _).mono ?_
  rintro e w2 ⟨A, c, rfl, hx⟩
  have hf := Lib.hid (hX.trans hx)
  clear hx hS c_b1 b1 hX
  go_wp2_with fail
  go_loopw [3, 9] (fun s i wr => i = .int .i64 0 ∧ s = .int .i64 0 ∧ w2 = wr) (fun _ _ _ => 0)
  case atStart => exact ⟨rfl, rfl, rfl⟩
  case round =>
    obtain ⟨rfl, rfl, rfl⟩ := hrel
    go_wp2_with fail
    go_ret
    exact ⟨rfl, hf.out⟩
theorem cells_all (r : Reg) (w : World) (hk : r.kind = 1 ∨ r.kind = 6 ∨ r.kind = 7) (hn : 1 ≤ r.n ∧ r.n ≤ 8) : Calls Try.prog 47 #[encR r] w fun e w' => e = .returned (.int .i64 (cellsM r)) ∧ Ext w w' := by
  by_cases h : r.kind = 7 ∧ r.n = 1
  · obtain ⟨kind, base, loc, n, wr, rd, top⟩ := r
    obtain ⟨rfl, rfl⟩ := h
    exact cells71_p base loc wr rd top w
  · exact cells_p r w (by omega) hn (fun w => mthreads_p r.n w hn.1 hn.2)
/-- A plan laid by the program. -/
theorem plan_p (va : Value) (l : List Want) (n mode base loc : Int) (w : World) (h : WantsAt w va l) (hlen : l.length ≤ 1000) :
    Calls Try.prog 90 #[va, .int .i64 n, .int .i64 mode, .int .i64 base, .int .i64 loc] w (LayPost w.heap.size w (layM l n mode base loc)) :=
  lay_p va l n mode base loc w h hlen fun r w hd _ => cells_all r w hd.kind hd.n
end Go.Proofs.Ytpcohbpeglledaa
/-
  The splitter: passing it, by the program.
-/
namespace Go.Proofs.Ytpcohbpeglledaa
open Go.RowKit Kv
theorem RegsAt.ext {ix : List Nat} {p b : Nat} {w w' : World} {l : List Reg} (h : RegsAt ix w p b l) (hx : Ext w w') (hp : p < w.heap.size) : RegsAt ix w' p b l := h.keep (B := 0) (Keep.of_ext hx hp (Nat.zero_le _))
theorem two_boxes {B p : Nat} {w : World} {S : TS} (h : Plays B w p S) (o1 o2 : Obj) :
    HeldP ((w.alloc o1).alloc o2).drew p w.heap.size o1 ∧ HeldP ((w.alloc o1).alloc o2).drew p (w.heap.size + 1) o2 ∧ Plays B ((w.alloc o1).alloc o2).drew p S ∧ KeepP B p w ((w.alloc o1).alloc o2).drew := by
  have h2 := (h.alloc o1).held o2
  rw [World.size_alloc] at h2
  exact ⟨((h.held o1).alloc o2 (h.alloc o1).lt).drew, h2.drew, ((h.alloc o1).alloc o2).drew, ((Keep.alloc o1 h.lt h.le).trans (Keep.alloc o2 (h.alloc o1).lt (h.alloc o1).le)).drew⟩
end Go.Proofs.Ytpcohbpeglledaa
/-
  The splitter: what any thread does that passes it is the document's, access by access.
-/
namespace Go.Proofs.Ytpcohbpeglledaa
open Go.RowKit Kv
/-- Registers that lay there ahead of a play. -/
theorem regsP {w0 w1 : World} {B p b : Nat} {S : TS} {rs : List Reg} (hb : b < w0.heap.size) (hc : ∀ (i : Nat) u, (rs.flatMap regVals)[i]? = some u → w0.cell? ⟨b, i, none⟩ = some u) (hx : Ext w0 w1) (hP : Plays B w1 p S) (hB : w0.heap.size ≤ B) : RegsAt [2, 3, 4] w1 p b rs := by
  refine ⟨Nat.lt_of_lt_of_le hb hx.size, fun ho => ?_, fun j u hu => (hx.cell (p := ⟨b, j, none⟩) hb).trans (hc j u hu)⟩
  obtain ⟨_, _, _, _, _, _, h⟩ := hP
  have := (h.own ho).1
  omega
theorem ints_new (w : World) (l : List Int) (h : l.length ≤ 9223372036854775807) : Ints (w.alloc (.cells (l.map (Value.int .i64)).toArray 3)) (.slice (some ⟨w.heap.size, 0, none⟩) l.length l.length) l := by
  refine ⟨_, _, rfl, Nat.le_refl _, h, fun _ => ⟨w.heap.size, 0, rfl, by simp, fun i x hi => ?_⟩⟩
  have hh := World.alloc_heap_new w (.cells (l.map (Value.int .i64)).toArray 3)
  simp only [World.cell?, hh, Nat.zero_add]
  simp [hi]
/-- An Out's parts. -/
theorem Outs.parts {w : World} {v : Value} {d : Bool} {S : TS} (h : Outs w v d S) : ∃ A c A' c' As k n, v = .agg #[.bool d, .slice A S.acc.length c, .slice A' S.nts.length c', .slice As n k] := by
  obtain ⟨A, c, A', c', vs, L, rfl, hO⟩ := h
  obtain ⟨As, k, rfl, _, _⟩ := hO.locs.slice
  exact ⟨A, c, A', c', As, k, _, rfl⟩
def ra : Reg := ⟨1, 3, 2, 3, -1, -1, 3⟩
def rb : Reg := ⟨1, 4, 2, 3, -1, -1, 1⟩
end Go.Proofs.Ytpcohbpeglledaa
/-
  Locks' registers, laid by the program and by the document.
-/
namespace Kv
theorem filWants_len (N : Nat) : (filWants N).length = 2 * N - 1 := by simp [filWants]
theorem fastWants_len (N : Nat) : (fastWants N).length = N + 2 := by simp [fastWants]
theorem bwWants_len (N : Nat) : (bwWants N).length = 2 * N + 1 := by simp [bwWants]
end Kv
namespace Go.Proofs.Ytpcohbpeglledaa
open Go.RowKit Kv
theorem layr_some {va : Value} {l : List Want} {n mode base loc : Int} {rs : List Reg} (hl : layM l n mode base loc = some rs) (w : World) (h : WantsAt w va l) (hlen : l.length ≤ 1000) :
    Calls Try.prog 38 #[va, .int .i64 n, .int .i64 mode, .int .i64 base, .int .i64 loc] w fun e w' => ∃ v, e = .returned (.tuple #[v, .int .i64 0]) ∧ (RegsV w' v rs ∧ ∀ k, v.ownBlock = some k → w.heap.size ≤ k) ∧ Ext w w' := by
  have := lay_r va l n mode base loc w h hlen
  rw [hl] at this
  exact this.mono fun e w' ⟨hx, v, he, hr⟩ => ⟨v, he, ⟨Recs.of_row hr, fun k hk => (hr.lt k hk).1⟩, hx⟩
theorem layp_some {va : Value} {l : List Want} {n mode base loc : Int} {rs : List Reg} (hl : layM l n mode base loc = some rs) (w : World) (h : WantsAt w va l) (hlen : l.length ≤ 1000) :
    Calls Try.prog 90 #[va, .int .i64 n, .int .i64 mode, .int .i64 base, .int .i64 loc] w fun e w' => ∃ v, e = .returned (.tuple #[v, .int .i64 0]) ∧ (RegsV w' v rs ∧ ∀ k, v.ownBlock = some k → w.heap.size ≤ k) ∧ Ext w w' := by
  have := plan_p va l n mode base loc w h hlen
  rw [hl] at this
  exact this.mono fun e w' ⟨hx, v, he, hr⟩ => ⟨v, he, ⟨Recs.of_row hr, fun k hk => (hr.lt k hk).1⟩, hx⟩
set_option maxRecDepth 100000 in
theorem fillay_p (alg mode base loc room me : Int) (N : Nat) (rs : List Reg) (w : World) (h1 : 1 ≤ N) (h2 : N ≤ 8) (hl : layM (filWants N) N mode base loc = some rs) (hm0 : 0 ≤ me) (hm1 : me < N) :
    Calls Try.prog 54 #[.agg #[.int .i64 alg, .int .i64 N, .int .i64 mode, .int .i64 base, .int .i64 loc, .int .i64 room], .int .i64 me] w fun e w' => ∃ b c A2 c2, e = .returned (.tuple #[.slice (some ⟨b, 0, none⟩) N c, .slice A2 (N - 1) c2, .int .i64 0]) ∧ (2 ≤ N → A2 = some ⟨b, N * 7, none⟩) ∧ w.heap.size ≤ b ∧ b < w'.heap.size ∧ (∀ (i : Nat) u, (rs.flatMap regVals)[i]? = some u → w'.cell? ⟨b, i, none⟩ = some u) ∧ N ≤ c ∧ c ≤ 9223372036854775807 ∧ Ext w w' := by
  have hlen := layM_len hl
  rw [filWants_len] at hlen
  replace hl := Lib.hid hl
  have hlenh := Lib.hid hlen
  clear hlen
  have d1 : decide (me < 0) = false := by rw [decide_eq_false_iff_not]; omega
  have d2 : decide ((N : Int) ≤ me) = false := by rw [decide_eq_false_iff_not]; omega
  have hX := Ext.refl w
  have b1 := Blk.new w (.cells #[.int .i64 alg, .int .i64 N, .int .i64 mode, .int .i64 base, .int .i64 loc, .int .i64 room] 44)
  replace hX := hX.alloc (.cells #[.int .i64 alg, .int .i64 N, .int .i64 mode, .int .i64 base, .int .i64 loc, .int .i64 room] 44)
  have c_b1 := b1.cells
  go_enter Try.func54, Try.ntmps54
  go_wp2_with fail
  generalize w.alloc _ = W at *
  have hXW := hX
  clear hX c_b1
  have hX := (Ext.refl W).drew
  have hS : ∀ w', Ext W w' → (∀ i, w'.cell? ⟨w.heap.size, i, none⟩ = (#[.int .i64 alg, .int .i64 N, .int .i64 mode, .int .i64 base, .int .i64 loc, .int .i64 room] : Array Value)[i]?) := fun w' hx => (b1.ext hx).cells
  go_region_held2 (fun w' => ∀ i, w'.cell? ⟨w.heap.size, i, none⟩ = (#[.int .i64 alg, .int .i64 N, .int .i64 mode, .int .i64 base, .int .i64 loc, .int .i64 room] : Array Value)[i]?) (exact hS _ hX)
    (first
      | (go_at_call 58
         refine (filwants_p N _ h1 h2).mono ?_
         rintro e w2 ⟨v2, rfl, hw2, hx⟩
         replace hX := hX.trans hx
         have hz2 := hX.size
         clear hx)
      | (go_at_call 90
         refine (layp_some hl.out _ (hw2.ext (Ext.refl _)) (by simp [filWants_len]; omega)).mono ?_
         rintro e w3 ⟨v3, rfl, hr3, hx⟩
         replace hX := hX.trans hx
         clear hx))
  rename_i hh
  clear hh
  obtain ⟨⟨A, c, rfl, q1, q2, hV⟩, hown⟩ := hr3
  obtain ⟨b, rfl, hb, hcells⟩ := hV (by cases rs with | nil => have := hlenh.out; simp only [List.length_nil] at this; omega | cons r l => simp [regVals])
  have hge : w.heap.size ≤ b := Nat.le_trans (Nat.le_trans hXW.size hz2) (hown b rfl)
  have hfh := Lib.hid (And.intro hge (And.intro hb (And.intro hcells (hXW.trans hX))))
  clear hcells hV hb hown hge hz2
  have c_b1 := hS _ hX
  clear hS
  have hz3 := hlenh.out
  go_wp2_with fail
  go_quiet (fail)
  have hx9 := (Ext.refl w3).drewN nq
  have hg9 := hfh.out.1
  have hb9 := Nat.lt_of_lt_of_le hfh.out.2.1 hx9.size
  have hc9 : Hid (∀ (i : Nat) u, (rs.flatMap regVals)[i]? = some u → (w3.drewN nq).cell? ⟨b, i, none⟩ = some u) := Lib.hid fun i u hu => (hx9.cell (p := ⟨b, i, none⟩) hfh.out.2.1).trans (hfh.out.2.2.1 i u hu)
  have hX9 := Lib.hid (hfh.out.2.2.2.trans hx9)
  clear hx9 c_b1 hfh
  generalize w3.drewN nq = W9 at *
  generalize hA2 : (if c = N then some (⟨b, 0, none⟩ : Addr) else some ⟨b, N * 7, none⟩) = A2
  have hA3 : Hid (2 ≤ N → A2 = some ⟨b, N * 7, none⟩) := Lib.hid fun h => by rw [← hA2]; exact if_neg (by omega)
  clear hA2
  rw [show 2 * N - 1 - N = N - 1 from by omega]
  go_wp2_with fail
  refine bodyPost_ret (v := .tuple #[.slice (some ⟨b, 0, none⟩) N c, .slice A2 (N - 1) (c - N), .int .i64 0]) (by simp [results, Try.results54, go_sem]) rfl ?_
  exact ⟨b, c, _, c - N, rfl, hA3.out, hg9, hb9, hc9.out, by omega, q2, hX9.out⟩
set_option maxRecDepth 100000 in
theorem fastlay_p (alg mode base loc room me : Int) (N : Nat) (rs : List Reg) (w : World) (h1 : 1 ≤ N) (h2 : N ≤ 8) (hl : layM (fastWants N) N mode base loc = some rs) (hm0 : 0 ≤ me) (hm1 : me < N) :
    Calls Try.prog 59 #[.agg #[.int .i64 alg, .int .i64 N, .int .i64 mode, .int .i64 base, .int .i64 loc, .int .i64 room], .int .i64 me] w fun e w' => ∃ b c, e = .returned (.tuple #[.slice (some ⟨b, 0, none⟩) rs.length c, .int .i64 0]) ∧ w.heap.size ≤ b ∧ b < w'.heap.size ∧ (∀ (i : Nat) u, (rs.flatMap regVals)[i]? = some u → w'.cell? ⟨b, i, none⟩ = some u) ∧ rs.length ≤ c ∧ c ≤ 9223372036854775807 ∧ Ext w w' := by
  have hlen := layM_len hl
  rw [fastWants_len] at hlen
  replace hl := Lib.hid hl
  have hlenh := Lib.hid hlen
  clear hlen
  have d1 : decide (me < 0) = false := by rw [decide_eq_false_iff_not]; omega
  have d2 : decide ((N : Int) ≤ me) = false := by rw [decide_eq_false_iff_not]; omega
  have hX := Ext.refl w
  have b1 := Blk.new w (.cells #[.int .i64 alg, .int .i64 N, .int .i64 mode, .int .i64 base, .int .i64 loc, .int .i64 room] 44)
  replace hX := hX.alloc (.cells #[.int .i64 alg, .int .i64 N, .int .i64 mode, .int .i64 base, .int .i64 loc, .int .i64 room] 44)
  have c_b1 := b1.cells
  go_enter Try.func59, Try.ntmps59
  go_wp2_with fail
  generalize w.alloc _ = W at *
  have hXW := hX
  clear hX c_b1
  have hX := (Ext.refl W).drew
  have hS : ∀ w', Ext W w' → (∀ i, w'.cell? ⟨w.heap.size, i, none⟩ = (#[.int .i64 alg, .int .i64 N, .int .i64 mode, .int .i64 base, .int .i64 loc, .int .i64 room] : Array Value)[i]?) := fun w' hx => (b1.ext hx).cells
  go_region_held2 (fun w' => ∀ i, w'.cell? ⟨w.heap.size, i, none⟩ = (#[.int .i64 alg, .int .i64 N, .int .i64 mode, .int .i64 base, .int .i64 loc, .int .i64 room] : Array Value)[i]?) (exact hS _ hX)
    (first
      | (go_at_call 63
         refine (fastwants_p N _ h1 h2).mono ?_
         rintro e w2 ⟨v2, rfl, hw2, hx⟩
         replace hX := hX.trans hx
         have hz2 := hX.size
         clear hx)
      | (go_at_call 90
         refine (layp_some hl.out _ (hw2.ext (Ext.refl _)) (by simp [fastWants_len]; omega)).mono ?_
         rintro e w3 ⟨v3, rfl, hr3, hx⟩
         replace hX := hX.trans hx
         clear hx))
  rename_i hh
  clear hh
  obtain ⟨⟨A, c, rfl, q1, q2, hV⟩, hown⟩ := hr3
  obtain ⟨b, rfl, hb, hcells⟩ := hV (by cases rs with | nil => have := hlenh.out; simp only [List.length_nil] at this; omega | cons r l => simp [regVals])
  have hge : w.heap.size ≤ b := Nat.le_trans (Nat.le_trans hXW.size hz2) (hown b rfl)
  have hfh := Lib.hid (And.intro hge (And.intro hb (And.intro hcells (hXW.trans hX))))
  clear hcells hV hb hown hge hz2
  go_wp2_with fail
  first | go_ret2 | go_ret
  exact ⟨_, _, rfl, hfh.out.1, hfh.out.2.1, hfh.out.2.2.1, q1, q2, hfh.out.2.2.2⟩
end Go.Proofs.Ytpcohbpeglledaa
/-
  What the laws of locks share: whether registers can be laid, and a thread by any number.
-/
namespace Go.Proofs.Ytpcohbpeglledaa
open Go.RowKit Kv
theorem me_at (me : Int) (N : Nat) (h1 : 1 ≤ N) (h2 : N ≤ 8) : ∃ m : Nat, m < N ∧ wrapI me ((N : Int) - 1) = m := by
  have ht := wrapI_bd me ((N : Int) - 1)
  rw [show clamp ((N : Int) - 1) 1099511627776 = (N : Int) - 1 from by unfold clamp within; omega] at ht
  exact ⟨(wrapI me ((N : Int) - 1)).toNat, by omega, by omega⟩
theorem laid_all {l : List Want} {n mode b c : Int} {rs : List Reg} (h : layM l n mode b c = some rs) : ∀ r ∈ rs, r.ok ∧ r.n = n := by
  intro r hr
  obtain ⟨i, hi⟩ := List.getElem?_of_mem hr
  obtain ⟨⟨_, _, n1, n2, _, _⟩, hw, _⟩ := layM_args h
  have hil := (List.getElem?_eq_some_iff.1 hi).1
  rw [layM_len h] at hil
  obtain ⟨r', hr', hL⟩ := layM_at h (List.getElem?_eq_getElem hil)
  obtain rfl : r = r' := by rw [hi] at hr'; simpa using hr'
  obtain ⟨h1, h2, _⟩ := hL.ok ⟨n1, n2⟩ (hw _ (List.getElem_mem hil))
  exact ⟨h1, h2⟩
theorem laid_want {f : Nat → Want} {k : Nat} {n mode b c : Int} {rs : List Reg} (h : layM ((List.range k).map f) n mode b c = some rs) {i : Nat} {r : Reg} (hi : rs[i]? = some r) : Laid n mode (f i) r := by
  have hil := (List.getElem?_eq_some_iff.1 hi).1
  rw [layM_len h, List.length_map, List.length_range] at hil
  obtain ⟨r', hr', hL⟩ := layM_at h (i := i) (q := f i) (by rw [List.getElem?_map, List.getElem?_range hil]; rfl)
  obtain rfl : r = r' := by rw [hi] at hr'; simpa using hr'
  exact hL
/-- Told by accesses, but for its own writer. -/
theorem laid_told {n mode : Int} {q : Want} {r : Reg} (h : Laid n mode q r) (_hm : 1 ≤ mode ∧ mode ≤ 2) (hn : 2 ≤ n) (_hq : -1 ≤ q.wr) {me : Int} (hme : q.wr ≠ me) : r.told me := by
  obtain ⟨⟨b, c, rfl, _, _⟩, _⟩ := h
  by_cases h2 : mode = 2
  · by_cases h3 : 0 ≤ q.wr
    · refine .inr (.inl ⟨?_, fun h => hme h.symm⟩)
      show kindM mode q.wr = 6
      unfold kindM
      rw [if_pos h2, if_pos h3]
    · refine .inr (.inr ⟨?_, hn⟩)
      show kindM mode q.wr = 7
      unfold kindM
      rw [if_pos h2, if_neg h3]
  · refine .inl ?_
    show kindM mode q.wr = 1
    unfold kindM
    rw [if_neg h2]
theorem fil_told {N : Nat} {mode b c : Int} {rs : List Reg} {m : Nat} (h : layM (filWants N) N mode b c = some rs) : ∀ (i : Nat) r, rs[i]? = some r → i ≠ m → 2 ≤ N → r.told m := by
  intro i r hi hm hN
  obtain ⟨⟨h1, h2, _⟩, _⟩ := layM_args h
  refine laid_told (laid_want h hi) ⟨h1, h2⟩ (by omega) ?_ ?_
  · unfold filWant; split <;> simp <;> omega
  · unfold filWant; split <;> simp <;> omega
end Go.Proofs.Ytpcohbpeglledaa
