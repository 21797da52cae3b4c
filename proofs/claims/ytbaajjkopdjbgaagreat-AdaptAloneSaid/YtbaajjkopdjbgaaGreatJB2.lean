/-
  Registers of the program: a number of one writer, read.
-/
import Derived.Test.YtbaajjkopdjbgaaGreatJB1
import Derived.Deep.QuietTactic
import Derived.BigQuiet
import Derived.Maps.AppendAt
/-
  Registers of the program: a number of one writer, read.
-/
namespace Go.Proofs.YtbaajjkopdjbgaaGreat
open Go.RowKit Kv
attribute [local go_sem] Oper.semAt_some
/-- One block may have turned. -/
structure OneB (l : Nat) (w w' : World) : Prop where
  os : w'.os = w.os
  tape : w'.tape = w.tape
  output : w'.output = w.output
  size : w'.heap.size = w.heap.size
  block : ∀ k, k ≠ l → w'.heap[k]? = w.heap[k]?
theorem OneB.setCell (w : World) (b i : Nat) (v : Value) : OneB b w (w.setCell ⟨b, i, none⟩ v) := ⟨rfl, rfl, rfl, by simp, fun k hk => heap_setCell_ne w v hk⟩
section
variable {X : Nat → Prop} {ix : List Nat} {B p l : Nat} {w w' w'' : World} {S : TS}
theorem Keep.one (h : Keep ix B p w w') (o : OneB l w' w'') (hl : w.heap.size ≤ l) (hn : ¬ ownR ix w' p l) (hB : B ≤ w.heap.size) : Keep ix B p w w'' := by
  have hp : w''.heap[p]? = w'.heap[p]? := o.block p (fun e => hn (.inl e.symm))
  refine ⟨⟨o.os.trans h.below.os, o.tape.trans h.below.tape, o.output.trans h.below.output, by rw [o.size]; exact h.below.size, fun k hk => (o.block k (by omega)).trans (h.below.block k hk)⟩, fun b hb ho => ?_⟩
  obtain ⟨h1, h2⟩ := h.rest b hb ho
  exact ⟨(o.block b (by omega)).trans h1, fun h' => h2 ((ownR_same hp b).1 h')⟩
theorem KeepX.oneX (h : KeepX X ix B p w w') (o : OneB l w' w'') (hx : X l) (hn : ¬ ownR ix w' p l) (hB : B ≤ l) : KeepX X ix B p w w'' := by
  have hp : w''.heap[p]? = w'.heap[p]? := o.block p (fun e => hn (.inl e.symm))
  refine ⟨⟨o.os.trans h.below.os, o.tape.trans h.below.tape, o.output.trans h.below.output, by rw [o.size]; exact h.below.size, fun k hk => (o.block k (by omega)).trans (h.below.block k hk)⟩, fun b hb ho hxb => ?_⟩
  obtain ⟨h1, h2⟩ := h.rest b hb ho hxb
  exact ⟨(o.block b (fun e => hxb (e ▸ hx))).trans h1, fun h' => h2 ((ownR_same hp b).1 h')⟩
theorem Held.one {b : Nat} {ob : Obj} (h : Held ix w p b ob) (o : OneB l w w') (hb : b ≠ l) (hn : ¬ ownR ix w p l) : Held ix w' p b ob :=
  ⟨(o.block b hb).trans h.1, fun h' => h.2 ((ownR_same (o.block p (fun e => hn (.inl e.symm))) b).1 h')⟩
theorem Held.set1 {b : Nat} {u : Value} {t : TypeId} (h : Held ix w p b (.cells #[u] t (0, 0))) (v : Value) : Held ix (w.setCell ⟨b, 0, none⟩ v) p b (.cells #[v] t (0, 0)) :=
  ⟨heap_setCell h.1 v, fun h' => h.2 ((ownR_same ((OneB.setCell w b 0 v).block p (fun e => h.2 (.inl e.symm))) b).1 h')⟩
theorem PMem.one {st : Int} {vA vL vC vN : Value} {L : List Int} (h : PMem B w p S st vA vL vC vN L) (o : OneB l w w') (hn : ¬ ownR [2, 3, 4] w p l) (hB : B ≤ l) : PMem B w' p S st vA vL vC vN L :=
  { h with
    heap := (o.block p (fun e => hn (.inl e.symm))).trans h.heap
    ans := by
      obtain ⟨A, c, rfl, h1, h2, h3⟩ := h.ans
      refine ⟨A, c, rfl, h1, h2, fun hl => ?_⟩
      obtain ⟨b, off, rfl, hb, hc⟩ := h3 hl
      have hbB := h.ansB b rfl
      refine ⟨b, off, rfl, by rw [o.size]; exact hb, fun i x hi => ?_⟩
      rw [← hc i x hi]
      exact World.cell?_of_block (w := w) (o.block b (show b ≠ l by omega))
    rowL := h.rowL.kept (row := some l) ⟨o.os, o.tape, o.output, by rw [o.size]; exact Nat.le_refl _, fun k _ hk => o.block k (fun e => hk (by rw [e]))⟩ (.inr (fun e => hn (ownR_at h.heap (by simp) (i := 2) rfl e)))
    rowC := h.rowC.kept (row := some l) ⟨o.os, o.tape, o.output, by rw [o.size]; exact Nat.le_refl _, fun k _ hk => o.block k (fun e => hk (by rw [e]))⟩ (.inr (fun e => hn (ownR_at h.heap (by simp) (i := 3) rfl e)))
    rowN := h.rowN.kept (row := some l) ⟨o.os, o.tape, o.output, by rw [o.size]; exact Nat.le_refl _, fun k _ hk => o.block k (fun e => hk (by rw [e]))⟩ (.inr (fun e => hn (ownR_at h.heap (by simp) (i := 4) rfl e))) }
theorem Plays.one (h : Plays B w p S) (o : OneB l w w') (hn : ¬ ownR [2, 3, 4] w p l) (hB : B ≤ l) : Plays B w' p S := by
  obtain ⟨h0, vA, vL, vC, vN, L, h⟩ := h
  exact ⟨h0, vA, vL, vC, vN, L, h.one o hn hB⟩
end
theorem unpack_x (x top : Int) (w : World) :
    Calls Tryz.prog 337 #[.int .i64 x, .int .i64 top] w fun e w' => e = .returned (.tuple #[.int .i64 (unHi x top), .int .i64 (unLo x top)]) ∧ Ext w w' := (unpack_p x top w).mono fun _ _ h => ⟨h.1, h.2.ext⟩
/-- What a piece ends in that is cut off: what is told of its end; a panic that serves. -/
def cutQ (M : Act → World → Prop) (R : Ending → World → Prop) : Exit → Act → World → Prop
  | .normal, a, w => M a w
  | .panic c, a, w => a.defers = [] ∧ R (.panicked c) w
  | _, _, _ => False
theorem wpF_cut {P : Program} {f : FuncId} {x y : Code} {fn : Func} {R : Ending → World → Prop} {a : Act} {w : World} (M : Act → Act → World → Prop) (h1 : x.wp P (cutQ (M a) R) a w)
    (h2 : ∀ a' w', M a a' w' → WpF P f y (bodyPostM Fence.wide 0 P fn R) a' w') : WpF P f (x.seq y) (bodyPostM Fence.wide 0 P fn R) a w := by
  refine wpF_seq (wpF_of_wp (Code.wp_mono (fun e a' w' h => ?_) h1))
  cases e with
  | normal => exact h2 _ _ h
  | panic c =>
    obtain ⟨hd, h⟩ := h
    show LeavesInM Fence.wide 0 P fn a'.tmps R a'.defers (.panicking c) w'
    rw [hd]
    exact h
  | exit id => exact h.elim
  | goto l => exact h.elim
  | ret => exact h.elim
  | outgrown => exact h.elim
set_option maxHeartbeats 2000000 in
theorem table_read_p (B p : Nat) (S : TS) (r : Reg) (me : Int) (w : World) (h : Plays B w p S) (hn1 : 1 ≤ r.n) (hn2 : r.n ≤ 8) (hw1 : 0 ≤ r.wr) (hw2 : r.wr < r.n) (hm : 0 ≤ me ∧ me < r.n) (hb1 : 0 ≤ r.base) (hb2 : r.base ≤ 56000) (hl1 : 0 ≤ r.loc) (hl2 : r.loc ≤ 56000) :
    Calls Tryz.prog 291 #[.pointer (some ⟨p, 0, none⟩), encR r, .int .i64 me] w (Post encI B p w ((tableR r.base r.loc r.n r.wr r.top me).run S)) := by
  generalize hR : Post encI B p w ((tableR r.base r.loc r.n r.wr r.top me).run S) = R
  have hO : Owes R encI B p w ((tableR r.base r.loc r.n r.wr r.top me).run S) := hR ▸ owes _ _ _ _ _
  clear hR
  have hwr := Lib.hid (writer_p r)
  have hrk := Lib.hid (rank_p r me)
  obtain ⟨kind, base, loc, n, wr, rd, top⟩ := r
  simp only at hn1 hn2 hw1 hw2 hb1 hb2 hl1 hl2 hm hO
  unfold encR at hwr hrk ⊢
  have hK := Keep.refl [2, 3, 4] B p w
  have hP := h
  have b1 := hP.held (.cells #[.pointer (some ⟨p, 0, none⟩)] 33)
  replace hK := hK.trans (Keep.alloc (.cells #[.pointer (some ⟨p, 0, none⟩)] 33) hP.lt hP.le)
  replace hP := hP.alloc (.cells #[.pointer (some ⟨p, 0, none⟩)] 33)
  have b2 := hP.held (.cells #[.int .i64 kind, .int .i64 base, .int .i64 loc, .int .i64 n, .int .i64 wr, .int .i64 rd, .int .i64 top] 67)
  simp only [World.size_alloc] at b2
  replace b1 := b1.alloc (.cells #[.int .i64 kind, .int .i64 base, .int .i64 loc, .int .i64 n, .int .i64 wr, .int .i64 rd, .int .i64 top] 67) hP.lt
  replace hK := hK.trans (Keep.alloc (.cells #[.int .i64 kind, .int .i64 base, .int .i64 loc, .int .i64 n, .int .i64 wr, .int .i64 rd, .int .i64 top] 67) hP.lt hP.le)
  replace hP := hP.alloc (.cells #[.int .i64 kind, .int .i64 base, .int .i64 loc, .int .i64 n, .int .i64 wr, .int .i64 rd, .int .i64 top] 67)
  have c_b1 := b1.cells
  have c_b2 := b2.cells
  have hBw := Lib.hid h.le
  clear h
  unfold tableR at hO
  by_cases hme : me = wr
  · rw [if_pos hme] at hO
    subst hme
    refine calls_of_wpF Tryz.func291 rfl ?_
    simp only [Tryz.ntmps291, List.size_toArray, List.length_cons, List.length_nil, Nat.reduceAdd, Nat.reduceSub, Array.replicate_succ, Array.replicate_zero, List.push_toArray, List.append_toArray, List.nil_append, List.cons_append]
    refine wpF_step fun K hK2 => ?_
    go_wp2_with fail
    refine wpF_step fun K hK2 => ?_
    go_wp2_with fail
    refine (hwr.out _ hn1 hn2 hw1 hw2).mono ?_
    rintro e w2 ⟨rfl, hx⟩
    clear c_b1 c_b2
    replace hK := hK.trans (Keep.of_ext hx hP.lt hP.le)
    replace b1 := b1.ext hx hP.lt
    have c_b1 := b1.cells
    replace b2 := b2.ext hx hP.lt
    have c_b2 := b2.cells
    replace hP := hP.ext hx
    clear hx
    go_wp2_with fail
    refine (get_p B p S (loc + 1) _ hP).mono ?_
    rintro e w' ⟨rfl, rfl⟩
    rw [run_gt1] at hO
    generalize S.got (loc + 1) = z at hO ⊢
    go_wp2_with fail
    exact leavesM_ret0 (v := .int .i64 z) (by simp [results, Tryz.results291, go_sem]) (hO.done hP hK)
  · rw [if_neg hme] at hO
    have hme2 : (me == wr) = false := by simpa using hme
    have hrk2 := Lib.hid (fun W => hrk.out W hn1 hn2 hw1 hw2 hm hme)
    clear hrk
    have hrb : 0 ≤ rankM wr me ∧ rankM wr me < n - 1 := by unfold rankM; split <;> omega
    generalize rankM wr me = a at *
    refine calls_of_wpF Tryz.func291 rfl ?_
    simp only [Tryz.ntmps291, List.size_toArray, List.length_cons, List.length_nil, Nat.reduceAdd, Nat.reduceSub, Array.replicate_succ, Array.replicate_zero, List.push_toArray, List.append_toArray, List.nil_append, List.cons_append]
    refine wpF_step fun K hK2 => ?_
    go_wp2_with fail
    refine wpF_step fun K hK2 => ?_
    go_wp2_with fail
    refine (hwr.out _ hn1 hn2 hw1 hw2).mono ?_
    rintro e w2 ⟨rfl, hx⟩
    clear c_b1 c_b2
    replace hK := hK.trans (Keep.of_ext hx hP.lt hP.le)
    replace b1 := b1.ext hx hP.lt
    have c_b1 := b1.cells
    replace b2 := b2.ext hx hP.lt
    have c_b2 := b2.cells
    replace hP := hP.ext hx
    clear hx
    go_wp2_with fail
    refine wpF_step fun K hK2 => ?_
    go_wp2_with fail
    refine (hrk2.out _).mono ?_
    rintro e w2 ⟨rfl, hx⟩
    clear c_b1 c_b2
    replace hK := hK.trans (Keep.of_ext hx hP.lt hP.le)
    replace b1 := b1.ext hx hP.lt
    have c_b1 := b1.cells
    replace b2 := b2.ext hx hP.lt
    have c_b2 := b2.cells
    replace hP := hP.ext hx
    clear hx
    go_wp2_with fail
    have b3 := hP.held (.cells #[.int .i64 a] 3)
    clear c_b1 c_b2
    replace b1 := b1.alloc (.cells #[.int .i64 a] 3) hP.lt
    replace b2 := b2.alloc (.cells #[.int .i64 a] 3) hP.lt
    replace hK := hK.trans (Keep.alloc (.cells #[.int .i64 a] 3) hP.lt hP.le)
    replace hP := hP.alloc (.cells #[.int .i64 a] 3)
    have c_b1 := b1.cells
    have c_b2 := b2.cells
    have c_b3 := b3.cells
    refine wpF_step fun K hK2 => ?_
    go_wp2_with fail
    refine wpF_step fun K hK2 => ?_
    go_wp2_with fail
    refine (threads_p n _ hn1 hn2).mono ?_
    rintro e w' ⟨rfl, rfl⟩
    go_wp2_with fail
    have b4 := hP.held (.cells #[.int .i64 (n - 1)] 3)
    clear c_b1 c_b2 c_b3
    replace b1 := b1.alloc (.cells #[.int .i64 (n - 1)] 3) hP.lt
    replace b2 := b2.alloc (.cells #[.int .i64 (n - 1)] 3) hP.lt
    replace b3 := b3.alloc (.cells #[.int .i64 (n - 1)] 3) hP.lt
    replace hK := hK.trans (Keep.alloc (.cells #[.int .i64 (n - 1)] 3) hP.lt hP.le)
    replace hP := hP.alloc (.cells #[.int .i64 (n - 1)] 3)
    have c_b1 := b1.cells
    have c_b2 := b2.cells
    have c_b3 := b3.cells
    have c_b4 := b4.cells
    simp only [World.size_alloc] at b4 c_b4
    generalize (w2.alloc (.cells #[.int .i64 a] 3)).alloc (.cells #[.int .i64 (n - 1)] 3) = W0 at *
    generalize w2.heap.size = q at *
    refine wpF_cut (fun a0 a' W => ∃ (y : Int) (bx : Nat) (S : TS), a' = { tmps := ((((((a0.tmps.setIfInBounds 36 (.pointer (some ⟨p, 0, none⟩))).setIfInBounds 37 (encR (⟨kind, base, loc, n, wr, rd, top⟩ : Reg))).setIfInBounds 38 (.int .i64 a)).setIfInBounds 39 (encR (⟨5, base + 16 * a, loc + (2 + 18 * a), n, wr, rd, 1099511627776⟩ : Reg))).setIfInBounds 40 (.int .i64 y)).setIfInBounds 10 (.pointer (some ⟨bx, 0, none⟩))), defers := [] } ∧ w.heap.size ≤ bx ∧ bx ≠ w.heap.size ∧ bx ≠ w.heap.size + 1 ∧ bx ≠ q ∧ bx ≠ q + 1 ∧
      HeldP W p w.heap.size (.cells #[.pointer (some ⟨p, 0, none⟩)] 33) ∧ HeldP W p (w.heap.size + 1) (.cells #[.int .i64 kind, .int .i64 base, .int .i64 loc, .int .i64 n, .int .i64 wr, .int .i64 rd, .int .i64 top] 67) ∧ HeldP W p q (.cells #[.int .i64 a] 3) ∧ HeldP W p (q + 1) (.cells #[.int .i64 (n - 1)] 3) ∧ HeldP W p bx (.cells #[.int .i64 y] 3) ∧
      Plays B W p S ∧ KeepP B p w W ∧ Owes R encI B p w (((forP (fun i x => (slotsR (base + 16 * tellsM (n - 1) i a) (loc + (2 + 18 * tellsM (n - 1) i a))).bind fun y => .ret (max x y)) (ranksFrom a (n - 1).toNat 0) y).bind fun x =>
      (forP (fun i _ => slotsW (base + 16 * tellsM (n - 1) a i) (loc + (2 + 18 * tellsM (n - 1) a i)) x) (ranksFrom a (n - 1).toNat 0) ()).bind fun _ => .ret (unLo x (clamp top 1048576))).run S)) ?_ ?_
    · replace hP := hP.drew
      replace hK := hK.drew
      replace b1 := b1.drew
      replace b2 := b2.drew
      replace b3 := b3.drew
      replace b4 := b4.drew
      refine wp_region_held_drew (S := fun W' => (∀ i : Nat, W'.cell? ⟨w.heap.size, i, none⟩ = (#[.pointer (some ⟨p, 0, none⟩)] : Array Value)[i]?) ∧ (∀ i : Nat, W'.cell? ⟨w.heap.size + 1, i, none⟩ = (#[.int .i64 kind, .int .i64 base, .int .i64 loc, .int .i64 n, .int .i64 wr, .int .i64 rd, .int .i64 top] : Array Value)[i]?) ∧ (∀ i : Nat, W'.cell? ⟨q, i, none⟩ = (#[.int .i64 a] : Array Value)[i]?)) (by kernel_rfl) ⟨c_b1, c_b2, c_b3⟩ (fun hHeld => ?_)
      refine wpAnyH_take (i := 0) (v := ?_) rfl (by kernel_rfl) (by kernel_rfl) (by kernel_rfl) (fun _ _ _ h => h) (Or.inl ⟨by kernel_rfl, ?_⟩) (by assumption) ?_
      rotate_left
      · (intro w hSw; (try dsimp only at hSw); go_simp; try with_reducible rfl)
      try simp only [put_pack]
      refine wpAnyH_take (i := 1) (v := ?_) rfl (by kernel_rfl) (by kernel_rfl) (by kernel_rfl) (fun _ _ _ h => h) (Or.inl ⟨by kernel_rfl, ?_⟩) (by assumption) ?_
      rotate_left
      · (intro w hSw; (try dsimp only at hSw); go_simp; try with_reducible rfl)
      try simp only [put_pack]
      refine wpAnyH_take (i := 2) (v := ?_) rfl (by kernel_rfl) (by kernel_rfl) (by kernel_rfl) (fun _ _ _ h => h) (Or.inl ⟨by kernel_rfl, ?_⟩) (by assumption) ?_
      rotate_left
      · (intro w hSw; (try dsimp only at hSw); go_simp; try with_reducible rfl)
      try simp only [put_pack]
      refine wpAnyH_ready (rs := [3, 5]) (by kernel_rfl) (by simp) ?_
      refine AllReadyH.cons rfl (fun K hKK => ?_) (AllReadyH.cons rfl (fun K hKK => ?_) AllReadyH.nil)
      · go_simp
        refine (tslot_p ⟨kind, base, loc, n, wr, rd, top⟩ a _ (by omega) (by omega) hb1 (by simp only; omega) hl1 (by simp only; omega)).mono ?_
        rintro e w2 ⟨rfl, hx⟩
        clear c_b1 c_b2 c_b3 c_b4
        replace hK := hK.trans (Keep.of_ext hx hP.lt hP.le)
        replace b1 := b1.ext hx hP.lt
        have c_b1 := b1.cells
        replace b2 := b2.ext hx hP.lt
        have c_b2 := b2.cells
        replace b3 := b3.ext hx hP.lt
        have c_b3 := b3.cells
        replace b4 := b4.ext hx hP.lt
        have c_b4 := b4.cells
        replace hP := hP.ext hx
        clear hx
        refine hKK.out _ _ ⟨c_b1, c_b2, c_b3⟩ (fun hHeld => ?_)
        clear hKK K
        try dsimp only
        refine wpAnyH_ready (rs := [4, 5]) (by kernel_rfl) (by simp) ?_
        refine AllReadyH.cons rfl (fun K hKK => ?_) (AllReadyH.cons rfl (fun K hKK => ?_) AllReadyH.nil)
        · go_simp
          refine tstep hO hK (slots_read_p B p S ⟨5, base + 16 * a, loc + (2 + 18 * a), n, wr, rd, 1099511627776⟩ _ hP (by simp only; omega) (by simp only; omega) (by simp only; omega) (by simp only; omega)) (fun _ h => ⟨rfl, h⟩) ?_
          clear hO hK hP c_b1 c_b2 c_b3 c_b4
          intro y S w1 hr hP hk hK hO
          replace b1 := b1.keep hk
          have c_b1 := b1.cells
          replace b2 := b2.keep hk
          have c_b2 := b2.cells
          replace b3 := b3.keep hk
          have c_b3 := b3.cells
          replace b4 := b4.keep hk
          have c_b4 := b4.cells
          clear hk hr
          refine hKK.out _ _ ⟨c_b1, c_b2, c_b3⟩ (fun hHeld => ?_)
          clear hKK K
          try simp only [put_pack]
          refine wpAnyH_ready (rs := [5]) (by kernel_rfl) (by simp) ?_
          refine AllReadyH.cons rfl (fun K hKK => ?_) AllReadyH.nil
          go_simp
          have l1 := b1.lt
          have l2 := b2.lt
          have l3 := b3.lt
          have l4 := b4.lt
          have lk := hK.size
          refine hKK.out _ _ ⟨(b1.alloc _ hP.lt).cells, (b2.alloc _ hP.lt).cells, (b3.alloc _ hP.lt).cells⟩ (fun hHeld => ?_)
          clear hKK K
          try simp only [put_pack]
          refine wpAnyH_ready (rs := [6]) (by kernel_rfl) (by simp) ?_
          refine AllReadyH.cons rfl (fun K hKK => ?_) AllReadyH.nil
          go_simp
          have b5 := hP.held (.cells #[.int .i64 y] 3)
          clear c_b1 c_b2 c_b3 c_b4
          replace b1 := b1.alloc (.cells #[.int .i64 y] 3) hP.lt
          replace b2 := b2.alloc (.cells #[.int .i64 y] 3) hP.lt
          replace b3 := b3.alloc (.cells #[.int .i64 y] 3) hP.lt
          replace b4 := b4.alloc (.cells #[.int .i64 y] 3) hP.lt
          replace hK := hK.trans (Keep.alloc (.cells #[.int .i64 y] 3) hP.lt hP.le)
          replace hP := hP.alloc (.cells #[.int .i64 y] 3)
          have c_b1 := b1.cells
          have c_b2 := b2.cells
          have c_b3 := b3.cells
          have c_b4 := b4.cells
          have c_b5 := b5.cells
          refine hKK.out _ _ ⟨c_b1, c_b2, c_b3⟩ (fun hHeld => ?_)
          refine wpAnyH_done (by kernel_rfl) ?_ _
          exact ⟨y, w1.heap.size, S, rfl, lk, by omega, by omega, by omega, by omega, b1, b2, b3, b4, b5, hP, hK, hO⟩
        · go_simp
          have l1 := b1.lt
          have l2 := b2.lt
          have l3 := b3.lt
          have l4 := b4.lt
          have lk := hK.size
          have b5 := hP.held (.cells #[.int .i64 0] 3)
          clear c_b1 c_b2 c_b3 c_b4
          replace b1 := b1.alloc (.cells #[.int .i64 0] 3) hP.lt
          replace b2 := b2.alloc (.cells #[.int .i64 0] 3) hP.lt
          replace b3 := b3.alloc (.cells #[.int .i64 0] 3) hP.lt
          replace b4 := b4.alloc (.cells #[.int .i64 0] 3) hP.lt
          replace hK := hK.trans (Keep.alloc (.cells #[.int .i64 0] 3) hP.lt hP.le)
          replace hP := hP.alloc (.cells #[.int .i64 0] 3)
          have c_b1 := b1.cells
          have c_b2 := b2.cells
          have c_b3 := b3.cells
          have c_b4 := b4.cells
          have c_b5 := b5.cells
          replace l1 : w.heap.size < w2.heap.size := l1
          replace l2 : w.heap.size + 1 < w2.heap.size := l2
          replace l3 : q < w2.heap.size := l3
          replace l4 : q + 1 < w2.heap.size := l4
          replace lk : w.heap.size ≤ w2.heap.size := lk
          refine hKK.out _ _ ⟨c_b1, c_b2, c_b3⟩ (fun hHeld => ?_)
          clear hKK K
          try simp only [put_pack]
          generalize w2.heap.size = bx at *
          refine wpAnyH_ready (rs := [4]) (by kernel_rfl) (by simp) ?_
          refine AllReadyH.cons rfl (fun K hKK => ?_) AllReadyH.nil
          go_simp
          refine tstep hO hK (slots_read_p B p S ⟨5, base + 16 * a, loc + (2 + 18 * a), n, wr, rd, 1099511627776⟩ _ hP (by simp only; omega) (by simp only; omega) (by simp only; omega) (by simp only; omega)) (fun _ h => ⟨rfl, h⟩) ?_
          clear hO hK hP c_b1 c_b2 c_b3 c_b4 c_b5
          intro y S w1 hr hP hk hK hO
          replace b1 := b1.keep hk
          have c_b1 := b1.cells
          replace b2 := b2.keep hk
          have c_b2 := b2.cells
          replace b3 := b3.keep hk
          have c_b3 := b3.cells
          replace b4 := b4.keep hk
          have c_b4 := b4.cells
          replace b5 := b5.keep hk
          have c_b5 := b5.cells
          clear hk hr
          refine hKK.out _ _ ⟨c_b1, c_b2, c_b3⟩ (fun hHeld => ?_)
          clear hKK K
          try simp only [put_pack]
          refine wpAnyH_ready (rs := [6]) (by kernel_rfl) (by simp) ?_
          refine AllReadyH.cons rfl (fun K hKK => ?_) AllReadyH.nil
          have f_b5 := frozen_of_heap b5.1
          go_simp
          have o5 := OneB.setCell w1 bx 0 (.int .i64 y)
          have n5 := b5.2
          replace b1 := b1.one o5 (by omega) n5
          replace b2 := b2.one o5 (by omega) n5
          replace b3 := b3.one o5 (by omega) n5
          replace b4 := b4.one o5 (by omega) n5
          have b6 := b5.set1 (.int .i64 y)
          refine hKK.out _ _ ⟨b1.cells, b2.cells, b3.cells⟩ (fun hHeld => ?_)
          refine wpAnyH_done (by kernel_rfl) ?_ _
          exact ⟨y, bx, S, rfl, lk, by omega, by omega, by omega, by omega, b1, b2, b3, b4, b6, hP.one o5 n5 (by have := hBw.out; omega), hK.one o5 lk n5 hBw.out, hO⟩
      · go_simp
        have l1 := b1.lt
        have l2 := b2.lt
        have l3 := b3.lt
        have l4 := b4.lt
        have lk := hK.size
        have b5 := hP.held (.cells #[.int .i64 0] 3)
        clear c_b1 c_b2 c_b3 c_b4
        replace b1 := b1.alloc (.cells #[.int .i64 0] 3) hP.lt
        replace b2 := b2.alloc (.cells #[.int .i64 0] 3) hP.lt
        replace b3 := b3.alloc (.cells #[.int .i64 0] 3) hP.lt
        replace b4 := b4.alloc (.cells #[.int .i64 0] 3) hP.lt
        replace hK := hK.trans (Keep.alloc (.cells #[.int .i64 0] 3) hP.lt hP.le)
        replace hP := hP.alloc (.cells #[.int .i64 0] 3)
        have c_b1 := b1.cells
        have c_b2 := b2.cells
        have c_b3 := b3.cells
        have c_b4 := b4.cells
        have c_b5 := b5.cells
        replace l1 : w.heap.size < W0.heap.size := l1
        replace l2 : w.heap.size + 1 < W0.heap.size := l2
        replace l3 : q < W0.heap.size := l3
        replace l4 : q + 1 < W0.heap.size := l4
        replace lk : w.heap.size ≤ W0.heap.size := lk
        refine hKK.out _ _ ⟨c_b1, c_b2, c_b3⟩ (fun hHeld => ?_)
        clear hKK K
        try simp only [put_pack]
        replace b5 : HeldP _ p W0.heap.size _ := b5
        replace c_b5 := b5.cells
        generalize W0.heap.size = bx at *
        refine wpAnyH_ready (rs := [3]) (by kernel_rfl) (by simp) ?_
        refine AllReadyH.cons rfl (fun K hKK => ?_) AllReadyH.nil
        go_simp
        refine (tslot_p ⟨kind, base, loc, n, wr, rd, top⟩ a _ (by omega) (by omega) hb1 (by simp only; omega) hl1 (by simp only; omega)).mono ?_
        rintro e w2 ⟨rfl, hx⟩
        clear c_b1 c_b2 c_b3 c_b4 c_b5
        replace hK := hK.trans (Keep.of_ext hx hP.lt hP.le)
        replace b1 := b1.ext hx hP.lt
        have c_b1 := b1.cells
        replace b2 := b2.ext hx hP.lt
        have c_b2 := b2.cells
        replace b3 := b3.ext hx hP.lt
        have c_b3 := b3.cells
        replace b4 := b4.ext hx hP.lt
        have c_b4 := b4.cells
        replace b5 := b5.ext hx hP.lt
        have c_b5 := b5.cells
        replace hP := hP.ext hx
        clear hx
        refine hKK.out _ _ ⟨c_b1, c_b2, c_b3⟩ (fun hHeld => ?_)
        clear hKK K
        try dsimp only
        refine wpAnyH_ready (rs := [4]) (by kernel_rfl) (by simp) ?_
        refine AllReadyH.cons rfl (fun K hKK => ?_) AllReadyH.nil
        go_simp
        refine tstep hO hK (slots_read_p B p S ⟨5, base + 16 * a, loc + (2 + 18 * a), n, wr, rd, 1099511627776⟩ _ hP (by simp only; omega) (by simp only; omega) (by simp only; omega) (by simp only; omega)) (fun _ h => ⟨rfl, h⟩) ?_
        clear hO hK hP c_b1 c_b2 c_b3 c_b4 c_b5
        intro y S w1 hr hP hk hK hO
        replace b1 := b1.keep hk
        have c_b1 := b1.cells
        replace b2 := b2.keep hk
        have c_b2 := b2.cells
        replace b3 := b3.keep hk
        have c_b3 := b3.cells
        replace b4 := b4.keep hk
        have c_b4 := b4.cells
        replace b5 := b5.keep hk
        have c_b5 := b5.cells
        clear hk hr
        refine hKK.out _ _ ⟨c_b1, c_b2, c_b3⟩ (fun hHeld => ?_)
        clear hKK K
        try simp only [put_pack]
        refine wpAnyH_ready (rs := [6]) (by kernel_rfl) (by simp) ?_
        refine AllReadyH.cons rfl (fun K hKK => ?_) AllReadyH.nil
        have f_b5 := frozen_of_heap b5.1
        go_simp
        have o5 := OneB.setCell w1 bx 0 (.int .i64 y)
        have n5 := b5.2
        replace b1 := b1.one o5 (by omega) n5
        replace b2 := b2.one o5 (by omega) n5
        replace b3 := b3.one o5 (by omega) n5
        replace b4 := b4.one o5 (by omega) n5
        have b6 := b5.set1 (.int .i64 y)
        refine hKK.out _ _ ⟨b1.cells, b2.cells, b3.cells⟩ (fun hHeld => ?_)
        refine wpAnyH_done (by kernel_rfl) ?_ _
        exact ⟨y, bx, S, rfl, lk, by omega, by omega, by omega, by omega, b1, b2, b3, b4, b6, hP.one o5 n5 (by have := hBw.out; omega), hK.one o5 lk n5 hBw.out, hO⟩
    · rintro a' W ⟨y, bx, S, rfl, lw, ne1, ne2, ne3, ne4, b1, b2, b3, b4, b5, hP, hK, hO⟩
      clear c_b1 c_b2 c_b3 c_b4
      have c_b1 := b1.cells
      have c_b2 := b2.cells
      have c_b3 := b3.cells
      have c_b4 := b4.cells
      have c_b5 := b5.cells
      obtain ⟨k, hk⟩ : ∃ k : Nat, n - 1 = (k : Int) := ⟨(n - 1).toNat, by omega⟩
      simp only [hk, Int.toNat_natCast] at hO b4 c_b4 hrb ⊢
      have hk8 : k ≤ 7 := by omega
      have n1 : ¬ w.heap.size = bx := fun e => ne1 e.symm
      have n2 : ¬ w.heap.size + 1 = bx := fun e => ne2 e.symm
      have n3 : ¬ q = bx := fun e => ne3 e.symm
      have n4 : ¬ q + 1 = bx := fun e => ne4 e.symm
      simp only [List.setIfInBounds_toArray, List.set_cons_zero, List.set_cons_succ]
      refine wpF_seq (wpF_step fun K hK2 => ?_)
      go_wp2_with fail
      refine (ranks_p _ _ _).mono ?_
      rintro e w3 ⟨rfl, rfl⟩
      go_wp2_with fail
      have lbx := b5.lt
      have b6 := hP.held (.cells #[.int .i64 (k : Int)] 3)
      clear c_b1 c_b2 c_b3 c_b4 c_b5
      replace b1 := b1.alloc (.cells #[.int .i64 (k : Int)] 3) hP.lt
      replace b2 := b2.alloc (.cells #[.int .i64 (k : Int)] 3) hP.lt
      replace b3 := b3.alloc (.cells #[.int .i64 (k : Int)] 3) hP.lt
      replace b4 := b4.alloc (.cells #[.int .i64 (k : Int)] 3) hP.lt
      replace b5 := b5.alloc (.cells #[.int .i64 (k : Int)] 3) hP.lt
      replace hK := hK.trans (Keep.alloc (.cells #[.int .i64 (k : Int)] 3) hP.lt hP.le)
      replace hP := hP.alloc (.cells #[.int .i64 (k : Int)] 3)
      have c_b1 := b1.cells
      have c_b2 := b2.cells
      have c_b3 := b3.cells
      have c_b4 := b4.cells
      have c_b5 := b5.cells
      have c_b6 := b6.cells
      have b7 := hP.held (.cells #[.int .i64 a] 3)
      clear c_b1 c_b2 c_b3 c_b4 c_b5 c_b6
      replace b1 := b1.alloc (.cells #[.int .i64 a] 3) hP.lt
      replace b2 := b2.alloc (.cells #[.int .i64 a] 3) hP.lt
      replace b3 := b3.alloc (.cells #[.int .i64 a] 3) hP.lt
      replace b4 := b4.alloc (.cells #[.int .i64 a] 3) hP.lt
      replace b5 := b5.alloc (.cells #[.int .i64 a] 3) hP.lt
      replace b6 := b6.alloc (.cells #[.int .i64 a] 3) hP.lt
      replace hK := hK.trans (Keep.alloc (.cells #[.int .i64 a] 3) hP.lt hP.le)
      replace hP := hP.alloc (.cells #[.int .i64 a] 3)
      have c_b1 := b1.cells
      have c_b2 := b2.cells
      have c_b3 := b3.cells
      have c_b4 := b4.cells
      have c_b5 := b5.cells
      have c_b6 := b6.cells
      have c_b7 := b7.cells
      simp only [World.size_alloc] at b7 c_b7
      have hWW : W.heap.size < ((W.alloc (.cells #[.int .i64 (k : Int)] 3)).alloc (.cells #[.int .i64 a] 3)).heap.size := b6.lt
      generalize (W.alloc (.cells #[.int .i64 (k : Int)] 3)).alloc (.cells #[.int .i64 a] 3) = W0 at *
      have n6 : ¬ W.heap.size = bx := by omega
      have n7 : ¬ W.heap.size + 1 = bx := by omega
      generalize W.heap.size = q2 at *
      refine wpF_block ?_
      refine' tape_range (T := fun i x => (slotsR (base + 16 * tellsM k i a) (loc + (2 + 18 * tellsM k i a))).bind fun y => .ret (max x y)) (xs := ranksFrom a k 0) (x := y) (fin := fun x => (forP (fun i _ => slotsW (base + 16 * tellsM k a i) (loc + (2 + 18 * tellsM k a i)) x) (ranksFrom a k 0) ()).bind fun _ => .ret (unLo x (clamp top 1048576))) Tryz.func291 rfl (enters_of Tryz.func339 (by kernel_rfl) rfl) rfl (ranks_gives k a q2 (q2 + 1) (by omega))
        (fun b => b = bx) (fun x W => HeldP W p bx (.cells #[.int .i64 x] 3)) (fun b hb => ⟨by rw [hb]; exact b5.lt, by rw [hb]; exact lw⟩) hP.le (fun W hX => ⟨(KeepX.held b6 hX n6).cells 0, (KeepX.held b7 hX n7).cells 0⟩) (fun _ _ o hp h => h.alloc o hp) (fun _ _ l _ hl hn h => h.put (by have := b5.lt; omega) hn) hO hK hP b5
        _ ?assign ?body ?done ?pan
      case assign =>
        intro l y W K hK
        gi_wp2
        exact hK
      case body =>
        intro l i x S W hi hPl hX hJx
        have hib := ranks_mem a k 0 i hi
        have htb := tells_bd k i a (by omega) (by omega) (by omega) (by omega)
        have c1 := (KeepX.held b1 hX n1)
        have c2 := (KeepX.held b2 hX n2)
        have c3 := (KeepX.held b3 hX n3)
        have c4 := (KeepX.held b4 hX n4)
        have c5 : HeldP W p bx (.cells #[.int .i64 x] 3) := hJx
        have hO := owes encI B p W ((slotsR (base + 16 * tellsM k i a) (loc + (2 + 18 * tellsM k i a))).run S)
        have hK := Keep.refl [2, 3, 4] B p W
        have hP := hPl
        have hK8 := Lib.hid hX.below.size
        clear hPl hX hJx b1 b2 b3 b4 b5 b6 b7 c_b1 c_b2 c_b3 c_b4 c_b5 c_b6 c_b7
        have c_c1 := c1.cells
        have c_c2 := c2.cells
        have c_c3 := c3.cells
        have c_c4 := c4.cells
        have c_c5 := c5.cells
        refine wpIn_block ?_
        replace hP := hP.drew
        replace hK := hK.drew
        replace c1 := c1.drew
        replace c2 := c2.drew
        replace c3 := c3.drew
        replace c4 := c4.drew
        replace c5 := c5.drew
        refine wpIn_region_held (S := fun W' => (∀ i : Nat, W'.cell? ⟨w.heap.size, i, none⟩ = (#[.pointer (some ⟨p, 0, none⟩)] : Array Value)[i]?) ∧ (∀ i : Nat, W'.cell? ⟨w.heap.size + 1, i, none⟩ = (#[.int .i64 kind, .int .i64 base, .int .i64 loc, .int .i64 n, .int .i64 wr, .int .i64 rd, .int .i64 top] : Array Value)[i]?) ∧ (∀ i : Nat, W'.cell? ⟨q, i, none⟩ = (#[.int .i64 a] : Array Value)[i]?) ∧ (∀ i : Nat, W'.cell? ⟨q + 1, i, none⟩ = (#[.int .i64 (k : Int)] : Array Value)[i]?)) (by kernel_rfl) (by kernel_rfl) (fun _ _ h => h) ⟨c_c1, c_c2, c_c3, c_c4⟩ (fun hHeld => ?_)
        refine wpAnyH_take (i := 1) (v := ?_) rfl (by kernel_rfl) (by kernel_rfl) (by kernel_rfl) (fun _ _ _ h => h) (Or.inl ⟨by kernel_rfl, ?_⟩) (by assumption) ?_
        rotate_left
        · (intro w hSw; (try dsimp only at hSw); go_simp; try with_reducible rfl)
        try simp only [put_pack]
        refine wpAnyH_take (i := 2) (v := ?_) rfl (by kernel_rfl) (by kernel_rfl) (by kernel_rfl) (fun _ _ _ h => h) (Or.inl ⟨by kernel_rfl, ?_⟩) (by assumption) ?_
        rotate_left
        · (intro w hSw; (try dsimp only at hSw); go_simp; try with_reducible rfl)
        try simp only [put_pack]
        refine wpAnyH_take (i := 3) (v := ?_) rfl (by kernel_rfl) (by kernel_rfl) (by kernel_rfl) (fun _ _ _ h => h) (Or.inl ⟨by kernel_rfl, ?_⟩) (by assumption) ?_
        rotate_left
        · (intro w hSw; (try dsimp only at hSw); go_simp; try with_reducible rfl)
        try simp only [put_pack]
        refine wpAnyH_take (i := 4) (v := ?_) rfl (by kernel_rfl) (by kernel_rfl) (by kernel_rfl) (fun _ _ _ h => h) (Or.inl ⟨by kernel_rfl, ?_⟩) (by assumption) ?_
        rotate_left
        · (intro w hSw; (try dsimp only at hSw); go_simp; try with_reducible rfl)
        try simp only [put_pack]
        refine wpAnyH_take (i := 5) (v := ?_) rfl (by kernel_rfl) (by kernel_rfl) (by kernel_rfl) (fun _ _ _ h => h) (Or.inl ⟨by kernel_rfl, ?_⟩) (by assumption) ?_
        rotate_left
        · (intro w hSw; (try dsimp only at hSw); go_simp; try with_reducible rfl)
        try simp only [put_pack]
        refine wpAnyH_ready (rs := [0, 6]) (by kernel_rfl) (by simp) ?_
        refine AllReadyH.cons rfl (fun K hKK => ?_) (AllReadyH.cons rfl (fun K hKK => ?_) AllReadyH.nil)
        · go_simp
          refine hKK.out _ _ ⟨c_c1, c_c2, c_c3, c_c4⟩ (fun hHeld => ?_)
          clear hKK K
          try simp only [put_pack]
          refine wpAnyH_ready (rs := [6]) (by kernel_rfl) (by simp) ?_
          refine AllReadyH.cons rfl (fun K hKK => ?_) AllReadyH.nil
          go_simp
          refine (tells_p ⟨kind, base, loc, n, wr, rd, top⟩ k i a _ (by omega) (by omega) (by omega) (by omega) hb1 (by simp only; omega) hl1 (by simp only; omega)).mono ?_
          rintro e w2 ⟨rfl, hx⟩
          clear c_c1 c_c2 c_c3 c_c4 c_c5
          replace hK := hK.trans (Keep.of_ext hx hP.lt hP.le)
          replace c1 := c1.ext hx hP.lt
          have c_c1 := c1.cells
          replace c2 := c2.ext hx hP.lt
          have c_c2 := c2.cells
          replace c3 := c3.ext hx hP.lt
          have c_c3 := c3.cells
          replace c4 := c4.ext hx hP.lt
          have c_c4 := c4.cells
          replace c5 := c5.ext hx hP.lt
          have c_c5 := c5.cells
          replace hP := hP.ext hx
          clear hx
          refine hKK.out _ _ ⟨c_c1, c_c2, c_c3, c_c4⟩ (fun hHeld => ?_)
          clear hKK K
          try dsimp only
          refine wpAnyH_ready (rs := [7]) (by kernel_rfl) (by simp) ?_
          refine AllReadyH.cons rfl (fun K hKK => ?_) AllReadyH.nil
          go_simp
          refine tlast hO hK (slots_read_p B p S ⟨5, base + 16 * tellsM k i a, loc + (2 + 18 * tellsM k i a), n, wr, rd, 1099511627776⟩ _ hP (by simp only; omega) (by simp only; omega) (by simp only; omega) (by simp only; omega)) (fun w' h => ⟨rfl, rfl, (round_stop h).imp fun S hS => ⟨by rw [Prog.run_bind_none hS.1], hS.2.1, hS.2.2.x _⟩⟩) ?_
          intro y S1 w5 hr hP1 hk1 hK1 hO1
          replace c1 := c1.keep hk1
          replace c2 := c2.keep hk1
          replace c3 := c3.keep hk1
          replace c4 := c4.keep hk1
          replace c5 := c5.keep hk1
          clear c_c1 c_c2 c_c3 c_c4 c_c5
          have c_c1 := c1.cells
          have c_c2 := c2.cells
          have c_c3 := c3.cells
          have c_c4 := c4.cells
          have c_c5 := c5.cells
          refine hKK.out _ _ ⟨c_c1, c_c2, c_c3, c_c4⟩ (fun hHeld => ?_)
          clear hKK K
          try simp only [put_pack]
          refine wpAnyH_ready (rs := [8]) (by kernel_rfl) (by simp) ?_
          refine AllReadyH.cons rfl (fun K hKK => ?_) AllReadyH.nil
          go_simp
          refine hKK.out _ _ ⟨c_c1, c_c2, c_c3, c_c4⟩ (fun hHeld => ?_)
          clear hKK K
          try simp only [put_pack]
          refine wpAnyH_ready (rs := [9]) (by kernel_rfl) (by simp) ?_
          refine AllReadyH.cons rfl (fun K hKK => ?_) AllReadyH.nil
          have f_c5 := frozen_of_heap c5.1
          go_simp
          have o5 := OneB.setCell w5 bx 0 (.int .i64 (max x y))
          have n5 := c5.2
          have d1 := c1.one o5 (fun e => n1 e) n5
          have d2 := c2.one o5 (fun e => n2 e) n5
          have d3 := c3.one o5 (fun e => n3 e) n5
          have d4 := c4.one o5 (fun e => n4 e) n5
          refine hKK.out _ _ ⟨d1.cells, d2.cells, d3.cells, d4.cells⟩ (fun hHeld => ?_)
          refine wpAnyH_done (by kernel_rfl) ?_ _
          exact ⟨max x y, S1, by rw [Prog.run_bind_some hr]; rfl, hP1.one o5 n5 (by have := hBw.out; omega), (hK1.x _).oneX o5 rfl n5 (by have := hBw.out; omega), c5.set1 _⟩
        · go_simp
          refine (tells_p ⟨kind, base, loc, n, wr, rd, top⟩ k i a _ (by omega) (by omega) (by omega) (by omega) hb1 (by simp only; omega) hl1 (by simp only; omega)).mono ?_
          rintro e w2 ⟨rfl, hx⟩
          clear c_c1 c_c2 c_c3 c_c4 c_c5
          replace hK := hK.trans (Keep.of_ext hx hP.lt hP.le)
          replace c1 := c1.ext hx hP.lt
          have c_c1 := c1.cells
          replace c2 := c2.ext hx hP.lt
          have c_c2 := c2.cells
          replace c3 := c3.ext hx hP.lt
          have c_c3 := c3.cells
          replace c4 := c4.ext hx hP.lt
          have c_c4 := c4.cells
          replace c5 := c5.ext hx hP.lt
          have c_c5 := c5.cells
          replace hP := hP.ext hx
          clear hx
          refine hKK.out _ _ ⟨c_c1, c_c2, c_c3, c_c4⟩ (fun hHeld => ?_)
          clear hKK K
          try dsimp only
          refine wpAnyH_ready (rs := [0, 7]) (by kernel_rfl) (by simp) ?_
          refine AllReadyH.cons rfl (fun K hKK => ?_) (AllReadyH.cons rfl (fun K hKK => ?_) AllReadyH.nil)
          · go_simp
            refine hKK.out _ _ ⟨c_c1, c_c2, c_c3, c_c4⟩ (fun hHeld => ?_)
            clear hKK K
            try simp only [put_pack]
            refine wpAnyH_ready (rs := [7]) (by kernel_rfl) (by simp) ?_
            refine AllReadyH.cons rfl (fun K hKK => ?_) AllReadyH.nil
            go_simp
            refine tlast hO hK (slots_read_p B p S ⟨5, base + 16 * tellsM k i a, loc + (2 + 18 * tellsM k i a), n, wr, rd, 1099511627776⟩ _ hP (by simp only; omega) (by simp only; omega) (by simp only; omega) (by simp only; omega)) (fun w' h => ⟨rfl, rfl, (round_stop h).imp fun S hS => ⟨by rw [Prog.run_bind_none hS.1], hS.2.1, hS.2.2.x _⟩⟩) ?_
            intro y S1 w5 hr hP1 hk1 hK1 hO1
            replace c1 := c1.keep hk1
            replace c2 := c2.keep hk1
            replace c3 := c3.keep hk1
            replace c4 := c4.keep hk1
            replace c5 := c5.keep hk1
            clear c_c1 c_c2 c_c3 c_c4 c_c5
            have c_c1 := c1.cells
            have c_c2 := c2.cells
            have c_c3 := c3.cells
            have c_c4 := c4.cells
            have c_c5 := c5.cells
            refine hKK.out _ _ ⟨c_c1, c_c2, c_c3, c_c4⟩ (fun hHeld => ?_)
            clear hKK K
            try simp only [put_pack]
            refine wpAnyH_ready (rs := [8]) (by kernel_rfl) (by simp) ?_
            refine AllReadyH.cons rfl (fun K hKK => ?_) AllReadyH.nil
            go_simp
            refine hKK.out _ _ ⟨c_c1, c_c2, c_c3, c_c4⟩ (fun hHeld => ?_)
            clear hKK K
            try simp only [put_pack]
            refine wpAnyH_ready (rs := [9]) (by kernel_rfl) (by simp) ?_
            refine AllReadyH.cons rfl (fun K hKK => ?_) AllReadyH.nil
            have f_c5 := frozen_of_heap c5.1
            go_simp
            have o5 := OneB.setCell w5 bx 0 (.int .i64 (max x y))
            have n5 := c5.2
            have d1 := c1.one o5 (fun e => n1 e) n5
            have d2 := c2.one o5 (fun e => n2 e) n5
            have d3 := c3.one o5 (fun e => n3 e) n5
            have d4 := c4.one o5 (fun e => n4 e) n5
            refine hKK.out _ _ ⟨d1.cells, d2.cells, d3.cells, d4.cells⟩ (fun hHeld => ?_)
            refine wpAnyH_done (by kernel_rfl) ?_ _
            exact ⟨max x y, S1, by rw [Prog.run_bind_some hr]; rfl, hP1.one o5 n5 (by have := hBw.out; omega), (hK1.x _).oneX o5 rfl n5 (by have := hBw.out; omega), c5.set1 _⟩
          · go_simp
            refine tlast hO hK (slots_read_p B p S ⟨5, base + 16 * tellsM k i a, loc + (2 + 18 * tellsM k i a), n, wr, rd, 1099511627776⟩ _ hP (by simp only; omega) (by simp only; omega) (by simp only; omega) (by simp only; omega)) (fun w' h => ⟨rfl, rfl, (round_stop h).imp fun S hS => ⟨by rw [Prog.run_bind_none hS.1], hS.2.1, hS.2.2.x _⟩⟩) ?_
            intro y S1 w5 hr hP1 hk1 hK1 hO1
            replace c1 := c1.keep hk1
            replace c2 := c2.keep hk1
            replace c3 := c3.keep hk1
            replace c4 := c4.keep hk1
            replace c5 := c5.keep hk1
            clear c_c1 c_c2 c_c3 c_c4 c_c5
            have c_c1 := c1.cells
            have c_c2 := c2.cells
            have c_c3 := c3.cells
            have c_c4 := c4.cells
            have c_c5 := c5.cells
            refine hKK.out _ _ ⟨c_c1, c_c2, c_c3, c_c4⟩ (fun hHeld => ?_)
            clear hKK K
            try simp only [put_pack]
            refine wpAnyH_ready (rs := [0]) (by kernel_rfl) (by simp) ?_
            refine AllReadyH.cons rfl (fun K hKK => ?_) AllReadyH.nil
            go_simp
            refine hKK.out _ _ ⟨c_c1, c_c2, c_c3, c_c4⟩ (fun hHeld => ?_)
            clear hKK K
            try simp only [put_pack]
            refine wpAnyH_ready (rs := [8]) (by kernel_rfl) (by simp) ?_
            refine AllReadyH.cons rfl (fun K hKK => ?_) AllReadyH.nil
            go_simp
            refine hKK.out _ _ ⟨c_c1, c_c2, c_c3, c_c4⟩ (fun hHeld => ?_)
            clear hKK K
            try simp only [put_pack]
            refine wpAnyH_ready (rs := [9]) (by kernel_rfl) (by simp) ?_
            refine AllReadyH.cons rfl (fun K hKK => ?_) AllReadyH.nil
            have f_c5 := frozen_of_heap c5.1
            go_simp
            have o5 := OneB.setCell w5 bx 0 (.int .i64 (max x y))
            have n5 := c5.2
            have d1 := c1.one o5 (fun e => n1 e) n5
            have d2 := c2.one o5 (fun e => n2 e) n5
            have d3 := c3.one o5 (fun e => n3 e) n5
            have d4 := c4.one o5 (fun e => n4 e) n5
            refine hKK.out _ _ ⟨d1.cells, d2.cells, d3.cells, d4.cells⟩ (fun hHeld => ?_)
            refine wpAnyH_done (by kernel_rfl) ?_ _
            exact ⟨max x y, S1, by rw [Prog.run_bind_some hr]; rfl, hP1.one o5 n5 (by have := hBw.out; omega), (hK1.x _).oneX o5 rfl n5 (by have := hBw.out; omega), c5.set1 _⟩
      case done =>
        intro x S W1 hO1 hX hP1 hJx hD
        have d1 := (KeepX.held b1 hX n1)
        have d2 := (KeepX.held b2 hX n2)
        have d3 := (KeepX.held b3 hX n3)
        have d4 := (KeepX.held b4 hX n4)
        have hK1 : KeepP B p w W1 := KeepX.after hK hX (fun b hb => by rw [hb]; exact lw)
        have hO2 := owes_shut hO1 hK1 hD hK.size hBw.out
        have hBW : B ≤ W1.heap.size := hP1.le
        clear hO1 hX hK1 hD b1 b2 b3 b4 b5 b6 b7 c_b1 c_b2 c_b3 c_b4 c_b5 c_b6 c_b7 hK hP hO hWW n6 n7
        generalize W0.heap.size = D1 at *
        clear W0
        have b1 := d1
        have b2 := d2
        have b3 := d3
        have b4 := d4
        have b5 : HeldP W1 p bx (.cells #[.int .i64 x] 3) := hJx
        clear d1 d2 d3 d4 hJx
        have hO := hO2
        have hK := Keep.refl [2, 3, 4] B p W1
        have hP := hP1
        clear hO2
        have c_b1 := b1.cells
        have c_b2 := b2.cells
        have c_b3 := b3.cells
        have c_b4 := b4.cells
        have c_b5 := b5.cells
        show WpF _ _ _ _ _ _
        refine wpF_seq (wpF_step fun K hK2 => ?_)
        go_wp2_with fail
        refine (ranks_p _ _ _).mono ?_
        rintro e w3 ⟨rfl, rfl⟩
        go_wp2_with fail
        have b6 := hP.held (.cells #[.int .i64 (k : Int)] 3)
        clear c_b1 c_b2 c_b3 c_b4 c_b5
        replace b1 := b1.alloc (.cells #[.int .i64 (k : Int)] 3) hP.lt
        replace b2 := b2.alloc (.cells #[.int .i64 (k : Int)] 3) hP.lt
        replace b3 := b3.alloc (.cells #[.int .i64 (k : Int)] 3) hP.lt
        replace b4 := b4.alloc (.cells #[.int .i64 (k : Int)] 3) hP.lt
        replace b5 := b5.alloc (.cells #[.int .i64 (k : Int)] 3) hP.lt
        replace hK := hK.trans (Keep.alloc (.cells #[.int .i64 (k : Int)] 3) hP.lt hP.le)
        replace hP := hP.alloc (.cells #[.int .i64 (k : Int)] 3)
        have c_b1 := b1.cells
        have c_b2 := b2.cells
        have c_b3 := b3.cells
        have c_b4 := b4.cells
        have c_b5 := b5.cells
        have c_b6 := b6.cells
        have b7 := hP.held (.cells #[.int .i64 a] 3)
        clear c_b1 c_b2 c_b3 c_b4 c_b5 c_b6
        replace b1 := b1.alloc (.cells #[.int .i64 a] 3) hP.lt
        replace b2 := b2.alloc (.cells #[.int .i64 a] 3) hP.lt
        replace b3 := b3.alloc (.cells #[.int .i64 a] 3) hP.lt
        replace b4 := b4.alloc (.cells #[.int .i64 a] 3) hP.lt
        replace b5 := b5.alloc (.cells #[.int .i64 a] 3) hP.lt
        replace b6 := b6.alloc (.cells #[.int .i64 a] 3) hP.lt
        replace hK := hK.trans (Keep.alloc (.cells #[.int .i64 a] 3) hP.lt hP.le)
        replace hP := hP.alloc (.cells #[.int .i64 a] 3)
        have c_b1 := b1.cells
        have c_b2 := b2.cells
        have c_b3 := b3.cells
        have c_b4 := b4.cells
        have c_b5 := b5.cells
        have c_b6 := b6.cells
        have c_b7 := b7.cells
        simp only [World.size_alloc] at b7 c_b7
        generalize (W1.alloc (.cells #[.int .i64 (k : Int)] 3)).alloc (.cells #[.int .i64 a] 3) = W0 at *
        refine wpF_block ?_
        refine' tape_range (T := fun i _ => slotsW (base + 16 * tellsM k a i) (loc + (2 + 18 * tellsM k a i)) x) (xs := ranksFrom a k 0) (x := ()) (fin := fun _ => .ret (unLo x (clamp top 1048576))) Tryz.func291 rfl (enters_of Tryz.func339 (by kernel_rfl) rfl) rfl (ranks_gives k a W1.heap.size (W1.heap.size + 1) (by omega))
          (fun _ => False) (fun _ _ => True) (fun _ h => h.elim) hP.le (fun W hX => ⟨(KeepX.held b6 hX id).cells 0, (KeepX.held b7 hX id).cells 0⟩) (fun _ _ _ _ h => h) (fun _ _ _ _ _ _ h => h) hO hK hP trivial
          _ ?assign2 ?body2 ?done2 ?pan2
        case assign2 =>
          intro l y W K hK
          gi_wp2
          exact hK
        case body2 =>
          intro l i u S W hi hPl hX _
          have hib := ranks_mem a k 0 i hi
          have htb := tells_bd k a i (by omega) (by omega) (by omega) (by omega)
          have c1 := (KeepX.held b1 hX id)
          have c2 := (KeepX.held b2 hX id)
          have c3 := (KeepX.held b3 hX id)
          have c4 := (KeepX.held b4 hX id)
          have c5 := (KeepX.held b5 hX id)
          have hO := owes encU B p W ((slotsW (base + 16 * tellsM k a i) (loc + (2 + 18 * tellsM k a i)) x).run S)
          have hK := Keep.refl [2, 3, 4] B p W
          have hP := hPl
          clear hPl hX b1 b2 b3 b4 b5 b6 b7 c_b1 c_b2 c_b3 c_b4 c_b5 c_b6 c_b7
          have c_c1 := c1.cells
          have c_c2 := c2.cells
          have c_c3 := c3.cells
          have c_c4 := c4.cells
          have c_c5 := c5.cells
          refine wpIn_block ?_
          replace hP := hP.drew
          replace hK := hK.drew
          replace c1 := c1.drew
          replace c2 := c2.drew
          replace c3 := c3.drew
          replace c4 := c4.drew
          replace c5 := c5.drew
          refine wpIn_region_held (S := fun W' => (∀ i : Nat, W'.cell? ⟨w.heap.size, i, none⟩ = (#[.pointer (some ⟨p, 0, none⟩)] : Array Value)[i]?) ∧ (∀ i : Nat, W'.cell? ⟨w.heap.size + 1, i, none⟩ = (#[.int .i64 kind, .int .i64 base, .int .i64 loc, .int .i64 n, .int .i64 wr, .int .i64 rd, .int .i64 top] : Array Value)[i]?) ∧ (∀ i : Nat, W'.cell? ⟨q, i, none⟩ = (#[.int .i64 a] : Array Value)[i]?) ∧ (∀ i : Nat, W'.cell? ⟨q + 1, i, none⟩ = (#[.int .i64 (k : Int)] : Array Value)[i]?) ∧ (∀ i : Nat, W'.cell? ⟨bx, i, none⟩ = (#[.int .i64 x] : Array Value)[i]?)) (by kernel_rfl) (by kernel_rfl) (fun _ _ h => h) ⟨c_c1, c_c2, c_c3, c_c4, c_c5⟩ (fun hHeld => ?_)
          refine wpAnyH_take (i := 0) (v := ?_) rfl (by kernel_rfl) (by kernel_rfl) (by kernel_rfl) (fun _ _ _ h => h) (Or.inl ⟨by kernel_rfl, ?_⟩) (by assumption) ?_
          rotate_left
          · (intro w hSw; (try dsimp only at hSw); go_simp; try with_reducible rfl)
          try simp only [put_pack]
          refine wpAnyH_take (i := 1) (v := ?_) rfl (by kernel_rfl) (by kernel_rfl) (by kernel_rfl) (fun _ _ _ h => h) (Or.inl ⟨by kernel_rfl, ?_⟩) (by assumption) ?_
          rotate_left
          · (intro w hSw; (try dsimp only at hSw); go_simp; try with_reducible rfl)
          try simp only [put_pack]
          refine wpAnyH_take (i := 2) (v := ?_) rfl (by kernel_rfl) (by kernel_rfl) (by kernel_rfl) (fun _ _ _ h => h) (Or.inl ⟨by kernel_rfl, ?_⟩) (by assumption) ?_
          rotate_left
          · (intro w hSw; (try dsimp only at hSw); go_simp; try with_reducible rfl)
          try simp only [put_pack]
          refine wpAnyH_take (i := 3) (v := ?_) rfl (by kernel_rfl) (by kernel_rfl) (by kernel_rfl) (fun _ _ _ h => h) (Or.inl ⟨by kernel_rfl, ?_⟩) (by assumption) ?_
          rotate_left
          · (intro w hSw; (try dsimp only at hSw); go_simp; try with_reducible rfl)
          try simp only [put_pack]
          refine wpAnyH_take (i := 4) (v := ?_) rfl (by kernel_rfl) (by kernel_rfl) (by kernel_rfl) (fun _ _ _ h => h) (Or.inl ⟨by kernel_rfl, ?_⟩) (by assumption) ?_
          rotate_left
          · (intro w hSw; (try dsimp only at hSw); go_simp; try with_reducible rfl)
          try simp only [put_pack]
          refine wpAnyH_take (i := 6) (v := ?_) rfl (by kernel_rfl) (by kernel_rfl) (by kernel_rfl) (fun _ _ _ h => h) (Or.inl ⟨by kernel_rfl, ?_⟩) (by assumption) ?_
          rotate_left
          · (intro w hSw; (try dsimp only at hSw); go_simp; try with_reducible rfl)
          try simp only [put_pack]
          refine wpAnyH_ready (rs := [5]) (by kernel_rfl) (by simp) ?_
          refine AllReadyH.cons rfl (fun K hKK => ?_) AllReadyH.nil
          go_simp
          refine (tells_p ⟨kind, base, loc, n, wr, rd, top⟩ k a i _ (by omega) (by omega) (by omega) (by omega) hb1 (by simp only; omega) hl1 (by simp only; omega)).mono ?_
          rintro e w2 ⟨rfl, hx⟩
          clear c_c1 c_c2 c_c3 c_c4 c_c5
          replace hK := hK.trans (Keep.of_ext hx hP.lt hP.le)
          replace c1 := c1.ext hx hP.lt
          have c_c1 := c1.cells
          replace c2 := c2.ext hx hP.lt
          have c_c2 := c2.cells
          replace c3 := c3.ext hx hP.lt
          have c_c3 := c3.cells
          replace c4 := c4.ext hx hP.lt
          have c_c4 := c4.cells
          replace c5 := c5.ext hx hP.lt
          have c_c5 := c5.cells
          replace hP := hP.ext hx
          clear hx
          refine hKK.out _ _ ⟨c_c1, c_c2, c_c3, c_c4, c_c5⟩ (fun hHeld => ?_)
          clear hKK K
          try dsimp only
          refine wpAnyH_ready (rs := [7]) (by kernel_rfl) (by simp) ?_
          refine AllReadyH.cons rfl (fun K hKK => ?_) AllReadyH.nil
          go_simp
          refine tlast hO hK (slots_write_p B p S ⟨5, base + 16 * tellsM k a i, loc + (2 + 18 * tellsM k a i), n, wr, rd, 1099511627776⟩ x _ hP (by simp only; omega) (by simp only; omega) (by simp only; omega) (by simp only; omega)) (fun w' h => ⟨rfl, rfl, (round_stop h).imp fun S hS => ⟨hS.1, hS.2.1, hS.2.2.x _⟩⟩) ?_
          intro u2 S1 w5 hr hP1 hk1 hK1 hO1
          refine hKK.out _ _ ⟨(c1.keep hk1).cells, (c2.keep hk1).cells, (c3.keep hk1).cells, (c4.keep hk1).cells, (c5.keep hk1).cells⟩ (fun hHeld => ?_)
          refine wpAnyH_done (by kernel_rfl) ?_ _
          exact ⟨u2, S1, hr, hP1, hK1.x _, trivial⟩
        case done2 =>
          intro u S W hO1 hX hP _ hD
          have c2 := (KeepX.held b2 hX id)
          have c5 := (KeepX.held b5 hX id)
          have hK1 : KeepP B p W1 W := KeepX.after hK hX (fun _ h => h.elim)
          have hO := owes_shut hO1 hK1 hD hK.size hBW
          have hK := Keep.refl [2, 3, 4] B p W
          clear hO1 hX hK1 hD b1 b2 b3 b4 b5 b6 b7 c_b1 c_b2 c_b3 c_b4 c_b5 c_b6 c_b7
          have c_c2 := c2.cells
          have c_c5 := c5.cells
          generalize W0.heap.size = D2 at *
          show WpF _ _ _ _ _ _
          refine wpF_cut (fun a0 a' W' => a' = { tmps := (((((((((a0.tmps.setIfInBounds 67 (.int .i64 x)).setIfInBounds 68 (.pointer (some ⟨w.heap.size + 1, 6, none⟩))).setIfInBounds 69 (.int .i64 top)).setIfInBounds 70 (.int .i64 (clamp top 1048576))).setIfInBounds 71 (.tuple #[.int .i64 (unHi x (clamp top 1048576)), .int .i64 (unLo x (clamp top 1048576))])).setIfInBounds 66 (.tuple #[.int .i64 (unHi x (clamp top 1048576)), .int .i64 (unLo x (clamp top 1048576))])).setIfInBounds 72 (.int .i64 (unHi x (clamp top 1048576)))).setIfInBounds 73 (.int .i64 (unLo x (clamp top 1048576)))).setIfInBounds 13 (.int .i64 (unHi x (clamp top 1048576)))).setIfInBounds 14 (.int .i64 (unLo x (clamp top 1048576))), defers := a0.defers } ∧ Plays B W' p S ∧ KeepP B p W W') ?_ ?_
          · replace hP := hP.drew
            replace hK := hK.drew
            replace c2 := c2.drew
            replace c5 := c5.drew
            refine wp_region_held_drew (S := fun W' => (∀ i : Nat, W'.cell? ⟨w.heap.size + 1, i, none⟩ = (#[.int .i64 kind, .int .i64 base, .int .i64 loc, .int .i64 n, .int .i64 wr, .int .i64 rd, .int .i64 top] : Array Value)[i]?) ∧ (∀ i : Nat, W'.cell? ⟨bx, i, none⟩ = (#[.int .i64 x] : Array Value)[i]?)) (by kernel_rfl) ⟨c_c2, c_c5⟩ (fun hHeld => ?_)
            refine wpAnyH_take (i := 0) (v := ?_) rfl (by kernel_rfl) (by kernel_rfl) (by kernel_rfl) (fun _ _ _ h => h) (Or.inl ⟨by kernel_rfl, ?_⟩) (by assumption) ?_
            rotate_left
            · (intro w hSw; (try dsimp only at hSw); go_simp; try with_reducible rfl)
            try simp only [put_pack]
            refine wpAnyH_take (i := 1) (v := ?_) rfl (by kernel_rfl) (by kernel_rfl) (by kernel_rfl) (fun _ _ _ h => h) (Or.inl ⟨by kernel_rfl, ?_⟩) (by assumption) ?_
            rotate_left
            · (intro w hSw; (try dsimp only at hSw); go_simp; try with_reducible rfl)
            try simp only [put_pack]
            refine wpAnyH_take (i := 2) (v := ?_) rfl (by kernel_rfl) (by kernel_rfl) (by kernel_rfl) (fun _ _ _ h => h) (Or.inl ⟨by kernel_rfl, ?_⟩) (by assumption) ?_
            rotate_left
            · (intro w hSw; (try dsimp only at hSw); go_simp; try with_reducible rfl)
            try simp only [put_pack]
            refine wpAnyH_ready (rs := [3]) (by kernel_rfl) (by simp) ?_
            refine AllReadyH.cons rfl (fun K hKK => ?_) AllReadyH.nil
            go_simp
            refine (clamp_p _ _ _).mono ?_
            rintro e w' ⟨rfl, rfl⟩
            refine hKK.out _ _ ⟨c_c2, c_c5⟩ (fun hHeld => ?_)
            clear hKK K
            try simp only [put_pack]
            refine wpAnyH_ready (rs := [4]) (by kernel_rfl) (by simp) ?_
            refine AllReadyH.cons rfl (fun K hKK => ?_) AllReadyH.nil
            go_simp
            refine (unpack_x _ _ _).mono ?_
            rintro e w2 ⟨rfl, hx⟩
            clear c_c2 c_c5
            replace hK := hK.trans (Keep.of_ext hx hP.lt hP.le)
            replace c2 := c2.ext hx hP.lt
            have c_c2 := c2.cells
            replace c5 := c5.ext hx hP.lt
            have c_c5 := c5.cells
            replace hP := hP.ext hx
            clear hx
            refine hKK.out _ _ ⟨c_c2, c_c5⟩ (fun hHeld => ?_)
            clear hKK K
            try simp only [put_pack]
            refine wpAnyH_take (i := 5) (v := ?_) rfl (by kernel_rfl) (by kernel_rfl) (by kernel_rfl) (fun _ _ _ h => h) (Or.inl ⟨by kernel_rfl, ?_⟩) (by assumption) ?_
            rotate_left
            · (intro w hSw; (try dsimp only at hSw); go_simp; try with_reducible rfl)
            try simp only [put_pack]
            refine wpAnyH_take (i := 6) (v := ?_) rfl (by kernel_rfl) (by kernel_rfl) (by kernel_rfl) (fun _ _ _ h => h) (Or.inl ⟨by kernel_rfl, ?_⟩) (by assumption) ?_
            rotate_left
            · (intro w hSw; (try dsimp only at hSw); go_simp; try with_reducible rfl)
            try simp only [put_pack]
            refine wpAnyH_take (i := 7) (v := ?_) rfl (by kernel_rfl) (by kernel_rfl) (by kernel_rfl) (fun _ _ _ h => h) (Or.inl ⟨by kernel_rfl, ?_⟩) (by assumption) ?_
            rotate_left
            · (intro w hSw; (try dsimp only at hSw); go_simp; try with_reducible rfl)
            try simp only [put_pack]
            refine wpAnyH_take (i := 8) (v := ?_) rfl (by kernel_rfl) (by kernel_rfl) (by kernel_rfl) (fun _ _ _ h => h) (Or.inl ⟨by kernel_rfl, ?_⟩) (by assumption) ?_
            rotate_left
            · (intro w hSw; (try dsimp only at hSw); go_simp; try with_reducible rfl)
            try simp only [put_pack]
            refine wpAnyH_take (i := 9) (v := ?_) rfl (by kernel_rfl) (by kernel_rfl) (by kernel_rfl) (fun _ _ _ h => h) (Or.inl ⟨by kernel_rfl, ?_⟩) (by assumption) ?_
            rotate_left
            · (intro w hSw; (try dsimp only at hSw); go_simp; try with_reducible rfl)
            try simp only [put_pack]
            refine wpAnyH_done (by kernel_rfl) ?_ _
            exact ⟨rfl, hP, hK⟩
          · rintro a' W' ⟨rfl, hP, hK⟩
            simp only [List.setIfInBounds_toArray, List.set_cons_zero, List.set_cons_succ]
            have hf := hO.done hP hK
            refine wpF_of_wp ?_
            go_wp2_with fail
            exact leavesM_cons (fun hx => nomatch hx) hf.1 (leavesM_cons (fun hx => nomatch hx) hf.2.1 (leavesM_ret0 (v := .int .i64 (unLo x (clamp top 1048576))) (by simp [results, Tryz.results291, go_sem]) hf.2.2))
        case pan2 =>
          intro S W c hc hO1 hX hS hD
          have hK1 : KeepP B p W1 W := KeepX.after hK hX (fun _ h => h.elim)
          have hf := hO1.stop (hS.put (.deferred none) hD.2 (by have := hP.le; omega)) (hK1.put (o := .deferred none) hK.size hD.2 hBW)
          rw [hc] at hf
          exact leavesM_cons (fun hx => nomatch hx) hD.1 (leavesM_cons (fun hx => nomatch hx) hf.1 (leavesM_panic0 hf.2))
      case pan =>
        intro S W c hc hO1 hX hS hD
        have hK1 : KeepP B p w W := KeepX.after hK hX (fun b hb => by rw [hb]; exact lw)
        refine leavesM_cons (fun hx => nomatch hx) hD.1 (leavesM_panic0 ?_)
        rw [← hc]
        exact hO1.stop (hS.put _ hD.2 (by have := hP.le; omega)) (hK1.put hK.size hD.2 hBw.out)
end Go.Proofs.YtbaajjkopdjbgaaGreat
/-
  Registers of the program: what a number that all write is made of.
-/
namespace Go.Proofs.YtbaajjkopdjbgaaGreat
open Go.RowKit Kv
theorem mthreads_p (n : Int) (w : World) (h1 : 1 ≤ n) (h2 : n ≤ 8) : Calls Tryz.prog 320 #[.int .i64 n] w fun e w' => e = .returned (.int .i64 n) ∧ w = w' := by
  go_enter Tryz.func320, Tryz.ntmps320
  go_wp2_with fail
  go_ret
  exact ⟨ret_int (by show _ = _; omega), rfl⟩
theorem mmost_p (t : Int) (w : World) : Calls Tryz.prog 332 #[.int .i64 t] w fun e w' => e = .returned (.int .i64 (clamp t 255)) ∧ w = w' := by
  go_enter Tryz.func332, Tryz.ntmps332
  go_wp2_with fail
  refine (clamp_p _ _ _).mono ?_
  rintro e w' ⟨rfl, rfl⟩
  go_wp2_with fail
  go_ret
  exact ⟨rfl, rfl⟩
theorem trlocals_p (w : World) : Calls Tryz.prog 277 #[] w fun e w' => e = .returned (.int .i64 4) ∧ w = w' := by
  go_enter Tryz.func277, Tryz.ntmps277
  go_wp2_with fail
  go_ret
  exact ⟨rfl, rfl⟩
theorem slocals_p (w : World) : Calls Tryz.prog 278 #[] w fun e w' => e = .returned (.int .i64 18) ∧ w = w' := by
  go_enter Tryz.func278, Tryz.ntmps278
  go_wp2_with fail
  refine (trlocals_p _).mono ?_
  rintro e w' ⟨rfl, rfl⟩
  go_wp2_with fail
  go_ret
  exact ⟨rfl, rfl⟩
theorem sq_bd (n : Int) (h1 : 1 ≤ n) (h2 : n ≤ 8) : 0 ≤ 18 * (n - 1) ∧ 18 * (n - 1) ≤ 126 ∧ 0 ≤ 18 * (n - 1) * (n - 1) ∧ 18 * (n - 1) * (n - 1) ≤ 882 := by
  have h4 : 0 ≤ 18 * (n - 1) * (n - 1) := Int.mul_nonneg (by omega) (by omega)
  have h5 : 18 * (n - 1) * (n - 1) ≤ 126 * 7 := Int.mul_le_mul (by omega) (by omega) (by omega) (by omega)
  omega
theorem tlocals_p (n : Int) (w : World) (h1 : 1 ≤ n) (h2 : n ≤ 8) : Calls Tryz.prog 279 #[.int .i64 n] w fun e w' => e = .returned (.int .i64 (2 + 18 * (n - 1) * (n - 1))) ∧ w = w' := by
  have hs := sq_bd n h1 h2
  go_enter Tryz.func279, Tryz.ntmps279
  go_wp2_with fail
  refine (threads_p n _ h1 h2).mono ?_
  rintro e w' ⟨rfl, rfl⟩
  go_wp2_with fail
  refine (slocals_p _).mono ?_
  rintro e w' ⟨rfl, rfl⟩
  go_wp2_with fail
  go_ret
  exact ⟨rfl, rfl⟩
theorem many_bd (n j : Int) (h1 : 1 ≤ n) (h2 : n ≤ 8) (h3 : 0 ≤ j ∧ j < n) : (0 ≤ 16 * j * (n - 1) ∧ 16 * j * (n - 1) ≤ 784) ∧ (0 ≤ 16 * j * (n - 1) * (n - 1) ∧ 16 * j * (n - 1) * (n - 1) ≤ 5488) ∧ (0 ≤ j * (2 + 18 * (n - 1) * (n - 1)) ∧ j * (2 + 18 * (n - 1) * (n - 1)) ≤ 6188) := by
  have hs := sq_bd n h1 h2
  have a1 : 0 ≤ 16 * j * (n - 1) := Int.mul_nonneg (by omega) (by omega)
  have a2 : 16 * j * (n - 1) ≤ 112 * 7 := Int.mul_le_mul (by omega) (by omega) (by omega) (by omega)
  have a3 : 0 ≤ 16 * j * (n - 1) * (n - 1) := Int.mul_nonneg a1 (by omega)
  have a4 : 16 * j * (n - 1) * (n - 1) ≤ 784 * 7 := Int.mul_le_mul (by omega) (by omega) (by omega) (by omega)
  have a5 : 0 ≤ j * (2 + 18 * (n - 1) * (n - 1)) := Int.mul_nonneg (by omega) (by omega)
  have a6 : j * (2 + 18 * (n - 1) * (n - 1)) ≤ 7 * 884 := Int.mul_le_mul (by omega) (by omega) (by omega) (by omega)
  omega
set_option maxHeartbeats 1000000 in
theorem of_p (r : Reg) (j : Int) (w : World) (h1 : 1 ≤ r.n) (h2 : r.n ≤ 8) (h3 : 0 ≤ j ∧ j < r.n) (hb1 : 0 ≤ r.base) (hb2 : r.base ≤ 50000) (hl1 : 0 ≤ r.loc) (hl2 : r.loc ≤ 49000) :
    Calls Tryz.prog 331 #[encR r, .int .i64 j] w fun e w' => e = .returned (encR ⟨6, manyB r.base r.n j, manyL r.loc r.n j, r.n, j, -1, manyTop r.top⟩) ∧ Ext w w' := by
  obtain ⟨kind, base, loc, n, wr, rd, top⟩ := r
  simp only at h1 h2 h3 hb1 hb2 hl1 hl2
  have hm := many_bd n j h1 h2 h3
  have hs := sq_bd n h1 h2
  unfold encR manyB manyL manyTop
  have c1 := cell_of_heap (heap_alloc_new w (.cells #[.int .i64 kind, .int .i64 base, .int .i64 loc, .int .i64 n, .int .i64 wr, .int .i64 rd, .int .i64 top] 67))
  have w1 := IntWalk.i64_in (16 * j) (by omega)
  have w2 := IntWalk.i64_in (n - 1) (by omega)
  have w3 := IntWalk.i64_in (16 * j * (n - 1)) (by omega)
  have w4 := IntWalk.i64_in (16 * j * (n - 1) * (n - 1)) (by omega)
  have w5 := IntWalk.i64_in (base + 16 * j * (n - 1) * (n - 1)) (by omega)
  have w6 := IntWalk.i64_in (j * (2 + 18 * (n - 1) * (n - 1))) (by omega)
  have w7 := IntWalk.i64_in (loc + j * (2 + 18 * (n - 1) * (n - 1))) (by omega)
  have hmh := Lib.hid hm
  have hsh := Lib.hid hs
  clear hm hs
  go_enter Tryz.func331, Tryz.ntmps331
  go_wp2_with fail
  refine (mthreads_p n _ h1 h2).mono ?_
  rintro e w' ⟨rfl, rfl⟩
  go_wp2_with fail
  go_region_held2 (fun w' => ∀ i : Nat, w'.cell? ⟨w.heap.size, i, none⟩ = (#[.int .i64 kind, .int .i64 base, .int .i64 loc, .int .i64 n, .int .i64 wr, .int .i64 rd, .int .i64 top] : Array Value)[i]?) (first | assumption | go_keep | (intro i; simp [*]))
    (first
      | (go_at_call 279
         refine (tlocals_p n _ h1 h2).mono ?_
         rintro e w' ⟨rfl, rfl⟩)
      | (go_at_call 332
         refine (mmost_p top _).mono ?_
         rintro e w' ⟨rfl, rfl⟩)
      | (go_at_call 327
         refine (pack_p _ _ _ _).mono ?_
         rintro e w' ⟨rfl, rfl⟩))
  go_wp2_with fail
  refine bodyPost_ret (v := .agg #[.int .i64 6, .int .i64 (base + 16 * j * (n - 1) * (n - 1)), .int .i64 (loc + j * (2 + 18 * (n - 1) * (n - 1))), .int .i64 n, .int .i64 j, .int .i64 (-1), .int .i64 (packI 4095 (clamp top 255) (clamp top 255))]) (by simp [results, Tryz.results331, go_sem]) rfl ?_
  exact ⟨rfl, (((Ext.refl _).alloc _).alloc _).drewN 1⟩
end Go.Proofs.YtbaajjkopdjbgaaGreat
/-
  Registers of the program: a number that all write, written and read.
-/
namespace Go.Proofs.YtbaajjkopdjbgaaGreat
open Go.RowKit Kv
def encP (q : Int × Int) : Value := .agg #[.int .i64 q.1, .int .i64 q.2]
@[go_sem] theorem encP_eq (q : Int × Int) : encP q = .agg #[.int .i64 q.1, .int .i64 q.2] := rfl
theorem Held.set2 {ix : List Nat} {w : World} {p b : Nat} {u v : Value} {t : TypeId} (h : Held ix w p b (.cells #[u, v] t (0, 0))) (u' v' : Value) : Held ix ((w.setCell ⟨b, 0, none⟩ u').setCell ⟨b, 1, none⟩ v') p b (.cells #[u', v'] t (0, 0)) := by
  have h1 : Held ix (w.setCell ⟨b, 0, none⟩ u') p b (.cells #[u', v] t (0, 0)) := ⟨heap_setCell h.1 u', fun h' => h.2 ((ownR_same ((OneB.setCell w b 0 u').block p (fun e => h.2 (.inl e.symm))) b).1 h')⟩
  exact ⟨heap_setCell h1.1 v', fun h' => h1.2 ((ownR_same ((OneB.setCell _ b 1 v').block p (fun e => h1.2 (.inl e.symm))) b).1 h')⟩
theorem OneB.set2 (w : World) (b : Nat) (u v : Value) : OneB b w ((w.setCell ⟨b, 0, none⟩ u).setCell ⟨b, 1, none⟩ v) :=
  ⟨rfl, rfl, rfl, by simp, fun k hk => (heap_setCell_ne _ v hk).trans (heap_setCell_ne w u hk)⟩
theorem manyRs_step (b l n top me : Int) (k : Nat) (j s v : Int) : manyRs b l n top me (k + 1) j s v = (tableR (manyB b n j) (manyL l n j) n j (manyTop top) me).bind fun y =>
      if s ≤ unHi y (clamp top 255) then manyRs b l n top me k (j + 1) (unHi y (clamp top 255)) (unLo y (clamp top 255)) else manyRs b l n top me k (j + 1) s v := rfl
set_option maxHeartbeats 2000000 in
theorem greatest_p (B p : Nat) (S : TS) (r : Reg) (me : Int) (w : World) (h : Plays B w p S) (hn1 : 1 ≤ r.n) (hn2 : r.n ≤ 8) (hm : 0 ≤ me ∧ me < r.n) (hb1 : 0 ≤ r.base) (hb2 : r.base ≤ 50000) (hl1 : 0 ≤ r.loc) (hl2 : r.loc ≤ 49000) :
    Calls Tryz.prog 330 #[.pointer (some ⟨p, 0, none⟩), encR r, .int .i64 me] w (Post encP B p w ((manyRs r.base r.loc r.n r.top me r.n.toNat 0 0 0).run S)) := by
  generalize hR : Post encP B p w ((manyRs r.base r.loc r.n r.top me r.n.toNat 0 0 0).run S) = R
  have hO : Owes R encP B p w ((manyRs r.base r.loc r.n r.top me r.n.toNat 0 0 0).run S) := hR ▸ owes _ _ _ _ _
  clear hR
  obtain ⟨kind, base, loc, n, wr', rd, top⟩ := r
  simp only at hn1 hn2 hm hb1 hb2 hl1 hl2 hO
  unfold encR
  have hK := Keep.refl [2, 3, 4] B p w
  have hP := h
  have b1 := hP.held (.cells #[.int .i64 kind, .int .i64 base, .int .i64 loc, .int .i64 n, .int .i64 wr', .int .i64 rd, .int .i64 top] 67)
  replace hK := hK.trans (Keep.alloc (.cells #[.int .i64 kind, .int .i64 base, .int .i64 loc, .int .i64 n, .int .i64 wr', .int .i64 rd, .int .i64 top] 67) hP.lt hP.le)
  replace hP := hP.alloc (.cells #[.int .i64 kind, .int .i64 base, .int .i64 loc, .int .i64 n, .int .i64 wr', .int .i64 rd, .int .i64 top] 67)
  have b2 := hP.held (.cells #[.int .i64 0, .int .i64 0] 226)
  simp only [World.size_alloc] at b2
  replace b1 := b1.alloc (.cells #[.int .i64 0, .int .i64 0] 226) hP.lt
  replace hK := hK.trans (Keep.alloc (.cells #[.int .i64 0, .int .i64 0] 226) hP.lt hP.le)
  replace hP := hP.alloc (.cells #[.int .i64 0, .int .i64 0] 226)
  have b3 := hP.held (.cells #[.int .i64 0, .int .i64 0] 226)
  simp only [World.size_alloc] at b3
  replace b1 := b1.alloc (.cells #[.int .i64 0, .int .i64 0] 226) hP.lt
  replace b2 := b2.alloc (.cells #[.int .i64 0, .int .i64 0] 226) hP.lt
  replace hK := hK.trans (Keep.alloc (.cells #[.int .i64 0, .int .i64 0] 226) hP.lt hP.le)
  replace hP := hP.alloc (.cells #[.int .i64 0, .int .i64 0] 226)
  have c_b1 := b1.cells
  have c_b2 := b2.cells
  have c_b3 := b3.cells
  have hBw := Lib.hid h.le
  clear h
  go_enter Tryz.func330, Tryz.ntmps330
  go_wp2_with fail
  refine (mthreads_p n _ hn1 hn2).mono ?_
  rintro e w' ⟨rfl, rfl⟩
  go_wp2_with fail
  obtain ⟨N, rfl⟩ : ∃ N : Nat, n = (N : Int) := ⟨n.toNat, by omega⟩
  rw [Int.toNat_natCast] at hO
  go_loopw [14] (fun z wr => ∃ (j : Nat) (s v : Int) (S : TS), z = .int .i64 j ∧ j ≤ N ∧ HeldP wr p w.heap.size (.cells #[.int .i64 kind, .int .i64 base, .int .i64 loc, .int .i64 (N : Int), .int .i64 wr', .int .i64 rd, .int .i64 top] 67) ∧ HeldP wr p (w.heap.size + 1) (.cells #[.int .i64 0, .int .i64 0] 226) ∧ HeldP wr p (w.heap.size + 1 + 1) (.cells #[.int .i64 s, .int .i64 v] 226) ∧ Plays B wr p S ∧ KeepP B p w wr ∧ Owes R encP B p w ((manyRs base loc N top me (N - j) j s v).run S)) (fun z _ => N - (intOf z).toNat)
  case atStart => exact ⟨0, 0, 0, S, rfl, by omega, b1, b2, b3, hP, hK, hO⟩
  case round =>
    clear b1 b2 b3 c_b1 c_b2 c_b3 hO hP hK
    obtain ⟨j, s, v, S, rfl, hj, b1, b2, b3, hP, hK, hO⟩ := hrel
    have c_b1 := b1.cells
    have c_b2 := b2.cells
    have c_b3 := b3.cells
    by_cases hlt : j < N
    · obtain ⟨k, hk⟩ : ∃ k, N - j = k + 1 := ⟨N - j - 1, by omega⟩
      have hkh := Lib.hid hk
      rw [hk, manyRs_step] at hO
      clear hk
      have hm2 := many_bd N j hn1 hn2 (by omega)
      go_wp2_with fail
      replace hP := hP.drew
      replace hK := hK.drew
      replace b1 := b1.drew
      replace b2 := b2.drew
      replace b3 := b3.drew
      go_region_held2 (fun w' => ∀ i : Nat, w'.cell? ⟨w.heap.size, i, none⟩ = (#[.int .i64 kind, .int .i64 base, .int .i64 loc, .int .i64 (N : Int), .int .i64 wr', .int .i64 rd, .int .i64 top] : Array Value)[i]?) (first | exact c_b1 | go_keep)
        (first
          | (go_at_call 331
             refine (of_p ⟨kind, base, loc, N, wr', rd, top⟩ j _ hn1 hn2 (by simp only; omega) hb1 hb2 hl1 hl2).mono ?_
             rintro e w2 ⟨rfl, hx⟩
             clear c_b1 c_b2 c_b3
             replace hK := hK.trans (Keep.of_ext hx hP.lt hP.le)
             replace b1 := b1.ext hx hP.lt
             have c_b1 := b1.cells
             replace b2 := b2.ext hx hP.lt
             have c_b2 := b2.cells
             replace b3 := b3.ext hx hP.lt
             have c_b3 := b3.cells
             replace hP := hP.ext hx
             clear hx)
          | (go_at_call 291
             refine tstep hO hK (table_read_p B p S ⟨6, manyB base N j, manyL loc N j, N, j, -1, manyTop top⟩ me _ hP hn1 hn2 (by simp only; omega) (by simp only; omega) hm (by simp only [manyB]; omega) (by simp only [manyB]; omega) (by simp only [manyL]; omega) (by simp only [manyL]; omega)) (fun _ h => ⟨rfl, h⟩) ?_
             clear hO hK hP c_b1 c_b2 c_b3
             intro y S w1 hr hP hk hK hO
             replace b1 := b1.keep hk
             have c_b1 := b1.cells
             replace b2 := b2.keep hk
             have c_b2 := b2.cells
             replace b3 := b3.keep hk
             have c_b3 := b3.cells
             clear hk hr)
          | (go_at_call 332
             refine (mmost_p top _).mono ?_
             rintro e w' ⟨rfl, rfl⟩)
          | (go_at_call 337
             refine (unpack_x _ _ _).mono ?_
             rintro e w2 ⟨rfl, hx⟩
             clear c_b1 c_b2 c_b3
             replace hK := hK.trans (Keep.of_ext hx hP.lt hP.le)
             replace b1 := b1.ext hx hP.lt
             have c_b1 := b1.cells
             replace b2 := b2.ext hx hP.lt
             have c_b2 := b2.cells
             replace b3 := b3.ext hx hP.lt
             have c_b3 := b3.cells
             replace hP := hP.ext hx
             clear hx))
      clear hm2
      generalize unHi y (clamp top 255) = hi at *
      generalize unLo y (clamp top 255) = lo at *
      have hks := Lib.hid hK.size
      by_cases hs : s ≤ hi
      · rw [if_pos hs] at hO
        have f_b3 := frozen_of_heap b3.1
        have hOh := Lib.hid hO
        have hPh := Lib.hid hP
        have hKh := Lib.hid hK
        clear hO hP hK
        have n3 := b3.2
        go_wp2_with fail
        have o3 := OneB.set2 w2 (w.heap.size + 1 + 1) (.int .i64 hi) (.int .i64 lo)
        refine ⟨⟨j + 1, hi, lo, S, by go_num, by omega, b1.one o3 (by omega) n3, b2.one o3 (by omega) n3, b3.set2 _ _, hPh.out.one o3 n3 (by have := hBw.out; omega), hKh.out.one o3 (by omega) n3 hBw.out, ?_⟩, by simp [intOf]; omega⟩
        rw [show N - (j + 1) = k from by have := hkh.out; omega, show ((j + 1 : Nat) : Int) = (j : Int) + 1 from by omega]
        exact hOh.out
      · rw [if_neg hs] at hO
        have hOh := Lib.hid hO
        have hPh := Lib.hid hP
        have hKh := Lib.hid hK
        clear hO hP hK
        go_wp2_with fail
        refine ⟨⟨j + 1, s, v, S, by go_num, by omega, b1, b2, b3, hPh.out, hKh.out, ?_⟩, by simp [intOf]; omega⟩
        rw [show N - (j + 1) = k from by have := hkh.out; omega, show ((j + 1 : Nat) : Int) = (j : Int) + 1 from by omega]
        exact hOh.out
    · obtain rfl : j = N := by omega
      rw [Nat.sub_self] at hO
      have f_b2 := frozen_of_heap b2.1
      have o2 := OneB.set2 wr (w.heap.size + 1) (.int .i64 s) (.int .i64 v)
      have hf : R (.returned (encP (s, v))) _ := hO.done (hP.one o2 b2.2 (by have := hBw.out; omega)) (hK.one o2 (by omega) b2.2 hBw.out)
      have hr := (b2.set2 (.int .i64 s) (.int .i64 v)).cells
      clear hO o2
      go_wp2_with fail
      exact bodyPost_ret (v := .agg #[.int .i64 s, .int .i64 v]) (by simp [results, Tryz.results330, go_sem, hr]) rfl hf
theorem unHi_bd (y t : Int) : 0 ≤ unHi y t ∧ unHi y t ≤ 4398046511104 := by
  have h1 := unX_bd y
  have h2 := room_bd t
  unfold unHi
  exact ⟨Int.ediv_nonneg h1.1 (by omega), Int.le_trans (Int.ediv_le_self _ h1.1) h1.2⟩
theorem manyRs_le (b l n top me : Int) : ∀ (k : Nat) (j s v : Int) (S : TS) (q : Int × Int) (S1 : TS), (manyRs b l n top me k j s v).run S = (some q, S1) → 0 ≤ s ∧ s ≤ 4398046511104 → 0 ≤ q.1 ∧ q.1 ≤ 4398046511104
  | 0, j, s, v, S, q, S1, h, hs => by
    cases h
    exact hs
  | k + 1, j, s, v, S, q, S1, h, hs => by
    rw [manyRs_step, Prog.run_bind] at h
    generalize (tableR (manyB b n j) (manyL l n j) n j (manyTop top) me).run S = r at h
    obtain ⟨o, S2⟩ := r
    cases o with
    | none => cases h
    | some y =>
      simp only [thenR] at h
      split at h
      · exact manyRs_le b l n top me k _ _ _ _ _ _ h (unHi_bd _ _)
      · exact manyRs_le b l n top me k _ _ _ _ _ _ h hs
set_option maxRecDepth 100000 in
theorem many_write_p (B p : Nat) (S : TS) (r : Reg) (me v : Int) (w : World) (h : Plays B w p S) (hn1 : 1 ≤ r.n) (hn2 : r.n ≤ 8) (hm : 0 ≤ me ∧ me < r.n) (hb1 : 0 ≤ r.base) (hb2 : r.base ≤ 50000) (hl1 : 0 ≤ r.loc) (hl2 : r.loc ≤ 49000) :
    Calls Tryz.prog 286 #[.pointer (some ⟨p, 0, none⟩), encR r, .int .i64 me, .int .i64 v] w (Post encU B p w ((manyW r.base r.loc r.n r.top me v).run S)) := by
  generalize hR : Post encU B p w ((manyW r.base r.loc r.n r.top me v).run S) = R
  have hO : Owes R encU B p w ((manyW r.base r.loc r.n r.top me v).run S) := hR ▸ owes _ _ _ _ _
  clear hR
  obtain ⟨kind, base, loc, n, wr, rd, top⟩ := r
  simp only at hn1 hn2 hm hb1 hb2 hl1 hl2 hO
  unfold encR
  have hK := Keep.refl [2, 3, 4] B p w
  have hP := h
  have b1 := hP.held (.cells #[.int .i64 kind, .int .i64 base, .int .i64 loc, .int .i64 n, .int .i64 wr, .int .i64 rd, .int .i64 top] 67)
  replace hK := hK.trans (Keep.alloc (.cells #[.int .i64 kind, .int .i64 base, .int .i64 loc, .int .i64 n, .int .i64 wr, .int .i64 rd, .int .i64 top] 67) hP.lt hP.le)
  replace hP := hP.alloc (.cells #[.int .i64 kind, .int .i64 base, .int .i64 loc, .int .i64 n, .int .i64 wr, .int .i64 rd, .int .i64 top] 67)
  have c_b1 := b1.cells
  clear h
  unfold manyW at hO
  have hd1 : decide (me < 0) = false := by simpa using hm.1
  have hd2 : decide (n ≤ me) = false := by simpa using hm.2
  go_enter Tryz.func286, Tryz.ntmps286
  go_wp2_with fail
  refine (mthreads_p n _ hn1 hn2).mono ?_
  rintro e w' ⟨rfl, rfl⟩
  go_wp2_with fail
  refine tstep hO hK (greatest_p B p S ⟨kind, base, loc, n, wr, rd, top⟩ me _ hP hn1 hn2 hm hb1 hb2 hl1 hl2) (fun _ h => ⟨rfl, h⟩) ?_
  clear hO hK hP c_b1
  intro q S w1 hr hP hk hK hO
  replace b1 := b1.keep hk
  have c_b1 := b1.cells
  have hq := manyRs_le _ _ _ _ _ _ _ _ _ _ _ _ hr (by omega)
  obtain ⟨q1, q2⟩ := q
  simp only at hq hO
  have hq1 := IntWalk.i64_in (q1 + 1) (by omega)
  have hm2 := many_bd n me hn1 hn2 hm
  clear hk hr
  have hfd : ∀ w : World, (Instr.field 226 (.agg #[.int .i64 q1, .int .i64 q2]) 0).run Tryz.prog w = .ok (.int .i64 q1) w := fun _ => by kernel_rfl
  rw [encP_eq]
  go_wp2_with fail
  replace hP := hP.drew
  replace hK := hK.drew
  replace b1 := b1.drew
  go_region_held2 (fun w' => ∀ i : Nat, w'.cell? ⟨w.heap.size, i, none⟩ = (#[.int .i64 kind, .int .i64 base, .int .i64 loc, .int .i64 n, .int .i64 wr, .int .i64 rd, .int .i64 top] : Array Value)[i]?) (first | exact c_b1 | go_keep)
    (first
      | (go_at_call 331
         refine (of_p ⟨kind, base, loc, n, wr, rd, top⟩ me _ hn1 hn2 (by simp only; omega) hb1 hb2 hl1 hl2).mono ?_
         rintro e w2 ⟨rfl, hx⟩
         clear c_b1
         replace hK := hK.trans (Keep.of_ext hx hP.lt hP.le)
         replace b1 := b1.ext hx hP.lt
         have c_b1 := b1.cells
         replace hP := hP.ext hx
         clear hx)
      | (go_at_call 332
         refine (mmost_p top _).mono ?_
         rintro e w' ⟨rfl, rfl⟩)
      | (go_at_call 311
         refine (clamp_p _ _ _).mono ?_
         rintro e w' ⟨rfl, rfl⟩)
      | (go_at_call 327
         refine (pack_p _ _ _ _).mono ?_
         rintro e w' ⟨rfl, rfl⟩)
      | (go_at_call 285
         refine tlast hO hK (table_write_p B p S ⟨6, manyB base n me, manyL loc n me, n, me, -1, manyTop top⟩ me _ _ hP hn1 hn2 (by simp only; omega) (by simp only; omega) (by simp only [manyB]; omega) (by simp only [manyB]; omega) (by simp only [manyL]; omega) (by simp only [manyL]; omega)) (fun _ h => ⟨rfl, h⟩) ?_
         clear hO hK hP c_b1
         intro y S w1 hr hP hk hK hO
         replace b1 := b1.keep hk
         have c_b1 := b1.cells
         clear hk hr))
  go_wp2_with fail
  first | go_end0 | refine bodyPost_ret (results_none rfl _ _ _) rfl ?_
  exact hO.done hP hK
set_option maxRecDepth 100000 in
theorem many_read_p (B p : Nat) (S : TS) (r : Reg) (me : Int) (w : World) (h : Plays B w p S) (hn1 : 1 ≤ r.n) (hn2 : r.n ≤ 8) (hm : 0 ≤ me ∧ me < r.n) (hb1 : 0 ≤ r.base) (hb2 : r.base ≤ 50000) (hl1 : 0 ≤ r.loc) (hl2 : r.loc ≤ 49000) :
    Calls Tryz.prog 292 #[.pointer (some ⟨p, 0, none⟩), encR r, .int .i64 me] w (Post encI B p w ((manyR r.base r.loc r.n r.top me).run S)) := by
  generalize hR : Post encI B p w ((manyR r.base r.loc r.n r.top me).run S) = R
  have hO : Owes R encI B p w ((manyR r.base r.loc r.n r.top me).run S) := hR ▸ owes _ _ _ _ _
  clear hR
  obtain ⟨kind, base, loc, n, wr, rd, top⟩ := r
  simp only at hn1 hn2 hm hb1 hb2 hl1 hl2 hO
  unfold encR
  have hK := Keep.refl [2, 3, 4] B p w
  have hP := h
  have b1 := hP.held (.cells #[.int .i64 kind, .int .i64 base, .int .i64 loc, .int .i64 n, .int .i64 wr, .int .i64 rd, .int .i64 top] 67)
  replace hK := hK.trans (Keep.alloc (.cells #[.int .i64 kind, .int .i64 base, .int .i64 loc, .int .i64 n, .int .i64 wr, .int .i64 rd, .int .i64 top] 67) hP.lt hP.le)
  replace hP := hP.alloc (.cells #[.int .i64 kind, .int .i64 base, .int .i64 loc, .int .i64 n, .int .i64 wr, .int .i64 rd, .int .i64 top] 67)
  have c_b1 := b1.cells
  clear h
  unfold manyR at hO
  have hd1 : decide (me < 0) = false := by simpa using hm.1
  have hd2 : decide (n ≤ me) = false := by simpa using hm.2
  go_enter Tryz.func292, Tryz.ntmps292
  go_wp2_with fail
  refine (mthreads_p n _ hn1 hn2).mono ?_
  rintro e w' ⟨rfl, rfl⟩
  go_wp2_with fail
  refine tstep hO hK (greatest_p B p S ⟨kind, base, loc, n, wr, rd, top⟩ me _ hP hn1 hn2 hm hb1 hb2 hl1 hl2) (fun _ h => ⟨rfl, h⟩) ?_
  clear hO hK hP c_b1
  intro q S w1 hr hP hk hK hO
  replace b1 := b1.keep hk
  have c_b1 := b1.cells
  clear hk hr
  obtain ⟨q1, q2⟩ := q
  simp only at hO
  have hfd : ∀ w : World, (Instr.field 226 (.agg #[.int .i64 q1, .int .i64 q2]) 1).run Tryz.prog w = .ok (.int .i64 q2) w := fun _ => by kernel_rfl
  rw [encP_eq]
  go_wp2_with fail
  exact hO.done hP hK
end Go.Proofs.YtbaajjkopdjbgaaGreat
/-
  Registers of the program: writing and reading one, of whichever kind.
-/
namespace Go.Proofs.YtbaajjkopdjbgaaGreat
open Go.RowKit Kv
set_option maxRecDepth 100000 in
set_option maxHeartbeats 2000000 in
theorem reg_write_p (B p : Nat) (S : TS) (r : Reg) (me v : Int) (w : World) (h : Plays B w p S) (hr : r.ok) (hm : 0 ≤ me ∧ me < r.n) :
    Calls Tryz.prog 229 #[.pointer (some ⟨p, 0, none⟩), encR r, .int .i64 me, .int .i64 v] w (Post encU B p w ((regW r me v).run S)) := by
  generalize hR : Post encU B p w ((regW r me v).run S) = R
  have hO : Owes R encU B p w ((regW r me v).run S) := hR ▸ owes _ _ _ _ _
  clear hR
  obtain ⟨hk, hb, hl, hn, hw⟩ := hr
  obtain ⟨kind, base, loc, n, wr, rd, top⟩ := r
  simp only at hk hb hl hn hw hm hO
  unfold encR
  have hK := Keep.refl [2, 3, 4] B p w
  have hP := h
  have b1 := hP.held (.cells #[.int .i64 kind, .int .i64 base, .int .i64 loc, .int .i64 n, .int .i64 wr, .int .i64 rd, .int .i64 top] 67)
  replace hK := hK.trans (Keep.alloc (.cells #[.int .i64 kind, .int .i64 base, .int .i64 loc, .int .i64 n, .int .i64 wr, .int .i64 rd, .int .i64 top] 67) hP.lt hP.le)
  replace hP := hP.alloc (.cells #[.int .i64 kind, .int .i64 base, .int .i64 loc, .int .i64 n, .int .i64 wr, .int .i64 rd, .int .i64 top] 67)
  have c_b1 := b1.cells
  clear h
  unfold regW at hO
  simp only at hO
  rcases hk with rfl | rfl | rfl
  · simp at hO
    go_enter Tryz.func229, Tryz.ntmps229
    go_wp2_with fail
    refine tlast hO hK (write_p B p S _ _ _ hP) (fun _ h => ⟨rfl, h⟩) ?_
    clear hO hK hP c_b1
    intro u S w1 hr hP hk hK hO
    replace b1 := b1.keep hk
    have c_b1 := b1.cells
    clear hk hr
    go_wp2_with fail
    first | go_end0 | refine bodyPost_ret (results_none rfl _ _ _) rfl ?_
    exact hO.done hP hK
  · simp at hO
    obtain ⟨hw1, hw2⟩ := hw rfl
    clear hw
    go_enter Tryz.func229, Tryz.ntmps229
    go_wp2_with fail
    refine tlast hO hK (table_write_p B p S ⟨6, base, loc, n, wr, rd, top⟩ me v _ hP hn.1 hn.2 hw1 hw2 hb.1 (by simp only; omega) hl.1 (by simp only; omega)) (fun _ h => ⟨rfl, h⟩) ?_
    clear hO hK hP c_b1
    intro u S w1 hr hP hk hK hO
    replace b1 := b1.keep hk
    have c_b1 := b1.cells
    clear hk hr
    go_wp2_with fail
    first | go_end0 | refine bodyPost_ret (results_none rfl _ _ _) rfl ?_
    exact hO.done hP hK
  · simp at hO
    go_enter Tryz.func229, Tryz.ntmps229
    go_wp2_with fail
    refine tlast hO hK (many_write_p B p S ⟨7, base, loc, n, wr, rd, top⟩ me v _ hP hn.1 hn.2 hm hb.1 (by simp only; omega) hl.1 (by simp only; omega)) (fun _ h => ⟨rfl, h⟩) ?_
    clear hO hK hP c_b1
    intro u S w1 hr hP hk hK hO
    replace b1 := b1.keep hk
    have c_b1 := b1.cells
    clear hk hr
    go_wp2_with fail
    first | go_end0 | refine bodyPost_ret (results_none rfl _ _ _) rfl ?_
    exact hO.done hP hK
set_option maxRecDepth 100000 in
set_option maxHeartbeats 2000000 in
theorem reg_read_p (B p : Nat) (S : TS) (r : Reg) (me : Int) (w : World) (h : Plays B w p S) (hr : r.ok) (hm : 0 ≤ me ∧ me < r.n) :
    Calls Tryz.prog 230 #[.pointer (some ⟨p, 0, none⟩), encR r, .int .i64 me] w (Post encI B p w ((regR r me).run S)) := by
  generalize hR : Post encI B p w ((regR r me).run S) = R
  have hO : Owes R encI B p w ((regR r me).run S) := hR ▸ owes _ _ _ _ _
  clear hR
  obtain ⟨hk, hb, hl, hn, hw⟩ := hr
  obtain ⟨kind, base, loc, n, wr, rd, top⟩ := r
  simp only at hk hb hl hn hw hm hO
  unfold encR
  have hK := Keep.refl [2, 3, 4] B p w
  have hP := h
  have b1 := hP.held (.cells #[.int .i64 kind, .int .i64 base, .int .i64 loc, .int .i64 n, .int .i64 wr, .int .i64 rd, .int .i64 top] 67)
  replace hK := hK.trans (Keep.alloc (.cells #[.int .i64 kind, .int .i64 base, .int .i64 loc, .int .i64 n, .int .i64 wr, .int .i64 rd, .int .i64 top] 67) hP.lt hP.le)
  replace hP := hP.alloc (.cells #[.int .i64 kind, .int .i64 base, .int .i64 loc, .int .i64 n, .int .i64 wr, .int .i64 rd, .int .i64 top] 67)
  have c_b1 := b1.cells
  clear h
  unfold regR at hO
  simp only at hO
  rcases hk with rfl | rfl | rfl
  · simp at hO
    go_enter Tryz.func230, Tryz.ntmps230
    go_wp2_with fail
    refine tlast hO hK (read_p B p S _ _ hP) (fun _ h => ⟨rfl, h⟩) ?_
    clear hO hK hP c_b1
    intro x S w1 hr hP hk hK hO
    replace b1 := b1.keep hk
    have c_b1 := b1.cells
    clear hk hr
    go_wp2_with fail
    exact hO.done hP hK
  · simp at hO
    obtain ⟨hw1, hw2⟩ := hw rfl
    clear hw
    go_enter Tryz.func230, Tryz.ntmps230
    go_wp2_with fail
    refine tlast hO hK (table_read_p B p S ⟨6, base, loc, n, wr, rd, top⟩ me _ hP hn.1 hn.2 hw1 hw2 hm hb.1 (by simp only; omega) hl.1 (by simp only; omega)) (fun _ h => ⟨rfl, h⟩) ?_
    clear hO hK hP c_b1
    intro x S w1 hr hP hk hK hO
    replace b1 := b1.keep hk
    have c_b1 := b1.cells
    clear hk hr
    go_wp2_with fail
    exact hO.done hP hK
  · simp at hO
    go_enter Tryz.func230, Tryz.ntmps230
    go_wp2_with fail
    refine tlast hO hK (many_read_p B p S ⟨7, base, loc, n, wr, rd, top⟩ me _ hP hn.1 hn.2 hm hb.1 (by simp only; omega) hl.1 (by simp only; omega)) (fun _ h => ⟨rfl, h⟩) ?_
    clear hO hK hP c_b1
    intro x S w1 hr hP hk hK hO
    replace b1 := b1.keep hk
    have c_b1 := b1.cells
    clear hk hr
    go_wp2_with fail
    exact hO.done hP hK
end Go.Proofs.YtbaajjkopdjbgaaGreat
/-
  The document's Mem: what it owns, and how its fields change.
-/
namespace Go.Proofs.YtbaajjkopdjbgaaGreat
open Go.RowKit Kv
/-- The document's Mem at p is at S: `n` accesses were answered, `o` tells whether it is over. -/
structure RMem (B : Nat) (w : World) (p : Nat) (S : TS) (n : Nat) (o : Bool) (vA vC vN vL : Value) (L : List Int) : Prop where
  ge : B ≤ p
  heap : w.heap[p]? = some (.cells #[vA, .int .i64 n, .bool o, vC, vN, vL] 49 (0, 0))
  ans : Ints w vA S.ans
  ansB : ∀ b, vA.ownBlock = some b → b < B
  rowL : w.ownsRow B 3 1 vL L.length (L.map (Value.int .i64))
  rowC : w.ownsRow B 112 3 vC S.acc.length (accVals S.acc)
  rowN : w.ownsRow B 114 2 vN S.nts.length (ntVals S.nts)
  loc : LocIs L S.loc
  locN : L.length ≤ 32768
  accN : S.acc.length ≤ S.ans.length + 1
  ansN : S.ans.length ≤ maxAns
  ntsN : S.nts.length ≤ maxAns
/-- The document's Mem at p is at S, over or not. -/
def RAt (B : Nat) (w : World) (p : Nat) (o : Bool) (S : TS) : Prop := ∃ n vA vC vN vL L, RMem B w p S n o vA vC vN vL L ∧ n = min S.acc.length S.ans.length ∧ o = decide (S.ans.length < S.acc.length)
abbrev KeepR (B p : Nat) (w w' : World) : Prop := Keep [3, 4, 5] B p w w'
abbrev HeldR (w : World) (p b : Nat) (o : Obj) : Prop := Held [3, 4, 5] w p b o
section
variable {B p : Nat} {w w' w1 : World} {S : TS} {n : Nat} {o : Bool} {vA vL vC vN : Value} {L : List Int}
theorem RMem.lt (h : RMem B w p S n o vA vC vN vL L) : p < w.heap.size := (Array.getElem?_eq_some_iff.1 h.heap).1
theorem RMem.own (h : RMem B w p S n o vA vC vN vL L) {b : Nat} (hb : ownR [3, 4, 5] w p b) : B ≤ b ∧ b < w.heap.size := by
  rcases hb with rfl | ⟨i, hi, v, hv, hvb⟩
  · exact ⟨h.ge, h.lt⟩
  · have e := cell_of_heap h.heap i
    simp only [List.mem_cons, List.not_mem_nil, or_false] at hi
    rcases hi with rfl | rfl | rfl
    · obtain rfl : vC = v := by rw [e] at hv; simpa using hv
      exact h.rowC.lt b hvb
    · obtain rfl : vN = v := by rw [e] at hv; simpa using hv
      exact h.rowN.lt b hvb
    · obtain rfl : vL = v := by rw [e] at hv; simpa using hv
      exact h.rowL.lt b hvb
theorem RMem.ext (h : RMem B w p S n o vA vC vN vL L) (hx : Ext w w') : RMem B w' p S n o vA vC vN vL L :=
  { h with heap := (Below.block hx p h.lt).trans h.heap, ans := h.ans.ext hx, rowL := row_ext h.rowL hx, rowC := row_ext h.rowC hx, rowN := row_ext h.rowN hx }
theorem RAt.ext (h : RAt B w p o S) (hx : Ext w w') : RAt B w' p o S := by
  obtain ⟨n, vA, vC, vN, vL, L, h, h0⟩ := h
  exact ⟨n, vA, vC, vN, vL, L, h.ext hx, h0⟩
theorem RAt.alloc (h : RAt B w p o S) (ob : Obj) : RAt B (w.alloc ob) p o S := h.ext ((Ext.refl w).alloc ob)
theorem RAt.lt (h : RAt B w p o S) : p < w.heap.size := by obtain ⟨_, _, _, _, _, _, h, _⟩ := h; exact h.lt
theorem RAt.le (h : RAt B w p o S) : B ≤ w.heap.size := by obtain ⟨_, _, _, _, _, _, h, _⟩ := h; have := h.lt; have := h.ge; omega
theorem RAt.held (h : RAt B w p o S) (ob : Obj) : HeldR (w.alloc ob) p w.heap.size ob := by
  refine ⟨heap_alloc_new w ob, fun ho => ?_⟩
  obtain ⟨_, _, _, _, _, _, h, _⟩ := h
  have h1 := (ownR_same (w := w) (Below.heap_alloc w ob p h.lt) _).1 ho
  have := (h.own h1).2
  omega
theorem RMem.cNe (h : RMem B w p S n o vA vC vN vL L) : vL.ownBlock ≠ some p ∧ vC.ownBlock ≠ some p ∧ vN.ownBlock ≠ some p :=
  ⟨row_not h.rowL h.heap (by decide), row_not h.rowC h.heap (by decide), row_not h.rowN h.heap (by decide)⟩
theorem RMem.told (h : RMem B w p S n o vA vC vN vL L) (m : Nat) : RMem B (w.setCell ⟨p, 1, none⟩ (.int .i64 m)) p S m o vA vC vN vL L ∧ KeepR B p w (w.setCell ⟨p, 1, none⟩ (.int .i64 m)) := by
  obtain ⟨nL, nC, nN⟩ := h.cNe
  refine ⟨{ h with heap := heap_setCell h.heap _, ans := ints_set h.ans _ _ ?_, rowL := row_set h.rowL nL, rowC := row_set h.rowC nC, rowN := row_set h.rowN nN }, ?_⟩
  · intro b hb
    have := h.ansB b hb
    have := h.ge
    show b ≠ p
    omega
  · exact keep_field (row := none) h.ge h.heap (World.grownBy.refl _ _) (fun b hb => by cases hb) (by simp) rfl (fun b hb => by simp [Value.ownBlock] at hb)
theorem RMem.ended (h : RMem B w p S n o vA vC vN vL L) (o' : Bool) : RMem B (w.setCell ⟨p, 2, none⟩ (.bool o')) p S n o' vA vC vN vL L ∧ KeepR B p w (w.setCell ⟨p, 2, none⟩ (.bool o')) := by
  obtain ⟨nL, nC, nN⟩ := h.cNe
  refine ⟨{ h with heap := heap_setCell h.heap _, ans := ints_set h.ans _ _ ?_, rowL := row_set h.rowL nL, rowC := row_set h.rowC nC, rowN := row_set h.rowN nN }, ?_⟩
  · intro b hb
    have := h.ansB b hb
    have := h.ge
    show b ≠ p
    omega
  · exact keep_field (row := none) h.ge h.heap (World.grownBy.refl _ _) (fun b hb => by cases hb) (by simp) rfl (fun b hb => by simp [Value.ownBlock] at hb)
theorem RMem.grewC (h : RMem B w p S n o vA vC vN vL L) (a : Acc) {g cap : Nat} (hg : w.grownBy w1 vC.ownBlock) (hat : vC.ownBlock = some g ∨ w.heap.size ≤ g)
    (hown : w1.ownsRow B 112 3 (.slice (some ⟨g, 0, none⟩) (S.acc.length + 1) cap) (S.acc.length + 1) (accVals S.acc ++ [.int .i64 a.kind, .int .i64 a.cell, .int .i64 a.val])) (hl : S.acc.length ≤ S.ans.length) :
    RMem B (w1.setCell ⟨p, 3, none⟩ (.slice (some ⟨g, 0, none⟩) (S.acc.length + 1) cap)) p (S.put a) n o vA (.slice (some ⟨g, 0, none⟩) (S.acc.length + 1) cap) vN vL L ∧
      KeepR B p w (w1.setCell ⟨p, 3, none⟩ (.slice (some ⟨g, 0, none⟩) (S.acc.length + 1) cap)) := by
  obtain ⟨nL, nC, nN⟩ := h.cNe
  have hp1 := grown_heap h.heap nC hg
  have hgp : (Value.slice (some ⟨g, 0, none⟩) (S.acc.length + 1) cap).ownBlock ≠ some p := row_not hown hp1 (by decide)
  refine ⟨?_, ?_⟩
  · refine { ge := h.ge, heap := heap_setCell hp1 _, ans := ints_set (ints_grown h.ans hg ?_) _ _ ?_, ansB := h.ansB, rowL := row_set (h.rowL.kept hg (rows_apart h.rowL h.rowC (by decide))) nL, rowC := ?_, rowN := row_set (h.rowN.kept hg (rows_apart h.rowN h.rowC (by decide))) nN, loc := h.loc, locN := h.locN, accN := ?_, ansN := h.ansN, ntsN := h.ntsN }
    · intro b hb e
      have := h.ansB b hb
      have := (h.rowC.lt b e).1
      omega
    · intro b hb
      have := h.ansB b hb
      have := h.ge
      show b ≠ p
      omega
    · have e : (S.put a).acc = S.acc ++ [a] := rfl
      rw [e, accVals_snoc, List.length_append, List.length_singleton]
      exact row_set hown hgp
    · have e : (S.put a).acc = S.acc ++ [a] := rfl
      rw [e, List.length_append, List.length_singleton]
      show S.acc.length + 1 ≤ S.ans.length + 1
      omega
  · refine keep_field h.ge h.heap hg (fun b hb => ⟨(h.rowC.lt b hb).1, ownR_at h.heap (by simp) (i := 3) rfl hb⟩) nC rfl fun b hb => ?_
    obtain rfl : g = b := by simpa [Value.ownBlock] using hb
    rcases hat with h1 | h1
    · exact .inl (ownR_at h.heap (by simp) (i := 3) rfl h1)
    · exact .inr h1
theorem RMem.grewN (h : RMem B w p S n o vA vC vN vL L) (k : Int) {g cap : Nat} (hg : w.grownBy w1 vN.ownBlock) (hat : vN.ownBlock = some g ∨ w.heap.size ≤ g)
    (hown : w1.ownsRow B 114 2 (.slice (some ⟨g, 0, none⟩) (S.nts.length + 1) cap) (S.nts.length + 1) (ntVals S.nts ++ [.int .i64 k, .int .i64 (S.acc.length : Nat)])) (hl : S.nts.length < maxAns) :
    RMem B (w1.setCell ⟨p, 4, none⟩ (.slice (some ⟨g, 0, none⟩) (S.nts.length + 1) cap)) p (S.noted k) n o vA vC (.slice (some ⟨g, 0, none⟩) (S.nts.length + 1) cap) vL L ∧
      KeepR B p w (w1.setCell ⟨p, 4, none⟩ (.slice (some ⟨g, 0, none⟩) (S.nts.length + 1) cap)) := by
  obtain ⟨nL, nC, nN⟩ := h.cNe
  have hp1 := grown_heap h.heap nN hg
  have hgp : (Value.slice (some ⟨g, 0, none⟩) (S.nts.length + 1) cap).ownBlock ≠ some p := row_not hown hp1 (by decide)
  refine ⟨?_, ?_⟩
  · refine { ge := h.ge, heap := heap_setCell hp1 _, ans := ints_set (ints_grown h.ans hg ?_) _ _ ?_, ansB := h.ansB, rowL := row_set (h.rowL.kept hg (rows_apart h.rowL h.rowN (by decide))) nL, rowN := ?_, rowC := row_set (h.rowC.kept hg (rows_apart h.rowC h.rowN (by decide))) nC, loc := h.loc, locN := h.locN, accN := h.accN, ansN := h.ansN, ntsN := ?_ }
    · intro b hb e
      have := h.ansB b hb
      have := (h.rowN.lt b e).1
      omega
    · intro b hb
      have := h.ansB b hb
      have := h.ge
      show b ≠ p
      omega
    · have e : (S.noted k).nts = S.nts ++ [⟨k, (S.acc.length : Int)⟩] := rfl
      rw [e, ntVals_snoc, List.length_append, List.length_singleton]
      exact row_set hown hgp
    · have e : (S.noted k).nts = S.nts ++ [⟨k, (S.acc.length : Int)⟩] := rfl
      rw [e, List.length_append, List.length_singleton]
      omega
  · refine keep_field h.ge h.heap hg (fun b hb => ⟨(h.rowN.lt b hb).1, ownR_at h.heap (by simp) (i := 4) rfl hb⟩) nN rfl fun b hb => ?_
    obtain rfl : g = b := by simpa [Value.ownBlock] using hb
    rcases hat with h1 | h1
    · exact .inl (ownR_at h.heap (by simp) (i := 4) rfl h1)
    · exact .inr h1
theorem RMem.stored {g cap : Nat} (h : RMem B w p S n o vA vC vN (.slice (some ⟨g, 0, none⟩) L.length cap) L) (i : Nat) (hi : i < L.length) (v : Int) :
    RMem B (w.setCell ⟨g, i, none⟩ (.int .i64 v)) p (S.upd i v) n o vA vC vN (.slice (some ⟨g, 0, none⟩) L.length cap) (L.set i v) ∧ KeepR B p w (w.setCell ⟨g, i, none⟩ (.int .i64 v)) := by
  obtain ⟨nL, nC, nN⟩ := h.cNe
  have hgp : g ≠ p := fun e => nL (by rw [e]; rfl)
  obtain ⟨hs1, hs2⟩ := h.rowL.stored i (.int .i64 v)
  have hlt := h.locN
  have hu := TS.upd_in (S := S) (show i < 32768 by omega) v
  have hgB := (h.rowL.lt g rfl).1
  refine ⟨{ ge := h.ge, heap := ?_, ans := ?_, ansB := h.ansB, rowL := ?_, rowC := ?_, rowN := ?_, loc := ?_, locN := by simpa using h.locN, accN := ?_, ansN := ?_, ntsN := ?_ }, ?_⟩
  · rw [heap_setCell_ne _ _ (Ne.symm hgp)]; exact h.heap
  · rw [hu]
    exact ints_set h.ans _ _ (fun b hb => by have := h.ansB b hb; show b ≠ g; omega)
  · rw [List.map_set, List.length_set]; exact hs1
  · rw [hu]
    exact row_set h.rowC (fun e => by
      have := rows_apart h.rowC h.rowL (by decide)
      rw [e] at this
      simp [Value.ownBlock] at this)
  · rw [hu]
    exact row_set h.rowN (fun e => by
      have := rows_apart h.rowN h.rowL (by decide)
      rw [e] at this
      simp [Value.ownBlock] at this)
  · rw [hu]; exact h.loc.set i hi v
  · rw [hu]; exact h.accN
  · rw [hu]; exact h.ansN
  · rw [hu]; exact h.ntsN
  · have ho : ownR [3, 4, 5] w p g := ownR_at h.heap (by simp) (i := 5) rfl rfl
    refine ⟨⟨rfl, rfl, rfl, by simp, fun k hk => heap_setCell_ne _ _ (by omega)⟩, fun b hb hn => ⟨heap_setCell_ne _ _ (fun e => hn (e ▸ ho)), fun h' => hn ?_⟩⟩
    exact (ownR_same (heap_setCell_ne _ _ (Ne.symm hgp)) b).1 h'
/-- The row of the locals grew by a nought. -/
theorem RMem.grewL (h : RMem B w p S n o vA vC vN vL L) {g cap : Nat} (hg : w.grownBy w1 vL.ownBlock) (hat : vL.ownBlock = some g ∨ w.heap.size ≤ g)
    (hown : w1.ownsRow B 3 1 (.slice (some ⟨g, 0, none⟩) (L.length + 1) cap) (L.length + 1) (L.map (Value.int .i64) ++ [Value.int .i64 0])) (hl : L.length + 1 ≤ 32768) :
    RMem B (w1.setCell ⟨p, 5, none⟩ (.slice (some ⟨g, 0, none⟩) (L.length + 1) cap)) p S n o vA vC vN (.slice (some ⟨g, 0, none⟩) (L.length + 1) cap) (L ++ [0]) ∧
      KeepR B p w (w1.setCell ⟨p, 5, none⟩ (.slice (some ⟨g, 0, none⟩) (L.length + 1) cap)) := by
  obtain ⟨nL, nC, nN⟩ := h.cNe
  have hp1 := grown_heap h.heap nL hg
  have hgp : (Value.slice (some ⟨g, 0, none⟩) (L.length + 1) cap).ownBlock ≠ some p := row_not hown hp1 (by decide)
  refine ⟨?_, ?_⟩
  · refine { ge := h.ge, heap := heap_setCell hp1 _, ans := ints_set (ints_grown h.ans hg ?_) _ _ ?_, ansB := h.ansB, rowC := row_set (h.rowC.kept hg (rows_apart h.rowC h.rowL (by decide))) nC, rowL := ?_, rowN := row_set (h.rowN.kept hg (rows_apart h.rowN h.rowL (by decide))) nN, loc := h.loc.zeros 1, locN := by simpa using hl, accN := h.accN, ansN := h.ansN, ntsN := h.ntsN }
    · intro b hb e
      have := h.ansB b hb
      have := (h.rowL.lt b e).1
      omega
    · intro b hb
      have := h.ansB b hb
      have := h.ge
      show b ≠ p
      omega
    · rw [List.length_append, List.length_singleton, List.map_append]
      exact row_set hown hgp
  · refine keep_field h.ge h.heap hg (fun b hb => ⟨(h.rowL.lt b hb).1, ownR_at h.heap (by simp) (i := 5) rfl hb⟩) nL rfl fun b hb => ?_
    obtain rfl : g = b := by simpa [Value.ownBlock] using hb
    rcases hat with h1 | h1
    · exact .inl (ownR_at h.heap (by simp) (i := 5) rfl h1)
    · exact .inr h1
end
end Go.Proofs.YtbaajjkopdjbgaaGreat
/-
  Operations of the document on its Mem: an access, a local got.
-/
namespace Go.Proofs.YtbaajjkopdjbgaaGreat
open Go.RowKit Kv
section
variable {α β : Type} {B p : Nat} {w0 w : World} {o : Bool} {S : TS} {R : Ending → World → Prop}
/-- How a call of the document ends: with an answer, the Mem over or not. -/
def RPost {α : Type} (enc : α → Value) (B p : Nat) (w0 : World) (T : Prog α) (o : Bool) (S : TS) (e : Ending) (w' : World) : Prop :=
  ∃ a o' S', e = .returned (enc a) ∧ Ref T o S a o' S' ∧ RAt B w' p o' S' ∧ KeepR B p w0 w'
def ROwes {α : Type} (R : Ending → World → Prop) (enc : α → Value) (B p : Nat) (w0 : World) (T : Prog α) (o : Bool) (S : TS) : Prop := ∀ e w', RPost enc B p w0 T o S e w' → R e w'
theorem rowes {α : Type} (enc : α → Value) (B p : Nat) (w0 : World) (T : Prog α) (o : Bool) (S : TS) : ROwes (RPost enc B p w0 T o S) enc B p w0 T o S := fun _ _ h => h
theorem ROwes.ret {enc : α → Value} {a : α} {w' : World} (h : ROwes R enc B p w0 (.ret a) o S) (h1 : RAt B w' p o S) (h2 : KeepR B p w0 w') : R (.returned (enc a)) w' := h _ _ ⟨a, o, S, rfl, Ref.ret a o S, h1, h2⟩
theorem ROwes.over {enc : α → Value} {T : Prog α} (a : α) {w' : World} (h : ROwes R enc B p w0 T true S) (h1 : RAt B w' p true S) (h2 : KeepR B p w0 w') : R (.returned (enc a)) w' := h _ _ ⟨a, true, S, rfl, .over _ _, h1, h2⟩
theorem ROwes.any {enc : α → Value} {T : Prog α} (h : ROwes R enc B p w0 T true S) (T' : Prog α) : ROwes R enc B p w0 T' true S := by
  rintro e w' ⟨a, o', S', rfl, hr, h1, h2⟩
  cases hr
  exact h.over a h1 h2
theorem ROwes.then {enc : α → Value} {T : Prog β} {g : β → Prog α} {v : β} {o1 : Bool} {S1 : TS} (h : ROwes R enc B p w0 (T.bind g) o S) (hr : Ref T o S v o1 S1) : ROwes R enc B p w0 (g v) o1 S1 := by
  rintro e w' ⟨a, o', S', rfl, hr', h1, h2⟩
  exact h _ _ ⟨a, o', S', rfl, hr.bind hr', h1, h2⟩
theorem rstep {P : Program} {f : FuncId} {args : Array Value} {K : Ending → World → Prop} {enc : α → Value} {enc' : β → Value} {T : Prog α} {g : α → Prog β}
    (hO : ROwes R enc' B p w0 (T.bind g) o S) (hB : KeepR B p w0 w) (h : Calls P f args w (RPost enc B p w T o S))
    (hk : ∀ v o1 S1 w1, RAt B w1 p o1 S1 → KeepR B p w w1 → KeepR B p w0 w1 → ROwes R enc' B p w0 (g v) o1 S1 → K (.returned (enc v)) w1) : Calls P f args w K := by
  refine h.mono fun e w1 hp1 => ?_
  obtain ⟨a, o', S', rfl, hr, h1, h2⟩ := hp1
  exact hk a o' S' w1 h1 h2 (hB.trans h2) (hO.then hr)
theorem rlast {P : Program} {f : FuncId} {args : Array Value} {K : Ending → World → Prop} {enc enc' : α → Value} {T : Prog α}
    (hO : ROwes R enc' B p w0 T o S) (hB : KeepR B p w0 w) (h : Calls P f args w (RPost enc B p w T o S))
    (hk : ∀ v o1 S1 w1, RAt B w1 p o1 S1 → KeepR B p w w1 → KeepR B p w0 w1 → ROwes R enc' B p w0 (.ret v) o1 S1 → K (.returned (enc v)) w1) : Calls P f args w K := by
  rw [← Prog.bind_id T] at hO
  exact rstep hO hB h hk
theorem RAt.drew (h : RAt B w p o S) : RAt B w.drew p o S := h.ext (Ext.refl w).drew
/-- Whether it is over stands in its third cell. -/
theorem RAt.cell (h : RAt B w p o S) : ∃ vA n vC vN vL, ∀ i, w.cell? ⟨p, i, none⟩ = (#[vA, .int .i64 n, .bool o, vC, vN, vL] : Array Value)[i]? := by
  obtain ⟨n, vA, vC, vN, vL, L, h, _⟩ := h
  exact ⟨_, _, _, _, _, cell_of_heap h.heap⟩
end
theorem get_r (B p : Nat) (o : Bool) (S : TS) (i : Int) (w : World) (h : RAt B w p o S) :
    Calls Tryz.prog 133 #[.pointer (some ⟨p, 0, none⟩), .int .i64 i] w fun e w' => e = .returned (.int .i64 (S.got i)) ∧ w = w' := by
  obtain ⟨n, vA, vC, vN, vL, L, h, _⟩ := h
  have hc := cell_of_heap h.heap
  have hI : Ints w vL L := IntRow.ints h.rowL
  by_cases h0 : i < 0
  · rw [got_neg h0]
    go_enter Tryz.func133, Tryz.ntmps133
    go_wp2_with fail
    go_ret
    exact ⟨rfl, rfl⟩
  · obtain ⟨i, rfl⟩ : ∃ n : Nat, i = (n : Int) := ⟨i.toNat, by omega⟩
    obtain ⟨A, c, rfl, hc1, hc2⟩ := hI.slice
    by_cases h1 : i < L.length
    · obtain ⟨b, off, rfl, hb, hcell⟩ := hI.at_ h1
      rw [got_at h.loc]
      clear h hI
      go_enter Tryz.func133, Tryz.ntmps133
      go_wp2_with fail
      go_ret
      exact ⟨rfl, rfl⟩
    · rw [got_out h.loc i (by omega)]
      clear h hI
      go_enter Tryz.func133, Tryz.ntmps133
      go_wp2_with fail
      go_ret
      exact ⟨rfl, rfl⟩
theorem access_o (B p : Nat) (S : TS) (k c v : Int) (w : World) (h : RAt B w p true S) :
    Calls Tryz.prog 221 #[.pointer (some ⟨p, 0, none⟩), .agg #[.int .i64 k, .int .i64 c, .int .i64 v]] w fun e w' => e = .returned (.int .i64 0) ∧ RAt B w' p true S ∧ KeepR B p w w' := by
  have hP := Lib.hid (h.alloc (.cells #[.int .i64 k, .int .i64 c, .int .i64 v] 112))
  have hK : Hid (KeepR B p w (w.alloc (.cells #[.int .i64 k, .int .i64 c, .int .i64 v] 112))) := Lib.hid (Keep.alloc _ h.lt h.le)
  have hlt := h.lt
  obtain ⟨vA, n, vC, vN, vL, hc⟩ := h.cell
  clear h
  go_enter Tryz.func221, Tryz.ntmps221
  go_wp2_with fail
  go_ret
  exact ⟨rfl, hP.out, hK.out⟩
set_option maxRecDepth 100000 in
theorem access_p (B p : Nat) (S : TS) (k c v x : Int) (w : World) (h : RAt B w p false S) (hx : S.next = some x) :
    Calls Tryz.prog 221 #[.pointer (some ⟨p, 0, none⟩), .agg #[.int .i64 k, .int .i64 c, .int .i64 v]] w fun e w' => e = .returned (.int .i64 x) ∧ RAt B w' p false (S.put ⟨k, c, v⟩) ∧ KeepR B p w w' := by
  obtain ⟨n, vA, vC, vN, vL, L, h, hn, -⟩ := h
  have hlt : S.acc.length < S.ans.length := by
    unfold TS.next at hx
    exact (List.getElem?_eq_some_iff.1 hx).1
  obtain rfl : n = S.acc.length := by omega
  clear hn
  have hx2 := Lib.hid (show S.ans.getD S.acc.length 0 = x by
    unfold TS.next at hx
    simp [List.getD, hx])
  clear hx
  have hc := cell_of_heap h.heap
  have hbo := h.ansN
  unfold maxAns at hbo
  have hle := h.lt
  have hge := h.ge
  obtain ⟨Aa, ca, rfl, ha1, ha2⟩ := h.ans.slice
  obtain ⟨Ac, cc, hvC⟩ : ∃ A c, vC = .slice A S.acc.length c := by
    rcases h.rowC.2 with ⟨rfl, h0⟩ | ⟨g, cap, cur, rfl, _⟩
    · exact ⟨none, 0, by rw [h0]⟩
    · exact ⟨_, _, rfl⟩
  subst hvC
  have hL := Lib.hid h
  have hlt2 := Lib.hid hlt
  have h1 : S.acc.length ≤ S.ans.length := by omega
  clear h hlt
  obtain ⟨i0, hi, hz0, hz1, hz2⟩ := info_parts info_acc
  go_enter Tryz.func221, Tryz.ntmps221
  go_wp2_with fail
  go_region_law ((refine step_append_lies _ (by rfl) _ _ _ (by rfl) B 112 i0 _ 3 24 Tryz.underlying27 hi hz0 hz1 hz2 rfl (by omega) (Value.slice Ac S.acc.length cc) S.acc.length (accVals S.acc) (by rfl) (((World.ownsRow.alloc hL.out.rowC _).drew).alloc _) ⟨w.heap.size + 1, 0, none⟩ 1 1 [.int .i64 k, .int .i64 c, .int .i64 v] (by rfl) (by rfl) (cells_new2 w _ _ _) (by simp [Value.oneCell']) (by omega) (by unfold maxLen; omega) (by omega) (by simp; omega) (w.heap.size + 2) (by simp) ?_; intro gg cap w1 hown1 hgrow hat hlt; have hp1 := grown_heap hL.out.heap hL.out.cNe.2.1 (grown2 hgrow); have hq1 := cell_of_heap hp1; have hf1 := frozen_of_heap hp1))
  all_goals
    obtain ⟨HM, HK⟩ := hL.out.grewC ⟨k, c, v⟩ (grown2 hgrow) (hat.imp id (by omega)) hown1 (Nat.le_of_lt hlt2.out)
    clear hown1 hgrow hat hlt hp1 hq1 hf1 hc
    generalize hv' : (Value.slice (some ⟨gg, 0, none⟩) (S.acc.length + 1) cap) = v' at *
    generalize w1.setCell ⟨p, 3, none⟩ v' = W at *
    clear hv' w1
    have hq := cell_of_heap HM.heap
    have hfz := frozen_of_heap HM.heap
    have hlt := hlt2.out
    have HMh := Lib.hid HM
    have HKh := Lib.hid HK
    clear HM HK
    go_wp2_with fail
    go_quiet (fail)
    have HM := HMh.out.ext ((Ext.refl W).drewN nq)
    have HK := HKh.out.drewN nq
    clear hq hfz HMh HKh
    generalize W.drewN nq = W2 at *
    clear W
    have hq := cell_of_heap HM.heap
    have hfz := frozen_of_heap HM.heap
    have HMh := Lib.hid HM
    have HKh := Lib.hid HK
    clear HM HK
    go_wp2_with fail
    have e1 : (S.acc.length : Int) + 1 = ((S.acc.length + 1 : Nat) : Int) := rfl
    obtain ⟨HM, HK⟩ := HMh.out.told (S.acc.length + 1)
    have HF : RAt B (W2.setCell ⟨p, 1, none⟩ (.int .i64 ((S.acc.length + 1 : Nat) : Int))) p false (S.put ⟨k, c, v⟩) := ⟨_, _, _, _, _, _, HM, by show _ = min (S.acc ++ _).length S.ans.length; simp; omega, by show _ = decide (S.ans.length < (S.acc ++ _).length); simp; omega⟩
    replace HK := HKh.out.trans HK
    obtain ⟨b, off, rfl, hb, hcell⟩ := HM.ans.at_ (show S.acc.length < S.ans.length from hlt)
    rw [show (S.put ⟨k, c, v⟩).ans.getD S.acc.length 0 = x from hx2.out] at hcell
    rw [e1]
    clear hq hfz HMh HKh
    generalize W2.setCell ⟨p, 1, none⟩ (.int .i64 ((S.acc.length + 1 : Nat) : Int)) = W3 at *
    have hq := cell_of_heap HM.heap
    have HFh := Lib.hid HF
    have HKh := Lib.hid HK
    clear HM HK HF e1 W2
    have hw : IntKind.i64.wrap (((S.acc.length + 1 : Nat) : Int) - 1) = (S.acc.length : Int) := by rw [IntKind.wrap_i64]; omega
    go_quiet (simp only [hw])
    go_wp2_with fail
    first | go_ret | skip
    exact ⟨rfl, HFh.out.ext ((Ext.refl _).drewN nq), HKh.out.drewN nq⟩
set_option maxRecDepth 100000 in
theorem access_s (B p : Nat) (S : TS) (k c v : Int) (w : World) (h : RAt B w p false S) (hx : S.next = none) :
    Calls Tryz.prog 221 #[.pointer (some ⟨p, 0, none⟩), .agg #[.int .i64 k, .int .i64 c, .int .i64 v]] w fun e w' => e = .returned (.int .i64 0) ∧ RAt B w' p true (S.put ⟨k, c, v⟩) ∧ KeepR B p w w' := by
  obtain ⟨n, vA, vC, vN, vL, L, h, hn, ho⟩ := h
  have hlt : S.acc.length = S.ans.length := by
    unfold TS.next at hx
    have := List.getElem?_eq_none_iff.1 hx
    simp at ho
    omega
  obtain rfl : n = S.acc.length := by omega
  clear hn hx ho
  have hc := cell_of_heap h.heap
  have hbo := h.ansN
  unfold maxAns at hbo
  have hle := h.lt
  have hge := h.ge
  obtain ⟨Aa, ca, rfl, ha1, ha2⟩ := h.ans.slice
  obtain ⟨Ac, cc, hvC⟩ : ∃ A c, vC = .slice A S.acc.length c := by
    rcases h.rowC.2 with ⟨rfl, h0⟩ | ⟨g, cap, cur, rfl, _⟩
    · exact ⟨none, 0, by rw [h0]⟩
    · exact ⟨_, _, rfl⟩
  subst hvC
  have hL := Lib.hid h
  have hlt2 := Lib.hid hlt
  have h1 : S.acc.length ≤ S.ans.length := by omega
  clear h hlt
  obtain ⟨i0, hi, hz0, hz1, hz2⟩ := info_parts info_acc
  go_enter Tryz.func221, Tryz.ntmps221
  go_wp2_with fail
  go_region_law ((refine step_append_lies _ (by rfl) _ _ _ (by rfl) B 112 i0 _ 3 24 Tryz.underlying27 hi hz0 hz1 hz2 rfl (by omega) (Value.slice Ac S.acc.length cc) S.acc.length (accVals S.acc) (by rfl) (((World.ownsRow.alloc hL.out.rowC _).drew).alloc _) ⟨w.heap.size + 1, 0, none⟩ 1 1 [.int .i64 k, .int .i64 c, .int .i64 v] (by rfl) (by rfl) (cells_new2 w _ _ _) (by simp [Value.oneCell']) (by omega) (by unfold maxLen; omega) (by omega) (by simp; omega) (w.heap.size + 2) (by simp) ?_; intro gg cap w1 hown1 hgrow hat hlt; have hp1 := grown_heap hL.out.heap hL.out.cNe.2.1 (grown2 hgrow); have hq1 := cell_of_heap hp1; have hf1 := frozen_of_heap hp1))
  all_goals
    obtain ⟨HM, HK⟩ := hL.out.grewC ⟨k, c, v⟩ (grown2 hgrow) (hat.imp id (by omega)) hown1 (Nat.le_of_eq hlt2.out)
    clear hown1 hgrow hat hlt hp1 hq1 hf1 hc
    generalize hv' : (Value.slice (some ⟨gg, 0, none⟩) (S.acc.length + 1) cap) = v' at *
    generalize w1.setCell ⟨p, 3, none⟩ v' = W at *
    clear hv' w1
    have hq := cell_of_heap HM.heap
    have hfz := frozen_of_heap HM.heap
    have hle : S.ans.length ≤ S.acc.length := by have := hlt2.out; omega
    have HMh := Lib.hid HM
    have HKh := Lib.hid HK
    clear HM HK
    go_wp2_with fail
    go_quiet (fail)
    have HM := HMh.out.ext ((Ext.refl W).drewN nq)
    have HK := HKh.out.drewN nq
    clear hq hfz HMh HKh
    generalize W.drewN nq = W2 at *
    clear W
    have hq := cell_of_heap HM.heap
    have hfz := frozen_of_heap HM.heap
    obtain ⟨HM2, HK2⟩ := HM.ended true
    have HF : RAt B (W2.setCell ⟨p, 2, none⟩ (.bool true)) p true (S.put ⟨k, c, v⟩) := ⟨_, _, _, _, _, _, HM2, by have := hlt2.out; show _ = min (S.acc ++ _).length S.ans.length; simp; omega, by have := hlt2.out; show _ = decide (S.ans.length < (S.acc ++ _).length); simp; omega⟩
    have HFh := Lib.hid HF
    have HKh := Lib.hid (HK.trans HK2)
    clear HM HK HM2 HK2 HF
    go_wp2_with fail
    go_ret
    exact ⟨rfl, HFh.out, HKh.out⟩
end Go.Proofs.YtbaajjkopdjbgaaGreat
/-
  Operations of the document on its Mem: a read, a write.
-/
namespace Go.Proofs.YtbaajjkopdjbgaaGreat
open Go.RowKit Kv
section
variable {α : Type} {B p : Nat} {w0 : World} {o : Bool} {S : TS} {R : Ending → World → Prop} {enc : α → Value}
theorem ref_gt (l : Int) (o : Bool) (S : TS) : Ref (gt l) o S (S.got l) o S := by
  cases o with
  | true => exact .over _ _
  | false => exact .done rfl
theorem ref_st (i v : Int) (S : TS) : Ref (st i v) false S () false (S.upd i v) := .done rfl
theorem ROwes.get {l : Int} {g : Int → Prog α} (h : ROwes R enc B p w0 ((gt l).bind g) o S) : ROwes R enc B p w0 (g (S.got l)) o S := h.then (ref_gt l o S)
theorem ROwes.get1 {enc : Int → Value} {l : Int} (h : ROwes R enc B p w0 (gt l) o S) : ROwes R enc B p w0 (.ret (S.got l)) o S := by
  rw [← Prog.bind_id (gt l)] at h
  exact h.then (ref_gt l o S)
end
theorem read_r (B p : Nat) (o : Bool) (S : TS) (c : Int) (w : World) (h : RAt B w p o S) : Calls Tryz.prog 134 #[.pointer (some ⟨p, 0, none⟩), .int .i64 c] w (RPost encI B p w (rd c) o S) := by
  generalize hR : RPost encI B p w (rd c) o S = R
  have hO : ROwes R encI B p w (rd c) o S := hR ▸ rowes _ _ _ _ _ _ _
  clear hR
  cases o with
  | true =>
    go_enter Tryz.func134, Tryz.ntmps134
    go_wp2_with fail
    refine (access_o B p S 1 c 0 _ h).mono ?_
    rintro e w' ⟨rfl, h1, h2⟩
    go_wp2_with fail
    refine hO _ _ ⟨0, true, S, rfl, .over _ _, h1, h2⟩
  | false =>
    cases hx : S.next with
    | some x =>
      go_enter Tryz.func134, Tryz.ntmps134
      go_wp2_with fail
      refine (access_p B p S 1 c 0 x _ h hx).mono ?_
      rintro e w' ⟨rfl, h1, h2⟩
      go_wp2_with fail
      refine hO _ _ ⟨x, false, _, rfl, .done (by simp [rd, Prog.run, hx]), h1, h2⟩
    | none =>
      go_enter Tryz.func134, Tryz.ntmps134
      go_wp2_with fail
      refine (access_s B p S 1 c 0 _ h hx).mono ?_
      rintro e w' ⟨rfl, h1, h2⟩
      go_wp2_with fail
      refine hO _ _ ⟨0, true, _, rfl, .stop _ (by simp [rd, Prog.run, hx]), h1, h2⟩
theorem write_r (B p : Nat) (o : Bool) (S : TS) (c v : Int) (w : World) (h : RAt B w p o S) : Calls Tryz.prog 135 #[.pointer (some ⟨p, 0, none⟩), .int .i64 c, .int .i64 v] w (RPost encU B p w (wr c v) o S) := by
  generalize hR : RPost encU B p w (wr c v) o S = R
  have hO : ROwes R encU B p w (wr c v) o S := hR ▸ rowes _ _ _ _ _ _ _
  clear hR
  cases o with
  | true =>
    go_enter Tryz.func135, Tryz.ntmps135
    go_wp2_with fail
    refine (access_o B p S 2 c v _ h).mono ?_
    rintro e w' ⟨rfl, h1, h2⟩
    go_wp2_with fail
    first | go_end0 | refine bodyPost_ret (results_none rfl _ _ _) rfl ?_
    refine hO _ _ ⟨(), true, S, rfl, .over _ _, h1, h2⟩
  | false =>
    cases hx : S.next with
    | some x =>
      go_enter Tryz.func135, Tryz.ntmps135
      go_wp2_with fail
      refine (access_p B p S 2 c v x _ h hx).mono ?_
      rintro e w' ⟨rfl, h1, h2⟩
      go_wp2_with fail
      first | go_end0 | refine bodyPost_ret (results_none rfl _ _ _) rfl ?_
      refine hO _ _ ⟨(), false, _, rfl, .done (by simp [wr, Prog.run, hx]), h1, h2⟩
    | none =>
      go_enter Tryz.func135, Tryz.ntmps135
      go_wp2_with fail
      refine (access_s B p S 2 c v _ h hx).mono ?_
      rintro e w' ⟨rfl, h1, h2⟩
      go_wp2_with fail
      first | go_end0 | refine bodyPost_ret (results_none rfl _ _ _) rfl ?_
      refine hO _ _ ⟨(), true, _, rfl, .stop _ (by simp [wr, Prog.run, hx]), h1, h2⟩
end Go.Proofs.YtbaajjkopdjbgaaGreat
/-
  Operations of the document on its Mem: a local set.
-/
namespace Go.Proofs.YtbaajjkopdjbgaaGreat
open Go.RowKit Kv
def lenAt (w : World) (p : Nat) : Nat := match w.cell? ⟨p, 5, none⟩ with
  | some (.slice _ n _) => n
  | _ => 0
theorem lenAt_of {w : World} {p n c : Nat} {A : Option Addr} (h : w.cell? ⟨p, 5, none⟩ = some (.slice A n c)) : lenAt w p = n := by unfold lenAt; rw [h]
theorem ref_st_out {i : Int} (h : i < 0 ∨ 32768 ≤ i) (v : Int) (o : Bool) (S : TS) : Ref (st i v) o S () o S := by
  cases o with
  | true => exact .over _ _
  | false => exact .done (by show (some (), S.upd i v) = _; rw [TS.upd_out h])
theorem RMem.slice {B p : Nat} {w : World} {S : TS} {n : Nat} {o : Bool} {vA vC vN vL : Value} {L : List Int} (h : RMem B w p S n o vA vC vN vL L) : ∃ A c, vL = .slice A L.length c ∧ L.length ≤ c ∧ c ≤ 9223372036854775807 := by
  obtain ⟨A, c, rfl, h1, h2⟩ := (IntRow.ints h.rowL).slice
  exact ⟨A, c, rfl, h1, h2⟩
theorem append_int_at {ops : Array Oper} {rest : List Oper} {o : Oper} {a : Act} {Q : Exit → Act → World → Prop} {w : World} (hgd : o.guard = none) (s x : Operand)
    (ho : o.op = .call { callee := .builtin .append, args := #[s, x], argTypes := #[25, 25] })
    (base : Nat) (v : Value) (l : List Int) (y : Int) (hown : w.ownsRow base 3 1 v l.length (l.map (Value.int .i64))) (hs : a.eval s = v) (hx : a.eval x = .slice (some ⟨w.heap.size, 0, none⟩) 1 1)
    (hlen : l.length < 1000000000000) (hbase : base ≤ w.heap.size)
    (h : ∀ g cap w', w'.ownsRow base 3 1 (.slice (some ⟨g, 0, none⟩) (l.length + 1) cap) (l.length + 1) (l.map (Value.int .i64) ++ [Value.int .i64 y]) → w.grownBy w' v.ownBlock → (v.ownBlock = some g ∨ w.heap.size ≤ g) → wpList Tryz.prog ops Q rest (a.put o.dst (.slice (some ⟨g, 0, none⟩) (l.length + 1) cap)) w') :
    wpList Tryz.prog ops Q (o :: rest) a (w.alloc (.cells #[.int .i64 y] 3)) := by
  obtain ⟨i0, hi, hz0, hz1, hz2⟩ := info_parts info_int
  refine wpList_append_own_at _ hgd s x 25 ho base 3 i0 (.int .i64 0) 1 8 Tryz.underlying25 hi hz0 hz1 hz2 rfl (by decide) v l.length _ hs (World.ownsRow.alloc hown _) ⟨w.heap.size, 0, none⟩ 1 1 [.int .i64 y] hx rfl (cell_one_new _ _ _) (by simp [Value.oneCell']) (by unfold maxLen; omega) (by omega) (by simp; omega) fun v' w' h1 h2 _ h4 => ?_
  rcases h1.2 with ⟨rfl, e⟩ | ⟨g, cap, cur, rfl, _⟩
  · omega
  · refine h g cap w' h1 (World.grownBy.trans (World.grownBy_alloc w _ _) h2) ?_
    rcases h4 with e | e
    · exact .inl e.symm
    · simp only [Value.ownBlock, Option.some.injEq, World.size_alloc] at e
      exact .inr (by omega)
set_option maxRecDepth 100000 in
theorem set_r (B p : Nat) (o : Bool) (S : TS) (i v : Int) (w : World) (h : RAt B w p o S) :
    Calls Tryz.prog 136 #[.pointer (some ⟨p, 0, none⟩), .int .i64 i, .int .i64 v] w (RPost encU B p w (st i v) o S) := by
  generalize hR : RPost encU B p w (st i v) o S = R
  have hO : ROwes R encU B p w (st i v) o S := hR ▸ rowes _ _ _ _ _ _ _
  clear hR
  cases o with
  | true =>
    have h' := Lib.hid h
    obtain ⟨vA, n, vC, vN, vL, hc⟩ := h.cell
    clear h
    go_enter Tryz.func136, Tryz.ntmps136
    go_wp2_with fail
    first | go_end0 | refine bodyPost_ret (results_none rfl _ _ _) rfl ?_
    exact hO.over () h'.out (Keep.refl _ _ _ _)
  | false =>
    by_cases h0 : i < 0 ∨ 32768 ≤ i
    · have hf : R (.returned (encU ())) w := hO _ _ ⟨(), false, S, rfl, ref_st_out h0 v false S, h, Keep.refl _ _ _ _⟩
      obtain ⟨vA, n, vC, vN, vL, hc⟩ := h.cell
      clear h hO
      rcases h0 with h0 | h0
      · go_enter Tryz.func136, Tryz.ntmps136
        go_wp2_with fail
        first | go_end0 | refine bodyPost_ret (results_none rfl _ _ _) rfl ?_
        exact hf
      · go_enter Tryz.func136, Tryz.ntmps136
        go_wp2_with fail
        first | go_end0 | refine bodyPost_ret (results_none rfl _ _ _) rfl ?_
        exact hf
    · obtain ⟨i, rfl⟩ : ∃ n : Nat, i = (n : Int) := ⟨i.toNat, by omega⟩
      have hi : i < 32768 := by omega
      clear h0
      obtain ⟨n, vA, vC, vN, vL, L, h, hn, ho⟩ := h
      have hn' := Lib.hid hn
      have ho' := Lib.hid ho
      have hp := h.lt
      have hge := h.ge
      clear hn ho
      have hc := cell_of_heap h.heap
      obtain ⟨i0, hi0, hz0, hz1, hz2⟩ := info_parts info_int
      go_enter Tryz.func136, Tryz.ntmps136
      go_wp2_with fail
      go_loopw [] (fun wr => ∃ (vL : Value) (L : List Int), RMem B wr p S n false vA vC vN vL L ∧ KeepR B p w wr) (fun wr => i + 1 - lenAt wr p)
      case atStart => exact ⟨vL, L, h, Keep.refl _ _ _ _⟩
      case round =>
        clear h hc vL L
        obtain ⟨vL, L, h, hK⟩ := hrel
        obtain ⟨A, c, rfl, hc1, hc2⟩ := h.slice
        have hc := cell_of_heap h.heap
        have hLn := h.locN
        have hLe := lenAt_of (hc 5)
        by_cases hin : L.length ≤ i
        · have hL := Lib.hid h
          have hKh := Lib.hid hK
          have hM := Lib.hid hLe
          clear h hK hLe
          go_wp2_with (at_builtin; refine append_int_at rfl _ _ rfl B _ L 0 hL.out.rowL rfl rfl (by omega) (by have := hL.out.lt; omega) ?_)
          intro g cap w1 hown hgrow hat
          have hp1 := grown_heap hL.out.heap hL.out.cNe.1 hgrow
          have hq1 := cell_of_heap hp1
          have hf1 := frozen_of_heap hp1
          obtain ⟨HM, HK⟩ := hL.out.grewL hgrow hat hown (by omega)
          have hM1 := lenAt_of (cell_of_heap HM.heap 5)
          have HMh := Lib.hid HM
          have HKh := Lib.hid (hKh.out.trans HK)
          have hM2 := Lib.hid hM1
          clear HM HK hM1 hgrow hat hown hp1
          go_wp2_with fail
          go_roundw
          case rel => exact ⟨_, _, HMh.out, HKh.out⟩
          case measure =>
            rw [hM.out, hM2.out]
            omega
        · obtain ⟨g, rfl⟩ : ∃ g, A = some ⟨g, 0, none⟩ := by
            rcases h.rowL.2 with ⟨e, h0⟩ | ⟨g, cap, cur, e, _⟩
            · omega
            · injection e with e1 e2 e3
              exact ⟨g, e1⟩
          obtain ⟨HM, HK⟩ := h.stored i (by omega) v
          have HP : RAt B _ p false (S.upd i v) := ⟨_, _, _, _, _, _, HM, by rw [TS.upd_acc, TS.upd_ans]; exact hn'.out, by rw [TS.upd_acc, TS.upd_ans]; exact ho'.out⟩
          have hf := hO _ _ ⟨(), false, _, rfl, ref_st i v S, HP, hK.trans HK⟩
          obtain ⟨b, off, he, hb, hcell⟩ := (IntRow.ints h.rowL).at_ (show i < L.length by omega)
          injection he with he
          injection he with e1 e2
          subst e1 e2
          rw [Nat.zero_add] at hcell
          have hfz := h.rowL.frozenAt i
          clear h hK hO HM HK HP hLe
          go_wp2_with fail
          first | go_end0 | refine bodyPost_ret (results_none rfl _ _ _) rfl ?_
          exact hf
end Go.Proofs.YtbaajjkopdjbgaaGreat
