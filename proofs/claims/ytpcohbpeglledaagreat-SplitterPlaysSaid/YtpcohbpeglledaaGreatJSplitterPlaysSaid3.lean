/-
  Registers of the program: a number of one writer, read.
-/
import Derived.Test.YtpcohbpeglledaaGreatJSplitterPlaysSaid2
/-
  Registers of the program: a number of one writer, read.
-/
namespace Go.Proofs.YtpcohbpeglledaaGreat
open Go.RowKit Kv
attribute [local go_sem] Oper.semAt_some
/-- One block may have turned. -/
structure OneB (l : Nat) (w w' : World) : Prop where
  os : w'.os = w.os
  tape : w'.tape = w.tape
  output : w'.output = w.output
  size : w'.heap.size = w.heap.size
  block : ∀ k, k ≠ l → w'.heap[k]? = w.heap[k]?
theorem OneB.setCell (w : World) (b i : Nat) (v : Value) : OneB b w (w.setCell ⟨b, i, none⟩ v) := ⟨rfl, rfl, rfl, by simp, fun k hk => heap_setCell_ne w v hk⟩
section
variable {X : Nat → Prop} {ix : List Nat} {B p l : Nat} {w w' w'' : World} {S : TS}
theorem Keep.one (h : Keep ix B p w w') (o : OneB l w' w'') (hl : w.heap.size ≤ l) (hn : ¬ ownR ix w' p l) (hB : B ≤ w.heap.size) : Keep ix B p w w'' := by
  have hp : w''.heap[p]? = w'.heap[p]? := o.block p (fun e => hn (.inl e.symm))
  refine ⟨⟨o.os.trans h.below.os, o.tape.trans h.below.tape, o.output.trans h.below.output, by rw [o.size]; exact h.below.size, fun k hk => (o.block k (by omega)).trans (h.below.block k hk)⟩, fun b hb ho => ?_⟩
  obtain ⟨h1, h2⟩ := h.rest b hb ho
  exact ⟨(o.block b (by omega)).trans h1, fun h' => h2 ((ownR_same hp b).1 h')⟩
theorem KeepX.oneX (h : KeepX X ix B p w w') (o : OneB l w' w'') (hx : X l) (hn : ¬ ownR ix w' p l) (hB : B ≤ l) : KeepX X ix B p w w'' := by
  have hp : w''.heap[p]? = w'.heap[p]? := o.block p (fun e => hn (.inl e.symm))
  refine ⟨⟨o.os.trans h.below.os, o.tape.trans h.below.tape, o.output.trans h.below.output, by rw [o.size]; exact h.below.size, fun k hk => (o.block k (by omega)).trans (h.below.block k hk)⟩, fun b hb ho hxb => ?_⟩
  obtain ⟨h1, h2⟩ := h.rest b hb ho hxb
  exact ⟨(o.block b (fun e => hxb (e ▸ hx))).trans h1, fun h' => h2 ((ownR_same hp b).1 h')⟩
theorem Held.one {b : Nat} {ob : Obj} (h : Held ix w p b ob) (o : OneB l w w') (hb : b ≠ l) (hn : ¬ ownR ix w p l) : Held ix w' p b ob :=
  ⟨(o.block b hb).trans h.1, fun h' => h.2 ((ownR_same (o.block p (fun e => hn (.inl e.symm))) b).1 h')⟩
theorem Held.set1 {b : Nat} {u : Value} {t : TypeId} (h : Held ix w p b (.cells #[u] t (0, 0))) (v : Value) : Held ix (w.setCell ⟨b, 0, none⟩ v) p b (.cells #[v] t (0, 0)) :=
  ⟨heap_setCell h.1 v, fun h' => h.2 ((ownR_same ((OneB.setCell w b 0 v).block p (fun e => h.2 (.inl e.symm))) b).1 h')⟩
theorem PMem.one {st : Int} {vA vL vC vN : Value} {L : List Int} (h : PMem B w p S st vA vL vC vN L) (o : OneB l w w') (hn : ¬ ownR [2, 3, 4] w p l) (hB : B ≤ l) : PMem B w' p S st vA vL vC vN L :=
  { h with
    heap := (o.block p (fun e => hn (.inl e.symm))).trans h.heap
    ans := by
      obtain ⟨A, c, rfl, h1, h2, h3⟩ := h.ans
      refine ⟨A, c, rfl, h1, h2, fun hl => ?_⟩
      obtain ⟨b, off, rfl, hb, hc⟩ := h3 hl
      have hbB := h.ansB b rfl
      refine ⟨b, off, rfl, by rw [o.size]; exact hb, fun i x hi => ?_⟩
      rw [← hc i x hi]
      exact World.cell?_of_block (w := w) (o.block b (show b ≠ l by omega))
    rowL := h.rowL.kept (row := some l) ⟨o.os, o.tape, o.output, by rw [o.size]; exact Nat.le_refl _, fun k _ hk => o.block k (fun e => hk (by rw [e]))⟩ (.inr (fun e => hn (ownR_at h.heap (by simp) (i := 2) rfl e)))
    rowC := h.rowC.kept (row := some l) ⟨o.os, o.tape, o.output, by rw [o.size]; exact Nat.le_refl _, fun k _ hk => o.block k (fun e => hk (by rw [e]))⟩ (.inr (fun e => hn (ownR_at h.heap (by simp) (i := 3) rfl e)))
    rowN := h.rowN.kept (row := some l) ⟨o.os, o.tape, o.output, by rw [o.size]; exact Nat.le_refl _, fun k _ hk => o.block k (fun e => hk (by rw [e]))⟩ (.inr (fun e => hn (ownR_at h.heap (by simp) (i := 4) rfl e))) }
theorem Plays.one (h : Plays B w p S) (o : OneB l w w') (hn : ¬ ownR [2, 3, 4] w p l) (hB : B ≤ l) : Plays B w' p S := by
  obtain ⟨h0, vA, vL, vC, vN, L, h⟩ := h
  exact ⟨h0, vA, vL, vC, vN, L, h.one o hn hB⟩
end
theorem unpack_x (x top : Int) (w : World) :
    Calls Tryz.prog 204 #[.int .i64 x, .int .i64 top] w fun e w' => e = .returned (.tuple #[.int .i64 (unHi x top), .int .i64 (unLo x top)]) ∧ Ext w w' := (unpack_p x top w).mono fun _ _ h => ⟨h.1, h.2.ext⟩
/-- What a piece ends in that is cut off: what is told of its end; a panic that serves. -/
def cutQ (M : Act → World → Prop) (R : Ending → World → Prop) : Exit → Act → World → Prop
  | .normal, a, w => M a w
  | .panic c, a, w => a.defers = [] ∧ R (.panicked c) w
  | _, _, _ => False
theorem wpF_cut {P : Program} {f : FuncId} {x y : Code} {fn : Func} {R : Ending → World → Prop} {a : Act} {w : World} (M : Act → Act → World → Prop) (h1 : x.wp P (cutQ (M a) R) a w)
    (h2 : ∀ a' w', M a a' w' → WpF P f y (bodyPostM Fence.wide 0 P fn R) a' w') : WpF P f (x.seq y) (bodyPostM Fence.wide 0 P fn R) a w := by
  refine wpF_seq (wpF_of_wp (Code.wp_mono (fun e a' w' h => ?_) h1))
  cases e with
  | normal => exact h2 _ _ h
  | panic c =>
    obtain ⟨hd, h⟩ := h
    show LeavesInM Fence.wide 0 P fn a'.tmps R a'.defers (.panicking c) w'
    rw [hd]
    exact h
  | exit id => exact h.elim
  | goto l => exact h.elim
  | ret => exact h.elim
  | outgrown => exact h.elim
set_option maxHeartbeats 2000000 in
theorem table_read_p (B p : Nat) (S : TS) (r : Reg) (me : Int) (w : World) (h : Plays B w p S) (hn1 : 1 ≤ r.n) (hn2 : r.n ≤ 8) (hw1 : 0 ≤ r.wr) (hw2 : r.wr < r.n) (hm : 0 ≤ me ∧ me < r.n) (hb1 : 0 ≤ r.base) (hb2 : r.base ≤ 56000) (hl1 : 0 ≤ r.loc) (hl2 : r.loc ≤ 56000) :
    Calls Tryz.prog 157 #[.pointer (some ⟨p, 0, none⟩), encR r, .int .i64 me] w (Post encI B p w ((tableR r.base r.loc r.n r.wr r.top me).run S)) := by
  generalize hR : Post encI B p w ((tableR r.base r.loc r.n r.wr r.top me).run S) = R
  have hO : Owes R encI B p w ((tableR r.base r.loc r.n r.wr r.top me).run S) := hR ▸ owes _ _ _ _ _
  clear hR
  have hwr := Lib.hid (writer_p r)
  have hrk := Lib.hid (rank_p r me)
  obtain ⟨kind, base, loc, n, wr, rd, top⟩ := r
  simp only at hn1 hn2 hw1 hw2 hb1 hb2 hl1 hl2 hm hO
  unfold encR at hwr hrk ⊢
  have hK := Keep.refl [2, 3, 4] B p w
  have hP := h
  have b1 := hP.held (.cells #[.pointer (some ⟨p, 0, none⟩)] 39)
  replace hK := hK.trans (Keep.alloc (.cells #[.pointer (some ⟨p, 0, none⟩)] 39) hP.lt hP.le)
  replace hP := hP.alloc (.cells #[.pointer (some ⟨p, 0, none⟩)] 39)
  have b2 := hP.held (.cells #[.int .i64 kind, .int .i64 base, .int .i64 loc, .int .i64 n, .int .i64 wr, .int .i64 rd, .int .i64 top] 77)
  simp only [World.size_alloc] at b2
  replace b1 := b1.alloc (.cells #[.int .i64 kind, .int .i64 base, .int .i64 loc, .int .i64 n, .int .i64 wr, .int .i64 rd, .int .i64 top] 77) hP.lt
  replace hK := hK.trans (Keep.alloc (.cells #[.int .i64 kind, .int .i64 base, .int .i64 loc, .int .i64 n, .int .i64 wr, .int .i64 rd, .int .i64 top] 77) hP.lt hP.le)
  replace hP := hP.alloc (.cells #[.int .i64 kind, .int .i64 base, .int .i64 loc, .int .i64 n, .int .i64 wr, .int .i64 rd, .int .i64 top] 77)
  have c_b1 := b1.cells
  have c_b2 := b2.cells
  have hBw := Lib.hid h.le
  clear h
  unfold tableR at hO
  by_cases hme : me = wr
  · rw [if_pos hme] at hO
    subst hme
    refine calls_of_wpF Tryz.func157 rfl ?_
    simp only [Tryz.ntmps157, List.size_toArray, List.length_cons, List.length_nil, Nat.reduceAdd, Nat.reduceSub, Array.replicate_succ, Array.replicate_zero, List.push_toArray, List.append_toArray, List.nil_append, List.cons_append]
    refine wpF_step fun K hK2 => ?_
    go_wp2_with fail
    refine wpF_step fun K hK2 => ?_
    go_wp2_with fail
    refine (hwr.out _ hn1 hn2 hw1 hw2).mono ?_
    rintro e w2 ⟨rfl, hx⟩
    clear c_b1 c_b2
    replace hK := hK.trans (Keep.of_ext hx hP.lt hP.le)
    replace b1 := b1.ext hx hP.lt
    have c_b1 := b1.cells
    replace b2 := b2.ext hx hP.lt
    have c_b2 := b2.cells
    replace hP := hP.ext hx
    clear hx
    go_wp2_with fail
    refine (get_p B p S (loc + 1) _ hP).mono ?_
    rintro e w' ⟨rfl, rfl⟩
    rw [run_gt1] at hO
    generalize S.got (loc + 1) = z at hO ⊢
    go_wp2_with fail
    exact leavesM_ret0 (v := .int .i64 z) (by simp [results, Tryz.results157, go_sem]) (hO.done hP hK)
  · rw [if_neg hme] at hO
    have hme2 : (me == wr) = false := by simpa using hme
    have hrk2 := Lib.hid (fun W => hrk.out W hn1 hn2 hw1 hw2 hm hme)
    clear hrk
    have hrb : 0 ≤ rankM wr me ∧ rankM wr me < n - 1 := by unfold rankM; split <;> omega
    generalize rankM wr me = a at *
    refine calls_of_wpF Tryz.func157 rfl ?_
    simp only [Tryz.ntmps157, List.size_toArray, List.length_cons, List.length_nil, Nat.reduceAdd, Nat.reduceSub, Array.replicate_succ, Array.replicate_zero, List.push_toArray, List.append_toArray, List.nil_append, List.cons_append]
    refine wpF_step fun K hK2 => ?_
    go_wp2_with fail
    refine wpF_step fun K hK2 => ?_
    go_wp2_with fail
    refine (hwr.out _ hn1 hn2 hw1 hw2).mono ?_
    rintro e w2 ⟨rfl, hx⟩
    clear c_b1 c_b2
    replace hK := hK.trans (Keep.of_ext hx hP.lt hP.le)
    replace b1 := b1.ext hx hP.lt
    have c_b1 := b1.cells
    replace b2 := b2.ext hx hP.lt
    have c_b2 := b2.cells
    replace hP := hP.ext hx
    clear hx
    go_wp2_with fail
    refine wpF_step fun K hK2 => ?_
    go_wp2_with fail
    refine (hrk2.out _).mono ?_
    rintro e w2 ⟨rfl, hx⟩
    clear c_b1 c_b2
    replace hK := hK.trans (Keep.of_ext hx hP.lt hP.le)
    replace b1 := b1.ext hx hP.lt
    have c_b1 := b1.cells
    replace b2 := b2.ext hx hP.lt
    have c_b2 := b2.cells
    replace hP := hP.ext hx
    clear hx
    go_wp2_with fail
    have b3 := hP.held (.cells #[.int .i64 a] 3)
    clear c_b1 c_b2
    replace b1 := b1.alloc (.cells #[.int .i64 a] 3) hP.lt
    replace b2 := b2.alloc (.cells #[.int .i64 a] 3) hP.lt
    replace hK := hK.trans (Keep.alloc (.cells #[.int .i64 a] 3) hP.lt hP.le)
    replace hP := hP.alloc (.cells #[.int .i64 a] 3)
    have c_b1 := b1.cells
    have c_b2 := b2.cells
    have c_b3 := b3.cells
    refine wpF_step fun K hK2 => ?_
    go_wp2_with fail
    refine wpF_step fun K hK2 => ?_
    go_wp2_with fail
    refine (threads_p n _ hn1 hn2).mono ?_
    rintro e w' ⟨rfl, rfl⟩
    go_wp2_with fail
    have b4 := hP.held (.cells #[.int .i64 (n - 1)] 3)
    clear c_b1 c_b2 c_b3
    replace b1 := b1.alloc (.cells #[.int .i64 (n - 1)] 3) hP.lt
    replace b2 := b2.alloc (.cells #[.int .i64 (n - 1)] 3) hP.lt
    replace b3 := b3.alloc (.cells #[.int .i64 (n - 1)] 3) hP.lt
    replace hK := hK.trans (Keep.alloc (.cells #[.int .i64 (n - 1)] 3) hP.lt hP.le)
    replace hP := hP.alloc (.cells #[.int .i64 (n - 1)] 3)
    have c_b1 := b1.cells
    have c_b2 := b2.cells
    have c_b3 := b3.cells
    have c_b4 := b4.cells
    simp only [World.size_alloc] at b4 c_b4
    generalize (w2.alloc (.cells #[.int .i64 a] 3)).alloc (.cells #[.int .i64 (n - 1)] 3) = W0 at *
    generalize w2.heap.size = q at *
    refine wpF_cut (fun a0 a' W => ∃ (y : Int) (bx : Nat) (S : TS), a' = { tmps := ((((((a0.tmps.setIfInBounds 36 (.pointer (some ⟨p, 0, none⟩))).setIfInBounds 37 (encR (⟨kind, base, loc, n, wr, rd, top⟩ : Reg))).setIfInBounds 38 (.int .i64 a)).setIfInBounds 39 (encR (⟨5, base + 16 * a, loc + (2 + 18 * a), n, wr, rd, 1099511627776⟩ : Reg))).setIfInBounds 40 (.int .i64 y)).setIfInBounds 10 (.pointer (some ⟨bx, 0, none⟩))), defers := [] } ∧ w.heap.size ≤ bx ∧ bx ≠ w.heap.size ∧ bx ≠ w.heap.size + 1 ∧ bx ≠ q ∧ bx ≠ q + 1 ∧
      HeldP W p w.heap.size (.cells #[.pointer (some ⟨p, 0, none⟩)] 39) ∧ HeldP W p (w.heap.size + 1) (.cells #[.int .i64 kind, .int .i64 base, .int .i64 loc, .int .i64 n, .int .i64 wr, .int .i64 rd, .int .i64 top] 77) ∧ HeldP W p q (.cells #[.int .i64 a] 3) ∧ HeldP W p (q + 1) (.cells #[.int .i64 (n - 1)] 3) ∧ HeldP W p bx (.cells #[.int .i64 y] 3) ∧
      Plays B W p S ∧ KeepP B p w W ∧ Owes R encI B p w (((forP (fun i x => (slotsR (base + 16 * tellsM (n - 1) i a) (loc + (2 + 18 * tellsM (n - 1) i a))).bind fun y => .ret (max x y)) (ranksFrom a (n - 1).toNat 0) y).bind fun x =>
      (forP (fun i _ => slotsW (base + 16 * tellsM (n - 1) a i) (loc + (2 + 18 * tellsM (n - 1) a i)) x) (ranksFrom a (n - 1).toNat 0) ()).bind fun _ => .ret (unLo x (clamp top 1048576))).run S)) ?_ ?_
    · replace hP := hP.drew
      replace hK := hK.drew
      replace b1 := b1.drew
      replace b2 := b2.drew
      replace b3 := b3.drew
      replace b4 := b4.drew
      refine wp_region_held_drew (S := fun W' => (∀ i : Nat, W'.cell? ⟨w.heap.size, i, none⟩ = (#[.pointer (some ⟨p, 0, none⟩)] : Array Value)[i]?) ∧ (∀ i : Nat, W'.cell? ⟨w.heap.size + 1, i, none⟩ = (#[.int .i64 kind, .int .i64 base, .int .i64 loc, .int .i64 n, .int .i64 wr, .int .i64 rd, .int .i64 top] : Array Value)[i]?) ∧ (∀ i : Nat, W'.cell? ⟨q, i, none⟩ = (#[.int .i64 a] : Array Value)[i]?)) (by kernel_rfl) ⟨c_b1, c_b2, c_b3⟩ (fun hHeld => ?_)
      refine wpAnyH_take (i := 0) (v := ?_) rfl (by kernel_rfl) (by kernel_rfl) (by kernel_rfl) (fun _ _ _ h => h) (Or.inl ⟨by kernel_rfl, ?_⟩) (by assumption) ?_
      rotate_left
      · (intro w hSw; (try dsimp only at hSw); go_simp; try with_reducible rfl)
      try simp only [put_pack]
      refine wpAnyH_take (i := 1) (v := ?_) rfl (by kernel_rfl) (by kernel_rfl) (by kernel_rfl) (fun _ _ _ h => h) (Or.inl ⟨by kernel_rfl, ?_⟩) (by assumption) ?_
      rotate_left
      · (intro w hSw; (try dsimp only at hSw); go_simp; try with_reducible rfl)
      try simp only [put_pack]
      refine wpAnyH_take (i := 2) (v := ?_) rfl (by kernel_rfl) (by kernel_rfl) (by kernel_rfl) (fun _ _ _ h => h) (Or.inl ⟨by kernel_rfl, ?_⟩) (by assumption) ?_
      rotate_left
      · (intro w hSw; (try dsimp only at hSw); go_simp; try with_reducible rfl)
      try simp only [put_pack]
      refine wpAnyH_ready (rs := [3, 5]) (by kernel_rfl) (by simp) ?_
      refine AllReadyH.cons rfl (fun K hKK => ?_) (AllReadyH.cons rfl (fun K hKK => ?_) AllReadyH.nil)
      · go_simp
        refine (tslot_p ⟨kind, base, loc, n, wr, rd, top⟩ a _ (by omega) (by omega) hb1 (by simp only; omega) hl1 (by simp only; omega)).mono ?_
        rintro e w2 ⟨rfl, hx⟩
        clear c_b1 c_b2 c_b3 c_b4
        replace hK := hK.trans (Keep.of_ext hx hP.lt hP.le)
        replace b1 := b1.ext hx hP.lt
        have c_b1 := b1.cells
        replace b2 := b2.ext hx hP.lt
        have c_b2 := b2.cells
        replace b3 := b3.ext hx hP.lt
        have c_b3 := b3.cells
        replace b4 := b4.ext hx hP.lt
        have c_b4 := b4.cells
        replace hP := hP.ext hx
        clear hx
        refine hKK.out _ _ ⟨c_b1, c_b2, c_b3⟩ (fun hHeld => ?_)
        clear hKK K
        try dsimp only
        refine wpAnyH_ready (rs := [4, 5]) (by kernel_rfl) (by simp) ?_
        refine AllReadyH.cons rfl (fun K hKK => ?_) (AllReadyH.cons rfl (fun K hKK => ?_) AllReadyH.nil)
        · go_simp
          refine tstep hO hK (slots_read_p B p S ⟨5, base + 16 * a, loc + (2 + 18 * a), n, wr, rd, 1099511627776⟩ _ hP (by simp only; omega) (by simp only; omega) (by simp only; omega) (by simp only; omega)) (fun _ h => ⟨rfl, h⟩) ?_
          clear hO hK hP c_b1 c_b2 c_b3 c_b4
          intro y S w1 hr hP hk hK hO
          replace b1 := b1.keep hk
          have c_b1 := b1.cells
          replace b2 := b2.keep hk
          have c_b2 := b2.cells
          replace b3 := b3.keep hk
          have c_b3 := b3.cells
          replace b4 := b4.keep hk
          have c_b4 := b4.cells
          clear hk hr
          refine hKK.out _ _ ⟨c_b1, c_b2, c_b3⟩ (fun hHeld => ?_)
          clear hKK K
          try simp only [put_pack]
          refine wpAnyH_ready (rs := [5]) (by kernel_rfl) (by simp) ?_
          refine AllReadyH.cons rfl (fun K hKK => ?_) AllReadyH.nil
          go_simp
          have l1 := b1.lt
          have l2 := b2.lt
          have l3 := b3.lt
          have l4 := b4.lt
          have lk := hK.size
          refine hKK.out _ _ ⟨(b1.alloc _ hP.lt).cells, (b2.alloc _ hP.lt).cells, (b3.alloc _ hP.lt).cells⟩ (fun hHeld => ?_)
          clear hKK K
          try simp only [put_pack]
          refine wpAnyH_ready (rs := [6]) (by kernel_rfl) (by simp) ?_
          refine AllReadyH.cons rfl (fun K hKK => ?_) AllReadyH.nil
          go_simp
          have b5 := hP.held (.cells #[.int .i64 y] 3)
          clear c_b1 c_b2 c_b3 c_b4
          replace b1 := b1.alloc (.cells #[.int .i64 y] 3) hP.lt
          replace b2 := b2.alloc (.cells #[.int .i64 y] 3) hP.lt
          replace b3 := b3.alloc (.cells #[.int .i64 y] 3) hP.lt
          replace b4 := b4.alloc (.cells #[.int .i64 y] 3) hP.lt
          replace hK := hK.trans (Keep.alloc (.cells #[.int .i64 y] 3) hP.lt hP.le)
          replace hP := hP.alloc (.cells #[.int .i64 y] 3)
          have c_b1 := b1.cells
          have c_b2 := b2.cells
          have c_b3 := b3.cells
          have c_b4 := b4.cells
          have c_b5 := b5.cells
          refine hKK.out _ _ ⟨c_b1, c_b2, c_b3⟩ (fun hHeld => ?_)
          refine wpAnyH_done (by kernel_rfl) ?_ _
          exact ⟨y, w1.heap.size, S, rfl, lk, by omega, by omega, by omega, by omega, b1, b2, b3, b4, b5, hP, hK, hO⟩
        · go_simp
          have l1 := b1.lt
          have l2 := b2.lt
          have l3 := b3.lt
          have l4 := b4.lt
          have lk := hK.size
          have b5 := hP.held (.cells #[.int .i64 0] 3)
          clear c_b1 c_b2 c_b3 c_b4
          replace b1 := b1.alloc (.cells #[.int .i64 0] 3) hP.lt
          replace b2 := b2.alloc (.cells #[.int .i64 0] 3) hP.lt
          replace b3 := b3.alloc (.cells #[.int .i64 0] 3) hP.lt
          replace b4 := b4.alloc (.cells #[.int .i64 0] 3) hP.lt
          replace hK := hK.trans (Keep.alloc (.cells #[.int .i64 0] 3) hP.lt hP.le)
          replace hP := hP.alloc (.cells #[.int .i64 0] 3)
          have c_b1 := b1.cells
          have c_b2 := b2.cells
          have c_b3 := b3.cells
          have c_b4 := b4.cells
          have c_b5 := b5.cells
          replace l1 : w.heap.size < w2.heap.size := l1
          replace l2 : w.heap.size + 1 < w2.heap.size := l2
          replace l3 : q < w2.heap.size := l3
          replace l4 : q + 1 < w2.heap.size := l4
          replace lk : w.heap.size ≤ w2.heap.size := lk
          refine hKK.out _ _ ⟨c_b1, c_b2, c_b3⟩ (fun hHeld => ?_)
          clear hKK K
          try simp only [put_pack]
          generalize w2.heap.size = bx at *
          refine wpAnyH_ready (rs := [4]) (by kernel_rfl) (by simp) ?_
          refine AllReadyH.cons rfl (fun K hKK => ?_) AllReadyH.nil
          go_simp
          refine tstep hO hK (slots_read_p B p S ⟨5, base + 16 * a, loc + (2 + 18 * a), n, wr, rd, 1099511627776⟩ _ hP (by simp only; omega) (by simp only; omega) (by simp only; omega) (by simp only; omega)) (fun _ h => ⟨rfl, h⟩) ?_
          clear hO hK hP c_b1 c_b2 c_b3 c_b4 c_b5
          intro y S w1 hr hP hk hK hO
          replace b1 := b1.keep hk
          have c_b1 := b1.cells
          replace b2 := b2.keep hk
          have c_b2 := b2.cells
          replace b3 := b3.keep hk
          have c_b3 := b3.cells
          replace b4 := b4.keep hk
          have c_b4 := b4.cells
          replace b5 := b5.keep hk
          have c_b5 := b5.cells
          clear hk hr
          refine hKK.out _ _ ⟨c_b1, c_b2, c_b3⟩ (fun hHeld => ?_)
          clear hKK K
          try simp only [put_pack]
          refine wpAnyH_ready (rs := [6]) (by kernel_rfl) (by simp) ?_
          refine AllReadyH.cons rfl (fun K hKK => ?_) AllReadyH.nil
          have f_b5 := frozen_of_heap b5.1
          go_simp
          have o5 := OneB.setCell w1 bx 0 (.int .i64 y)
          have n5 := b5.2
          replace b1 := b1.one o5 (by omega) n5
          replace b2 := b2.one o5 (by omega) n5
          replace b3 := b3.one o5 (by omega) n5
          replace b4 := b4.one o5 (by omega) n5
          have b6 := b5.set1 (.int .i64 y)
          refine hKK.out _ _ ⟨b1.cells, b2.cells, b3.cells⟩ (fun hHeld => ?_)
          refine wpAnyH_done (by kernel_rfl) ?_ _
          exact ⟨y, bx, S, rfl, lk, by omega, by omega, by omega, by omega, b1, b2, b3, b4, b6, hP.one o5 n5 (by have := hBw.out; omega), hK.one o5 lk n5 hBw.out, hO⟩
      · go_simp
        have l1 := b1.lt
        have l2 := b2.lt
        have l3 := b3.lt
        have l4 := b4.lt
        have lk := hK.size
        have b5 := hP.held (.cells #[.int .i64 0] 3)
        clear c_b1 c_b2 c_b3 c_b4
        replace b1 := b1.alloc (.cells #[.int .i64 0] 3) hP.lt
        replace b2 := b2.alloc (.cells #[.int .i64 0] 3) hP.lt
        replace b3 := b3.alloc (.cells #[.int .i64 0] 3) hP.lt
        replace b4 := b4.alloc (.cells #[.int .i64 0] 3) hP.lt
        replace hK := hK.trans (Keep.alloc (.cells #[.int .i64 0] 3) hP.lt hP.le)
        replace hP := hP.alloc (.cells #[.int .i64 0] 3)
        have c_b1 := b1.cells
        have c_b2 := b2.cells
        have c_b3 := b3.cells
        have c_b4 := b4.cells
        have c_b5 := b5.cells
        replace l1 : w.heap.size < W0.heap.size := l1
        replace l2 : w.heap.size + 1 < W0.heap.size := l2
        replace l3 : q < W0.heap.size := l3
        replace l4 : q + 1 < W0.heap.size := l4
        replace lk : w.heap.size ≤ W0.heap.size := lk
        refine hKK.out _ _ ⟨c_b1, c_b2, c_b3⟩ (fun hHeld => ?_)
        clear hKK K
        try simp only [put_pack]
        replace b5 : HeldP _ p W0.heap.size _ := b5
        replace c_b5 := b5.cells
        generalize W0.heap.size = bx at *
        refine wpAnyH_ready (rs := [3]) (by kernel_rfl) (by simp) ?_
        refine AllReadyH.cons rfl (fun K hKK => ?_) AllReadyH.nil
        go_simp
        refine (tslot_p ⟨kind, base, loc, n, wr, rd, top⟩ a _ (by omega) (by omega) hb1 (by simp only; omega) hl1 (by simp only; omega)).mono ?_
        rintro e w2 ⟨rfl, hx⟩
        clear c_b1 c_b2 c_b3 c_b4 c_b5
        replace hK := hK.trans (Keep.of_ext hx hP.lt hP.le)
        replace b1 := b1.ext hx hP.lt
        have c_b1 := b1.cells
        replace b2 := b2.ext hx hP.lt
        have c_b2 := b2.cells
        replace b3 := b3.ext hx hP.lt
        have c_b3 := b3.cells
        replace b4 := b4.ext hx hP.lt
        have c_b4 := b4.cells
        replace b5 := b5.ext hx hP.lt
        have c_b5 := b5.cells
        replace hP := hP.ext hx
        clear hx
        refine hKK.out _ _ ⟨c_b1, c_b2, c_b3⟩ (fun hHeld => ?_)
        clear hKK K
        try dsimp only
        refine wpAnyH_ready (rs := [4]) (by kernel_rfl) (by simp) ?_
        refine AllReadyH.cons rfl (fun K hKK => ?_) AllReadyH.nil
        go_simp
        refine tstep hO hK (slots_read_p B p S ⟨5, base + 16 * a, loc + (2 + 18 * a), n, wr, rd, 1099511627776⟩ _ hP (by simp only; omega) (by simp only; omega) (by simp only; omega) (by simp only; omega)) (fun _ h => ⟨rfl, h⟩) ?_
        clear hO hK hP c_b1 c_b2 c_b3 c_b4 c_b5
        intro y S w1 hr hP hk hK hO
        replace b1 := b1.keep hk
        have c_b1 := b1.cells
        replace b2 := b2.keep hk
        have c_b2 := b2.cells
        replace b3 := b3.keep hk
        have c_b3 := b3.cells
        replace b4 := b4.keep hk
        have c_b4 := b4.cells
        replace b5 := b5.keep hk
        have c_b5 := b5.cells
        clear hk hr
        refine hKK.out _ _ ⟨c_b1, c_b2, c_b3⟩ (fun hHeld => ?_)
        clear hKK K
        try simp only [put_pack]
        refine wpAnyH_ready (rs := [6]) (by kernel_rfl) (by simp) ?_
        refine AllReadyH.cons rfl (fun K hKK => ?_) AllReadyH.nil
        have f_b5 := frozen_of_heap b5.1
        go_simp
        have o5 := OneB.setCell w1 bx 0 (.int .i64 y)
        have n5 := b5.2
        replace b1 := b1.one o5 (by omega) n5
        replace b2 := b2.one o5 (by omega) n5
        replace b3 := b3.one o5 (by omega) n5
        replace b4 := b4.one o5 (by omega) n5
        have b6 := b5.set1 (.int .i64 y)
        refine hKK.out _ _ ⟨b1.cells, b2.cells, b3.cells⟩ (fun hHeld => ?_)
        refine wpAnyH_done (by kernel_rfl) ?_ _
        exact ⟨y, bx, S, rfl, lk, by omega, by omega, by omega, by omega, b1, b2, b3, b4, b6, hP.one o5 n5 (by have := hBw.out; omega), hK.one o5 lk n5 hBw.out, hO⟩
    · rintro a' W ⟨y, bx, S, rfl, lw, ne1, ne2, ne3, ne4, b1, b2, b3, b4, b5, hP, hK, hO⟩
      clear c_b1 c_b2 c_b3 c_b4
      have c_b1 := b1.cells
      have c_b2 := b2.cells
      have c_b3 := b3.cells
      have c_b4 := b4.cells
      have c_b5 := b5.cells
      obtain ⟨k, hk⟩ : ∃ k : Nat, n - 1 = (k : Int) := ⟨(n - 1).toNat, by omega⟩
      simp only [hk, Int.toNat_natCast] at hO b4 c_b4 hrb ⊢
      have hk8 : k ≤ 7 := by omega
      have n1 : ¬ w.heap.size = bx := fun e => ne1 e.symm
      have n2 : ¬ w.heap.size + 1 = bx := fun e => ne2 e.symm
      have n3 : ¬ q = bx := fun e => ne3 e.symm
      have n4 : ¬ q + 1 = bx := fun e => ne4 e.symm
      simp only [List.setIfInBounds_toArray, List.set_cons_zero, List.set_cons_succ]
      refine wpF_seq (wpF_step fun K hK2 => ?_)
      go_wp2_with fail
      refine (ranks_p _ _ _).mono ?_
      rintro e w3 ⟨rfl, rfl⟩
      go_wp2_with fail
      have lbx := b5.lt
      have b6 := hP.held (.cells #[.int .i64 (k : Int)] 3)
      clear c_b1 c_b2 c_b3 c_b4 c_b5
      replace b1 := b1.alloc (.cells #[.int .i64 (k : Int)] 3) hP.lt
      replace b2 := b2.alloc (.cells #[.int .i64 (k : Int)] 3) hP.lt
      replace b3 := b3.alloc (.cells #[.int .i64 (k : Int)] 3) hP.lt
      replace b4 := b4.alloc (.cells #[.int .i64 (k : Int)] 3) hP.lt
      replace b5 := b5.alloc (.cells #[.int .i64 (k : Int)] 3) hP.lt
      replace hK := hK.trans (Keep.alloc (.cells #[.int .i64 (k : Int)] 3) hP.lt hP.le)
      replace hP := hP.alloc (.cells #[.int .i64 (k : Int)] 3)
      have c_b1 := b1.cells
      have c_b2 := b2.cells
      have c_b3 := b3.cells
      have c_b4 := b4.cells
      have c_b5 := b5.cells
      have c_b6 := b6.cells
      have b7 := hP.held (.cells #[.int .i64 a] 3)
      clear c_b1 c_b2 c_b3 c_b4 c_b5 c_b6
      replace b1 := b1.alloc (.cells #[.int .i64 a] 3) hP.lt
      replace b2 := b2.alloc (.cells #[.int .i64 a] 3) hP.lt
      replace b3 := b3.alloc (.cells #[.int .i64 a] 3) hP.lt
      replace b4 := b4.alloc (.cells #[.int .i64 a] 3) hP.lt
      replace b5 := b5.alloc (.cells #[.int .i64 a] 3) hP.lt
      replace b6 := b6.alloc (.cells #[.int .i64 a] 3) hP.lt
      replace hK := hK.trans (Keep.alloc (.cells #[.int .i64 a] 3) hP.lt hP.le)
      replace hP := hP.alloc (.cells #[.int .i64 a] 3)
      have c_b1 := b1.cells
      have c_b2 := b2.cells
      have c_b3 := b3.cells
      have c_b4 := b4.cells
      have c_b5 := b5.cells
      have c_b6 := b6.cells
      have c_b7 := b7.cells
      simp only [World.size_alloc] at b7 c_b7
      have hWW : W.heap.size < ((W.alloc (.cells #[.int .i64 (k : Int)] 3)).alloc (.cells #[.int .i64 a] 3)).heap.size := b6.lt
      generalize (W.alloc (.cells #[.int .i64 (k : Int)] 3)).alloc (.cells #[.int .i64 a] 3) = W0 at *
      have n6 : ¬ W.heap.size = bx := by omega
      have n7 : ¬ W.heap.size + 1 = bx := by omega
      generalize W.heap.size = q2 at *
      refine wpF_block ?_
      refine' tape_range (T := fun i x => (slotsR (base + 16 * tellsM k i a) (loc + (2 + 18 * tellsM k i a))).bind fun y => .ret (max x y)) (xs := ranksFrom a k 0) (x := y) (fin := fun x => (forP (fun i _ => slotsW (base + 16 * tellsM k a i) (loc + (2 + 18 * tellsM k a i)) x) (ranksFrom a k 0) ()).bind fun _ => .ret (unLo x (clamp top 1048576))) Tryz.func157 rfl (enters_of Tryz.func227 (by kernel_rfl) rfl) rfl (ranks_gives k a q2 (q2 + 1) (by omega))
        (fun b => b = bx) (fun x W => HeldP W p bx (.cells #[.int .i64 x] 3)) (fun b hb => ⟨by rw [hb]; exact b5.lt, by rw [hb]; exact lw⟩) hP.le (fun W hX => ⟨(KeepX.held b6 hX n6).cells 0, (KeepX.held b7 hX n7).cells 0⟩) (fun _ _ o hp h => h.alloc o hp) (fun _ _ l _ hl hn h => h.put (by have := b5.lt; omega) hn) hO hK hP b5
        _ ?assign ?body ?done ?pan
      case assign =>
        intro l y W K hK
        gi_wp2
        exact hK
      case body =>
        intro l i x S W hi hPl hX hJx
        have hib := ranks_mem a k 0 i hi
        have htb := tells_bd k i a (by omega) (by omega) (by omega) (by omega)
        have c1 := (KeepX.held b1 hX n1)
        have c2 := (KeepX.held b2 hX n2)
        have c3 := (KeepX.held b3 hX n3)
        have c4 := (KeepX.held b4 hX n4)
        have c5 : HeldP W p bx (.cells #[.int .i64 x] 3) := hJx
        have hO := owes encI B p W ((slotsR (base + 16 * tellsM k i a) (loc + (2 + 18 * tellsM k i a))).run S)
        have hK := Keep.refl [2, 3, 4] B p W
        have hP := hPl
        have hK8 := Lib.hid hX.below.size
        clear hPl hX hJx b1 b2 b3 b4 b5 b6 b7 c_b1 c_b2 c_b3 c_b4 c_b5 c_b6 c_b7
        have c_c1 := c1.cells
        have c_c2 := c2.cells
        have c_c3 := c3.cells
        have c_c4 := c4.cells
        have c_c5 := c5.cells
        refine wpIn_block ?_
        replace hP := hP.drew
        replace hK := hK.drew
        replace c1 := c1.drew
        replace c2 := c2.drew
        replace c3 := c3.drew
        replace c4 := c4.drew
        replace c5 := c5.drew
        refine wpIn_region_held (S := fun W' => (∀ i : Nat, W'.cell? ⟨w.heap.size, i, none⟩ = (#[.pointer (some ⟨p, 0, none⟩)] : Array Value)[i]?) ∧ (∀ i : Nat, W'.cell? ⟨w.heap.size + 1, i, none⟩ = (#[.int .i64 kind, .int .i64 base, .int .i64 loc, .int .i64 n, .int .i64 wr, .int .i64 rd, .int .i64 top] : Array Value)[i]?) ∧ (∀ i : Nat, W'.cell? ⟨q, i, none⟩ = (#[.int .i64 a] : Array Value)[i]?) ∧ (∀ i : Nat, W'.cell? ⟨q + 1, i, none⟩ = (#[.int .i64 (k : Int)] : Array Value)[i]?)) (by kernel_rfl) (by kernel_rfl) (fun _ _ h => h) ⟨c_c1, c_c2, c_c3, c_c4⟩ (fun hHeld => ?_)
        refine wpAnyH_take (i := 1) (v := ?_) rfl (by kernel_rfl) (by kernel_rfl) (by kernel_rfl) (fun _ _ _ h => h) (Or.inl ⟨by kernel_rfl, ?_⟩) (by assumption) ?_
        rotate_left
        · (intro w hSw; (try dsimp only at hSw); go_simp; try with_reducible rfl)
        try simp only [put_pack]
        refine wpAnyH_take (i := 2) (v := ?_) rfl (by kernel_rfl) (by kernel_rfl) (by kernel_rfl) (fun _ _ _ h => h) (Or.inl ⟨by kernel_rfl, ?_⟩) (by assumption) ?_
        rotate_left
        · (intro w hSw; (try dsimp only at hSw); go_simp; try with_reducible rfl)
        try simp only [put_pack]
        refine wpAnyH_take (i := 3) (v := ?_) rfl (by kernel_rfl) (by kernel_rfl) (by kernel_rfl) (fun _ _ _ h => h) (Or.inl ⟨by kernel_rfl, ?_⟩) (by assumption) ?_
        rotate_left
        · (intro w hSw; (try dsimp only at hSw); go_simp; try with_reducible rfl)
        try simp only [put_pack]
        refine wpAnyH_take (i := 4) (v := ?_) rfl (by kernel_rfl) (by kernel_rfl) (by kernel_rfl) (fun _ _ _ h => h) (Or.inl ⟨by kernel_rfl, ?_⟩) (by assumption) ?_
        rotate_left
        · (intro w hSw; (try dsimp only at hSw); go_simp; try with_reducible rfl)
        try simp only [put_pack]
        refine wpAnyH_take (i := 5) (v := ?_) rfl (by kernel_rfl) (by kernel_rfl) (by kernel_rfl) (fun _ _ _ h => h) (Or.inl ⟨by kernel_rfl, ?_⟩) (by assumption) ?_
        rotate_left
        · (intro w hSw; (try dsimp only at hSw); go_simp; try with_reducible rfl)
        try simp only [put_pack]
        refine wpAnyH_ready (rs := [0, 6]) (by kernel_rfl) (by simp) ?_
        refine AllReadyH.cons rfl (fun K hKK => ?_) (AllReadyH.cons rfl (fun K hKK => ?_) AllReadyH.nil)
        · go_simp
          refine hKK.out _ _ ⟨c_c1, c_c2, c_c3, c_c4⟩ (fun hHeld => ?_)
          clear hKK K
          try simp only [put_pack]
          refine wpAnyH_ready (rs := [6]) (by kernel_rfl) (by simp) ?_
          refine AllReadyH.cons rfl (fun K hKK => ?_) AllReadyH.nil
          go_simp
          refine (tells_p ⟨kind, base, loc, n, wr, rd, top⟩ k i a _ (by omega) (by omega) (by omega) (by omega) hb1 (by simp only; omega) hl1 (by simp only; omega)).mono ?_
          rintro e w2 ⟨rfl, hx⟩
          clear c_c1 c_c2 c_c3 c_c4 c_c5
          replace hK := hK.trans (Keep.of_ext hx hP.lt hP.le)
          replace c1 := c1.ext hx hP.lt
          have c_c1 := c1.cells
          replace c2 := c2.ext hx hP.lt
          have c_c2 := c2.cells
          replace c3 := c3.ext hx hP.lt
          have c_c3 := c3.cells
          replace c4 := c4.ext hx hP.lt
          have c_c4 := c4.cells
          replace c5 := c5.ext hx hP.lt
          have c_c5 := c5.cells
          replace hP := hP.ext hx
          clear hx
          refine hKK.out _ _ ⟨c_c1, c_c2, c_c3, c_c4⟩ (fun hHeld => ?_)
          clear hKK K
          try dsimp only
          refine wpAnyH_ready (rs := [7]) (by kernel_rfl) (by simp) ?_
          refine AllReadyH.cons rfl (fun K hKK => ?_) AllReadyH.nil
          go_simp
          refine tlast hO hK (slots_read_p B p S ⟨5, base + 16 * tellsM k i a, loc + (2 + 18 * tellsM k i a), n, wr, rd, 1099511627776⟩ _ hP (by simp only; omega) (by simp only; omega) (by simp only; omega) (by simp only; omega)) (fun w' h => ⟨rfl, rfl, (round_stop h).imp fun S hS => ⟨by rw [Prog.run_bind_none hS.1], hS.2.1, hS.2.2.x _⟩⟩) ?_
          intro y S1 w5 hr hP1 hk1 hK1 hO1
          replace c1 := c1.keep hk1
          replace c2 := c2.keep hk1
          replace c3 := c3.keep hk1
          replace c4 := c4.keep hk1
          replace c5 := c5.keep hk1
          clear c_c1 c_c2 c_c3 c_c4 c_c5
          have c_c1 := c1.cells
          have c_c2 := c2.cells
          have c_c3 := c3.cells
          have c_c4 := c4.cells
          have c_c5 := c5.cells
          refine hKK.out _ _ ⟨c_c1, c_c2, c_c3, c_c4⟩ (fun hHeld => ?_)
          clear hKK K
          try simp only [put_pack]
          refine wpAnyH_ready (rs := [8]) (by kernel_rfl) (by simp) ?_
          refine AllReadyH.cons rfl (fun K hKK => ?_) AllReadyH.nil
          go_simp
          refine hKK.out _ _ ⟨c_c1, c_c2, c_c3, c_c4⟩ (fun hHeld => ?_)
          clear hKK K
          try simp only [put_pack]
          refine wpAnyH_ready (rs := [9]) (by kernel_rfl) (by simp) ?_
          refine AllReadyH.cons rfl (fun K hKK => ?_) AllReadyH.nil
          have f_c5 := frozen_of_heap c5.1
          go_simp
          have o5 := OneB.setCell w5 bx 0 (.int .i64 (max x y))
          have n5 := c5.2
          have d1 := c1.one o5 (fun e => n1 e) n5
          have d2 := c2.one o5 (fun e => n2 e) n5
          have d3 := c3.one o5 (fun e => n3 e) n5
          have d4 := c4.one o5 (fun e => n4 e) n5
          refine hKK.out _ _ ⟨d1.cells, d2.cells, d3.cells, d4.cells⟩ (fun hHeld => ?_)
          refine wpAnyH_done (by kernel_rfl) ?_ _
          exact ⟨max x y, S1, by rw [Prog.run_bind_some hr]; rfl, hP1.one o5 n5 (by have := hBw.out; omega), (hK1.x _).oneX o5 rfl n5 (by have := hBw.out; omega), c5.set1 _⟩
        · go_simp
          refine (tells_p ⟨kind, base, loc, n, wr, rd, top⟩ k i a _ (by omega) (by omega) (by omega) (by omega) hb1 (by simp only; omega) hl1 (by simp only; omega)).mono ?_
          rintro e w2 ⟨rfl, hx⟩
          clear c_c1 c_c2 c_c3 c_c4 c_c5
          replace hK := hK.trans (Keep.of_ext hx hP.lt hP.le)
          replace c1 := c1.ext hx hP.lt
          have c_c1 := c1.cells
          replace c2 := c2.ext hx hP.lt
          have c_c2 := c2.cells
          replace c3 := c3.ext hx hP.lt
          have c_c3 := c3.cells
          replace c4 := c4.ext hx hP.lt
          have c_c4 := c4.cells
          replace c5 := c5.ext hx hP.lt
          have c_c5 := c5.cells
          replace hP := hP.ext hx
          clear hx
          refine hKK.out _ _ ⟨c_c1, c_c2, c_c3, c_c4⟩ (fun hHeld => ?_)
          clear hKK K
          try dsimp only
          refine wpAnyH_ready (rs := [0, 7]) (by kernel_rfl) (by simp) ?_
          refine AllReadyH.cons rfl (fun K hKK => ?_) (AllReadyH.cons rfl (fun K hKK => ?_) AllReadyH.nil)
          · go_simp
            refine hKK.out _ _ ⟨c_c1, c_c2, c_c3, c_c4⟩ (fun hHeld => ?_)
            clear hKK K
            try simp only [put_pack]
            refine wpAnyH_ready (rs := [7]) (by kernel_rfl) (by simp) ?_
            refine AllReadyH.cons rfl (fun K hKK => ?_) AllReadyH.nil
            go_simp
            refine tlast hO hK (slots_read_p B p S ⟨5, base + 16 * tellsM k i a, loc + (2 + 18 * tellsM k i a), n, wr, rd, 1099511627776⟩ _ hP (by simp only; omega) (by simp only; omega) (by simp only; omega) (by simp only; omega)) (fun w' h => ⟨rfl, rfl, (round_stop h).imp fun S hS => ⟨by rw [Prog.run_bind_none hS.1], hS.2.1, hS.2.2.x _⟩⟩) ?_
            intro y S1 w5 hr hP1 hk1 hK1 hO1
            replace c1 := c1.keep hk1
            replace c2 := c2.keep hk1
            replace c3 := c3.keep hk1
            replace c4 := c4.keep hk1
            replace c5 := c5.keep hk1
            clear c_c1 c_c2 c_c3 c_c4 c_c5
            have c_c1 := c1.cells
            have c_c2 := c2.cells
            have c_c3 := c3.cells
            have c_c4 := c4.cells
            have c_c5 := c5.cells
            refine hKK.out _ _ ⟨c_c1, c_c2, c_c3, c_c4⟩ (fun hHeld => ?_)
            clear hKK K
            try simp only [put_pack]
            refine wpAnyH_ready (rs := [8]) (by kernel_rfl) (by simp) ?_
            refine AllReadyH.cons rfl (fun K hKK => ?_) AllReadyH.nil
            go_simp
            refine hKK.out _ _ ⟨c_c1, c_c2, c_c3, c_c4⟩ (fun hHeld => ?_)
            clear hKK K
            try simp only [put_pack]
            refine wpAnyH_ready (rs := [9]) (by kernel_rfl) (by simp) ?_
            refine AllReadyH.cons rfl (fun K hKK => ?_) AllReadyH.nil
            have f_c5 := frozen_of_heap c5.1
            go_simp
            have o5 := OneB.setCell w5 bx 0 (.int .i64 (max x y))
            have n5 := c5.2
            have d1 := c1.one o5 (fun e => n1 e) n5
            have d2 := c2.one o5 (fun e => n2 e) n5
            have d3 := c3.one o5 (fun e => n3 e) n5
            have d4 := c4.one o5 (fun e => n4 e) n5
            refine hKK.out _ _ ⟨d1.cells, d2.cells, d3.cells, d4.cells⟩ (fun hHeld => ?_)
            refine wpAnyH_done (by kernel_rfl) ?_ _
            exact ⟨max x y, S1, by rw [Prog.run_bind_some hr]; rfl, hP1.one o5 n5 (by have := hBw.out; omega), (hK1.x _).oneX o5 rfl n5 (by have := hBw.out; omega), c5.set1 _⟩
          · go_simp
            refine tlast hO hK (slots_read_p B p S ⟨5, base + 16 * tellsM k i a, loc + (2 + 18 * tellsM k i a), n, wr, rd, 1099511627776⟩ _ hP (by simp only; omega) (by simp only; omega) (by simp only; omega) (by simp only; omega)) (fun w' h => ⟨rfl, rfl, (round_stop h).imp fun S hS => ⟨by rw [Prog.run_bind_none hS.1], hS.2.1, hS.2.2.x _⟩⟩) ?_
            intro y S1 w5 hr hP1 hk1 hK1 hO1
            replace c1 := c1.keep hk1
            replace c2 := c2.keep hk1
            replace c3 := c3.keep hk1
            replace c4 := c4.keep hk1
            replace c5 := c5.keep hk1
            clear c_c1 c_c2 c_c3 c_c4 c_c5
            have c_c1 := c1.cells
            have c_c2 := c2.cells
            have c_c3 := c3.cells
            have c_c4 := c4.cells
            have c_c5 := c5.cells
            refine hKK.out _ _ ⟨c_c1, c_c2, c_c3, c_c4⟩ (fun hHeld => ?_)
            clear hKK K
            try simp only [put_pack]
            refine wpAnyH_ready (rs := [0]) (by kernel_rfl) (by simp) ?_
            refine AllReadyH.cons rfl (fun K hKK => ?_) AllReadyH.nil
            go_simp
            refine hKK.out _ _ ⟨c_c1, c_c2, c_c3, c_c4⟩ (fun hHeld => ?_)
            clear hKK K
            try simp only [put_pack]
            refine wpAnyH_ready (rs := [8]) (by kernel_rfl) (by simp) ?_
            refine AllReadyH.cons rfl (fun K hKK => ?_) AllReadyH.nil
            go_simp
            refine hKK.out _ _ ⟨c_c1, c_c2, c_c3, c_c4⟩ (fun hHeld => ?_)
            clear hKK K
            try simp only [put_pack]
            refine wpAnyH_ready (rs := [9]) (by kernel_rfl) (by simp) ?_
            refine AllReadyH.cons rfl (fun K hKK => ?_) AllReadyH.nil
            have f_c5 := frozen_of_heap c5.1
            go_simp
            have o5 := OneB.setCell w5 bx 0 (.int .i64 (max x y))
            have n5 := c5.2
            have d1 := c1.one o5 (fun e => n1 e) n5
            have d2 := c2.one o5 (fun e => n2 e) n5
            have d3 := c3.one o5 (fun e => n3 e) n5
            have d4 := c4.one o5 (fun e => n4 e) n5
            refine hKK.out _ _ ⟨d1.cells, d2.cells, d3.cells, d4.cells⟩ (fun hHeld => ?_)
            refine wpAnyH_done (by kernel_rfl) ?_ _
            exact ⟨max x y, S1, by rw [Prog.run_bind_some hr]; rfl, hP1.one o5 n5 (by have := hBw.out; omega), (hK1.x _).oneX o5 rfl n5 (by have := hBw.out; omega), c5.set1 _⟩
      case done =>
        intro x S W1 hO1 hX hP1 hJx hD
        have d1 := (KeepX.held b1 hX n1)
        have d2 := (KeepX.held b2 hX n2)
        have d3 := (KeepX.held b3 hX n3)
        have d4 := (KeepX.held b4 hX n4)
        have hK1 : KeepP B p w W1 := KeepX.after hK hX (fun b hb => by rw [hb]; exact lw)
        have hO2 := owes_shut hO1 hK1 hD hK.size hBw.out
        have hBW : B ≤ W1.heap.size := hP1.le
        clear hO1 hX hK1 hD b1 b2 b3 b4 b5 b6 b7 c_b1 c_b2 c_b3 c_b4 c_b5 c_b6 c_b7 hK hP hO hWW n6 n7
        generalize W0.heap.size = D1 at *
        clear W0
        have b1 := d1
        have b2 := d2
        have b3 := d3
        have b4 := d4
        have b5 : HeldP W1 p bx (.cells #[.int .i64 x] 3) := hJx
        clear d1 d2 d3 d4 hJx
        have hO := hO2
        have hK := Keep.refl [2, 3, 4] B p W1
        have hP := hP1
        clear hO2
        have c_b1 := b1.cells
        have c_b2 := b2.cells
        have c_b3 := b3.cells
        have c_b4 := b4.cells
        have c_b5 := b5.cells
        show WpF _ _ _ _ _ _
        refine wpF_seq (wpF_step fun K hK2 => ?_)
        go_wp2_with fail
        refine (ranks_p _ _ _).mono ?_
        rintro e w3 ⟨rfl, rfl⟩
        go_wp2_with fail
        have b6 := hP.held (.cells #[.int .i64 (k : Int)] 3)
        clear c_b1 c_b2 c_b3 c_b4 c_b5
        replace b1 := b1.alloc (.cells #[.int .i64 (k : Int)] 3) hP.lt
        replace b2 := b2.alloc (.cells #[.int .i64 (k : Int)] 3) hP.lt
        replace b3 := b3.alloc (.cells #[.int .i64 (k : Int)] 3) hP.lt
        replace b4 := b4.alloc (.cells #[.int .i64 (k : Int)] 3) hP.lt
        replace b5 := b5.alloc (.cells #[.int .i64 (k : Int)] 3) hP.lt
        replace hK := hK.trans (Keep.alloc (.cells #[.int .i64 (k : Int)] 3) hP.lt hP.le)
        replace hP := hP.alloc (.cells #[.int .i64 (k : Int)] 3)
        have c_b1 := b1.cells
        have c_b2 := b2.cells
        have c_b3 := b3.cells
        have c_b4 := b4.cells
        have c_b5 := b5.cells
        have c_b6 := b6.cells
        have b7 := hP.held (.cells #[.int .i64 a] 3)
        clear c_b1 c_b2 c_b3 c_b4 c_b5 c_b6
        replace b1 := b1.alloc (.cells #[.int .i64 a] 3) hP.lt
        replace b2 := b2.alloc (.cells #[.int .i64 a] 3) hP.lt
        replace b3 := b3.alloc (.cells #[.int .i64 a] 3) hP.lt
        replace b4 := b4.alloc (.cells #[.int .i64 a] 3) hP.lt
        replace b5 := b5.alloc (.cells #[.int .i64 a] 3) hP.lt
        replace b6 := b6.alloc (.cells #[.int .i64 a] 3) hP.lt
        replace hK := hK.trans (Keep.alloc (.cells #[.int .i64 a] 3) hP.lt hP.le)
        replace hP := hP.alloc (.cells #[.int .i64 a] 3)
        have c_b1 := b1.cells
        have c_b2 := b2.cells
        have c_b3 := b3.cells
        have c_b4 := b4.cells
        have c_b5 := b5.cells
        have c_b6 := b6.cells
        have c_b7 := b7.cells
        simp only [World.size_alloc] at b7 c_b7
        generalize (W1.alloc (.cells #[.int .i64 (k : Int)] 3)).alloc (.cells #[.int .i64 a] 3) = W0 at *
        refine wpF_block ?_
        refine' tape_range (T := fun i _ => slotsW (base + 16 * tellsM k a i) (loc + (2 + 18 * tellsM k a i)) x) (xs := ranksFrom a k 0) (x := ()) (fin := fun _ => .ret (unLo x (clamp top 1048576))) Tryz.func157 rfl (enters_of Tryz.func227 (by kernel_rfl) rfl) rfl (ranks_gives k a W1.heap.size (W1.heap.size + 1) (by omega))
          (fun _ => False) (fun _ _ => True) (fun _ h => h.elim) hP.le (fun W hX => ⟨(KeepX.held b6 hX id).cells 0, (KeepX.held b7 hX id).cells 0⟩) (fun _ _ _ _ h => h) (fun _ _ _ _ _ _ h => h) hO hK hP trivial
          _ ?assign2 ?body2 ?done2 ?pan2
        case assign2 =>
          intro l y W K hK
          gi_wp2
          exact hK
        case body2 =>
          intro l i u S W hi hPl hX _
          have hib := ranks_mem a k 0 i hi
          have htb := tells_bd k a i (by omega) (by omega) (by omega) (by omega)
          have c1 := (KeepX.held b1 hX id)
          have c2 := (KeepX.held b2 hX id)
          have c3 := (KeepX.held b3 hX id)
          have c4 := (KeepX.held b4 hX id)
          have c5 := (KeepX.held b5 hX id)
          have hO := owes encU B p W ((slotsW (base + 16 * tellsM k a i) (loc + (2 + 18 * tellsM k a i)) x).run S)
          have hK := Keep.refl [2, 3, 4] B p W
          have hP := hPl
          clear hPl hX b1 b2 b3 b4 b5 b6 b7 c_b1 c_b2 c_b3 c_b4 c_b5 c_b6 c_b7
          have c_c1 := c1.cells
          have c_c2 := c2.cells
          have c_c3 := c3.cells
          have c_c4 := c4.cells
          have c_c5 := c5.cells
          refine wpIn_block ?_
          replace hP := hP.drew
          replace hK := hK.drew
          replace c1 := c1.drew
          replace c2 := c2.drew
          replace c3 := c3.drew
          replace c4 := c4.drew
          replace c5 := c5.drew
          refine wpIn_region_held (S := fun W' => (∀ i : Nat, W'.cell? ⟨w.heap.size, i, none⟩ = (#[.pointer (some ⟨p, 0, none⟩)] : Array Value)[i]?) ∧ (∀ i : Nat, W'.cell? ⟨w.heap.size + 1, i, none⟩ = (#[.int .i64 kind, .int .i64 base, .int .i64 loc, .int .i64 n, .int .i64 wr, .int .i64 rd, .int .i64 top] : Array Value)[i]?) ∧ (∀ i : Nat, W'.cell? ⟨q, i, none⟩ = (#[.int .i64 a] : Array Value)[i]?) ∧ (∀ i : Nat, W'.cell? ⟨q + 1, i, none⟩ = (#[.int .i64 (k : Int)] : Array Value)[i]?) ∧ (∀ i : Nat, W'.cell? ⟨bx, i, none⟩ = (#[.int .i64 x] : Array Value)[i]?)) (by kernel_rfl) (by kernel_rfl) (fun _ _ h => h) ⟨c_c1, c_c2, c_c3, c_c4, c_c5⟩ (fun hHeld => ?_)
          refine wpAnyH_take (i := 0) (v := ?_) rfl (by kernel_rfl) (by kernel_rfl) (by kernel_rfl) (fun _ _ _ h => h) (Or.inl ⟨by kernel_rfl, ?_⟩) (by assumption) ?_
          rotate_left
          · (intro w hSw; (try dsimp only at hSw); go_simp; try with_reducible rfl)
          try simp only [put_pack]
          refine wpAnyH_take (i := 1) (v := ?_) rfl (by kernel_rfl) (by kernel_rfl) (by kernel_rfl) (fun _ _ _ h => h) (Or.inl ⟨by kernel_rfl, ?_⟩) (by assumption) ?_
          rotate_left
          · (intro w hSw; (try dsimp only at hSw); go_simp; try with_reducible rfl)
          try simp only [put_pack]
          refine wpAnyH_take (i := 2) (v := ?_) rfl (by kernel_rfl) (by kernel_rfl) (by kernel_rfl) (fun _ _ _ h => h) (Or.inl ⟨by kernel_rfl, ?_⟩) (by assumption) ?_
          rotate_left
          · (intro w hSw; (try dsimp only at hSw); go_simp; try with_reducible rfl)
          try simp only [put_pack]
          refine wpAnyH_take (i := 3) (v := ?_) rfl (by kernel_rfl) (by kernel_rfl) (by kernel_rfl) (fun _ _ _ h => h) (Or.inl ⟨by kernel_rfl, ?_⟩) (by assumption) ?_
          rotate_left
          · (intro w hSw; (try dsimp only at hSw); go_simp; try with_reducible rfl)
          try simp only [put_pack]
          refine wpAnyH_take (i := 4) (v := ?_) rfl (by kernel_rfl) (by kernel_rfl) (by kernel_rfl) (fun _ _ _ h => h) (Or.inl ⟨by kernel_rfl, ?_⟩) (by assumption) ?_
          rotate_left
          · (intro w hSw; (try dsimp only at hSw); go_simp; try with_reducible rfl)
          try simp only [put_pack]
          refine wpAnyH_take (i := 6) (v := ?_) rfl (by kernel_rfl) (by kernel_rfl) (by kernel_rfl) (fun _ _ _ h => h) (Or.inl ⟨by kernel_rfl, ?_⟩) (by assumption) ?_
          rotate_left
          · (intro w hSw; (try dsimp only at hSw); go_simp; try with_reducible rfl)
          try simp only [put_pack]
          refine wpAnyH_ready (rs := [5]) (by kernel_rfl) (by simp) ?_
          refine AllReadyH.cons rfl (fun K hKK => ?_) AllReadyH.nil
          go_simp
          refine (tells_p ⟨kind, base, loc, n, wr, rd, top⟩ k a i _ (by omega) (by omega) (by omega) (by omega) hb1 (by simp only; omega) hl1 (by simp only; omega)).mono ?_
          rintro e w2 ⟨rfl, hx⟩
          clear c_c1 c_c2 c_c3 c_c4 c_c5
          replace hK := hK.trans (Keep.of_ext hx hP.lt hP.le)
          replace c1 := c1.ext hx hP.lt
          have c_c1 := c1.cells
          replace c2 := c2.ext hx hP.lt
          have c_c2 := c2.cells
          replace c3 := c3.ext hx hP.lt
          have c_c3 := c3.cells
          replace c4 := c4.ext hx hP.lt
          have c_c4 := c4.cells
          replace c5 := c5.ext hx hP.lt
          have c_c5 := c5.cells
          replace hP := hP.ext hx
          clear hx
          refine hKK.out _ _ ⟨c_c1, c_c2, c_c3, c_c4, c_c5⟩ (fun hHeld => ?_)
          clear hKK K
          try dsimp only
          refine wpAnyH_ready (rs := [7]) (by kernel_rfl) (by simp) ?_
          refine AllReadyH.cons rfl (fun K hKK => ?_) AllReadyH.nil
          go_simp
          refine tlast hO hK (slots_write_p B p S ⟨5, base + 16 * tellsM k a i, loc + (2 + 18 * tellsM k a i), n, wr, rd, 1099511627776⟩ x _ hP (by simp only; omega) (by simp only; omega) (by simp only; omega) (by simp only; omega)) (fun w' h => ⟨rfl, rfl, (round_stop h).imp fun S hS => ⟨hS.1, hS.2.1, hS.2.2.x _⟩⟩) ?_
          intro u2 S1 w5 hr hP1 hk1 hK1 hO1
          refine hKK.out _ _ ⟨(c1.keep hk1).cells, (c2.keep hk1).cells, (c3.keep hk1).cells, (c4.keep hk1).cells, (c5.keep hk1).cells⟩ (fun hHeld => ?_)
          refine wpAnyH_done (by kernel_rfl) ?_ _
          exact ⟨u2, S1, hr, hP1, hK1.x _, trivial⟩
        case done2 =>
          intro u S W hO1 hX hP _ hD
          have c2 := (KeepX.held b2 hX id)
          have c5 := (KeepX.held b5 hX id)
          have hK1 : KeepP B p W1 W := KeepX.after hK hX (fun _ h => h.elim)
          have hO := owes_shut hO1 hK1 hD hK.size hBW
          have hK := Keep.refl [2, 3, 4] B p W
          clear hO1 hX hK1 hD b1 b2 b3 b4 b5 b6 b7 c_b1 c_b2 c_b3 c_b4 c_b5 c_b6 c_b7
          have c_c2 := c2.cells
          have c_c5 := c5.cells
          generalize W0.heap.size = D2 at *
          show WpF _ _ _ _ _ _
          refine wpF_cut (fun a0 a' W' => a' = { tmps := (((((((((a0.tmps.setIfInBounds 67 (.int .i64 x)).setIfInBounds 68 (.pointer (some ⟨w.heap.size + 1, 6, none⟩))).setIfInBounds 69 (.int .i64 top)).setIfInBounds 70 (.int .i64 (clamp top 1048576))).setIfInBounds 71 (.tuple #[.int .i64 (unHi x (clamp top 1048576)), .int .i64 (unLo x (clamp top 1048576))])).setIfInBounds 66 (.tuple #[.int .i64 (unHi x (clamp top 1048576)), .int .i64 (unLo x (clamp top 1048576))])).setIfInBounds 72 (.int .i64 (unHi x (clamp top 1048576)))).setIfInBounds 73 (.int .i64 (unLo x (clamp top 1048576)))).setIfInBounds 13 (.int .i64 (unHi x (clamp top 1048576)))).setIfInBounds 14 (.int .i64 (unLo x (clamp top 1048576))), defers := a0.defers } ∧ Plays B W' p S ∧ KeepP B p W W') ?_ ?_
          · replace hP := hP.drew
            replace hK := hK.drew
            replace c2 := c2.drew
            replace c5 := c5.drew
            refine wp_region_held_drew (S := fun W' => (∀ i : Nat, W'.cell? ⟨w.heap.size + 1, i, none⟩ = (#[.int .i64 kind, .int .i64 base, .int .i64 loc, .int .i64 n, .int .i64 wr, .int .i64 rd, .int .i64 top] : Array Value)[i]?) ∧ (∀ i : Nat, W'.cell? ⟨bx, i, none⟩ = (#[.int .i64 x] : Array Value)[i]?)) (by kernel_rfl) ⟨c_c2, c_c5⟩ (fun hHeld => ?_)
            refine wpAnyH_take (i := 0) (v := ?_) rfl (by kernel_rfl) (by kernel_rfl) (by kernel_rfl) (fun _ _ _ h => h) (Or.inl ⟨by kernel_rfl, ?_⟩) (by assumption) ?_
            rotate_left
            · (intro w hSw; (try dsimp only at hSw); go_simp; try with_reducible rfl)
            try simp only [put_pack]
            refine wpAnyH_take (i := 1) (v := ?_) rfl (by kernel_rfl) (by kernel_rfl) (by kernel_rfl) (fun _ _ _ h => h) (Or.inl ⟨by kernel_rfl, ?_⟩) (by assumption) ?_
            rotate_left
            · (intro w hSw; (try dsimp only at hSw); go_simp; try with_reducible rfl)
            try simp only [put_pack]
            refine wpAnyH_take (i := 2) (v := ?_) rfl (by kernel_rfl) (by kernel_rfl) (by kernel_rfl) (fun _ _ _ h => h) (Or.inl ⟨by kernel_rfl, ?_⟩) (by assumption) ?_
            rotate_left
            · (intro w hSw; (try dsimp only at hSw); go_simp; try with_reducible rfl)
            try simp only [put_pack]
            refine wpAnyH_ready (rs := [3]) (by kernel_rfl) (by simp) ?_
            refine AllReadyH.cons rfl (fun K hKK => ?_) AllReadyH.nil
            go_simp
            refine (clamp_p _ _ _).mono ?_
            rintro e w' ⟨rfl, rfl⟩
            refine hKK.out _ _ ⟨c_c2, c_c5⟩ (fun hHeld => ?_)
            clear hKK K
            try simp only [put_pack]
            refine wpAnyH_ready (rs := [4]) (by kernel_rfl) (by simp) ?_
            refine AllReadyH.cons rfl (fun K hKK => ?_) AllReadyH.nil
            go_simp
            refine (unpack_x _ _ _).mono ?_
            rintro e w2 ⟨rfl, hx⟩
            clear c_c2 c_c5
            replace hK := hK.trans (Keep.of_ext hx hP.lt hP.le)
            replace c2 := c2.ext hx hP.lt
            have c_c2 := c2.cells
            replace c5 := c5.ext hx hP.lt
            have c_c5 := c5.cells
            replace hP := hP.ext hx
            clear hx
            refine hKK.out _ _ ⟨c_c2, c_c5⟩ (fun hHeld => ?_)
            clear hKK K
            try simp only [put_pack]
            refine wpAnyH_take (i := 5) (v := ?_) rfl (by kernel_rfl) (by kernel_rfl) (by kernel_rfl) (fun _ _ _ h => h) (Or.inl ⟨by kernel_rfl, ?_⟩) (by assumption) ?_
            rotate_left
            · (intro w hSw; (try dsimp only at hSw); go_simp; try with_reducible rfl)
            try simp only [put_pack]
            refine wpAnyH_take (i := 6) (v := ?_) rfl (by kernel_rfl) (by kernel_rfl) (by kernel_rfl) (fun _ _ _ h => h) (Or.inl ⟨by kernel_rfl, ?_⟩) (by assumption) ?_
            rotate_left
            · (intro w hSw; (try dsimp only at hSw); go_simp; try with_reducible rfl)
            try simp only [put_pack]
            refine wpAnyH_take (i := 7) (v := ?_) rfl (by kernel_rfl) (by kernel_rfl) (by kernel_rfl) (fun _ _ _ h => h) (Or.inl ⟨by kernel_rfl, ?_⟩) (by assumption) ?_
            rotate_left
            · (intro w hSw; (try dsimp only at hSw); go_simp; try with_reducible rfl)
            try simp only [put_pack]
            refine wpAnyH_take (i := 8) (v := ?_) rfl (by kernel_rfl) (by kernel_rfl) (by kernel_rfl) (fun _ _ _ h => h) (Or.inl ⟨by kernel_rfl, ?_⟩) (by assumption) ?_
            rotate_left
            · (intro w hSw; (try dsimp only at hSw); go_simp; try with_reducible rfl)
            try simp only [put_pack]
            refine wpAnyH_take (i := 9) (v := ?_) rfl (by kernel_rfl) (by kernel_rfl) (by kernel_rfl) (fun _ _ _ h => h) (Or.inl ⟨by kernel_rfl, ?_⟩) (by assumption) ?_
            rotate_left
            · (intro w hSw; (try dsimp only at hSw); go_simp; try with_reducible rfl)
            try simp only [put_pack]
            refine wpAnyH_done (by kernel_rfl) ?_ _
            exact ⟨rfl, hP, hK⟩
          · rintro a' W' ⟨rfl, hP, hK⟩
            simp only [List.setIfInBounds_toArray, List.set_cons_zero, List.set_cons_succ]
            have hf := hO.done hP hK
            refine wpF_of_wp ?_
            go_wp2_with fail
            exact leavesM_cons (fun hx => nomatch hx) hf.1 (leavesM_cons (fun hx => nomatch hx) hf.2.1 (leavesM_ret0 (v := .int .i64 (unLo x (clamp top 1048576))) (by simp [results, Tryz.results157, go_sem]) hf.2.2))
        case pan2 =>
          intro S W c hc hO1 hX hS hD
          have hK1 : KeepP B p W1 W := KeepX.after hK hX (fun _ h => h.elim)
          have hf := hO1.stop (hS.put (.deferred none) hD.2 (by have := hP.le; omega)) (hK1.put (o := .deferred none) hK.size hD.2 hBW)
          rw [hc] at hf
          exact leavesM_cons (fun hx => nomatch hx) hD.1 (leavesM_cons (fun hx => nomatch hx) hf.1 (leavesM_panic0 hf.2))
      case pan =>
        intro S W c hc hO1 hX hS hD
        have hK1 : KeepP B p w W := KeepX.after hK hX (fun b hb => by rw [hb]; exact lw)
        refine leavesM_cons (fun hx => nomatch hx) hD.1 (leavesM_panic0 ?_)
        rw [← hc]
        exact hO1.stop (hS.put _ hD.2 (by have := hP.le; omega)) (hK1.put hK.size hD.2 hBw.out)
end Go.Proofs.YtpcohbpeglledaaGreat
/-
  Registers of the program: what a number that all write is made of.
-/
namespace Go.Proofs.YtpcohbpeglledaaGreat
open Go.RowKit Kv
theorem mthreads_p (n : Int) (w : World) (h1 : 1 ≤ n) (h2 : n ≤ 8) : Calls Tryz.prog 196 #[.int .i64 n] w fun e w' => e = .returned (.int .i64 n) ∧ w = w' := by
  go_enter Tryz.func196, Tryz.ntmps196
  go_wp2_with fail
  go_ret
  exact ⟨ret_int (by show _ = _; omega), rfl⟩
theorem mmost_p (t : Int) (w : World) : Calls Tryz.prog 199 #[.int .i64 t] w fun e w' => e = .returned (.int .i64 (clamp t 255)) ∧ w = w' := by
  go_enter Tryz.func199, Tryz.ntmps199
  go_wp2_with fail
  refine (clamp_p _ _ _).mono ?_
  rintro e w' ⟨rfl, rfl⟩
  go_wp2_with fail
  go_ret
  exact ⟨rfl, rfl⟩
theorem trlocals_p (w : World) : Calls Tryz.prog 233 #[] w fun e w' => e = .returned (.int .i64 4) ∧ w = w' := by
  go_enter Tryz.func233, Tryz.ntmps233
  go_wp2_with fail
  go_ret
  exact ⟨rfl, rfl⟩
theorem slocals_p (w : World) : Calls Tryz.prog 234 #[] w fun e w' => e = .returned (.int .i64 18) ∧ w = w' := by
  go_enter Tryz.func234, Tryz.ntmps234
  go_wp2_with fail
  refine (trlocals_p _).mono ?_
  rintro e w' ⟨rfl, rfl⟩
  go_wp2_with fail
  go_ret
  exact ⟨rfl, rfl⟩
theorem sq_bd (n : Int) (h1 : 1 ≤ n) (h2 : n ≤ 8) : 0 ≤ 18 * (n - 1) ∧ 18 * (n - 1) ≤ 126 ∧ 0 ≤ 18 * (n - 1) * (n - 1) ∧ 18 * (n - 1) * (n - 1) ≤ 882 := by
  have h4 : 0 ≤ 18 * (n - 1) * (n - 1) := Int.mul_nonneg (by omega) (by omega)
  have h5 : 18 * (n - 1) * (n - 1) ≤ 126 * 7 := Int.mul_le_mul (by omega) (by omega) (by omega) (by omega)
  omega
theorem tlocals_p (n : Int) (w : World) (h1 : 1 ≤ n) (h2 : n ≤ 8) : Calls Tryz.prog 228 #[.int .i64 n] w fun e w' => e = .returned (.int .i64 (2 + 18 * (n - 1) * (n - 1))) ∧ w = w' := by
  have hs := sq_bd n h1 h2
  go_enter Tryz.func228, Tryz.ntmps228
  go_wp2_with fail
  refine (threads_p n _ h1 h2).mono ?_
  rintro e w' ⟨rfl, rfl⟩
  go_wp2_with fail
  refine (slocals_p _).mono ?_
  rintro e w' ⟨rfl, rfl⟩
  go_wp2_with fail
  go_ret
  exact ⟨rfl, rfl⟩
theorem many_bd (n j : Int) (h1 : 1 ≤ n) (h2 : n ≤ 8) (h3 : 0 ≤ j ∧ j < n) : (0 ≤ 16 * j * (n - 1) ∧ 16 * j * (n - 1) ≤ 784) ∧ (0 ≤ 16 * j * (n - 1) * (n - 1) ∧ 16 * j * (n - 1) * (n - 1) ≤ 5488) ∧ (0 ≤ j * (2 + 18 * (n - 1) * (n - 1)) ∧ j * (2 + 18 * (n - 1) * (n - 1)) ≤ 6188) := by
  have hs := sq_bd n h1 h2
  have a1 : 0 ≤ 16 * j * (n - 1) := Int.mul_nonneg (by omega) (by omega)
  have a2 : 16 * j * (n - 1) ≤ 112 * 7 := Int.mul_le_mul (by omega) (by omega) (by omega) (by omega)
  have a3 : 0 ≤ 16 * j * (n - 1) * (n - 1) := Int.mul_nonneg a1 (by omega)
  have a4 : 16 * j * (n - 1) * (n - 1) ≤ 784 * 7 := Int.mul_le_mul (by omega) (by omega) (by omega) (by omega)
  have a5 : 0 ≤ j * (2 + 18 * (n - 1) * (n - 1)) := Int.mul_nonneg (by omega) (by omega)
  have a6 : j * (2 + 18 * (n - 1) * (n - 1)) ≤ 7 * 884 := Int.mul_le_mul (by omega) (by omega) (by omega) (by omega)
  omega
set_option maxHeartbeats 1000000 in
theorem of_p (r : Reg) (j : Int) (w : World) (h1 : 1 ≤ r.n) (h2 : r.n ≤ 8) (h3 : 0 ≤ j ∧ j < r.n) (hb1 : 0 ≤ r.base) (hb2 : r.base ≤ 50000) (hl1 : 0 ≤ r.loc) (hl2 : r.loc ≤ 49000) :
    Calls Tryz.prog 198 #[encR r, .int .i64 j] w fun e w' => e = .returned (encR ⟨6, manyB r.base r.n j, manyL r.loc r.n j, r.n, j, -1, manyTop r.top⟩) ∧ Ext w w' := by
  obtain ⟨kind, base, loc, n, wr, rd, top⟩ := r
  simp only at h1 h2 h3 hb1 hb2 hl1 hl2
  have hm := many_bd n j h1 h2 h3
  have hs := sq_bd n h1 h2
  unfold encR manyB manyL manyTop
  have c1 := cell_of_heap (heap_alloc_new w (.cells #[.int .i64 kind, .int .i64 base, .int .i64 loc, .int .i64 n, .int .i64 wr, .int .i64 rd, .int .i64 top] 77))
  have w1 := IntWalk.i64_in (16 * j) (by omega)
  have w2 := IntWalk.i64_in (n - 1) (by omega)
  have w3 := IntWalk.i64_in (16 * j * (n - 1)) (by omega)
  have w4 := IntWalk.i64_in (16 * j * (n - 1) * (n - 1)) (by omega)
  have w5 := IntWalk.i64_in (base + 16 * j * (n - 1) * (n - 1)) (by omega)
  have w6 := IntWalk.i64_in (j * (2 + 18 * (n - 1) * (n - 1))) (by omega)
  have w7 := IntWalk.i64_in (loc + j * (2 + 18 * (n - 1) * (n - 1))) (by omega)
  have hmh := Lib.hid hm
  have hsh := Lib.hid hs
  clear hm hs
  go_enter Tryz.func198, Tryz.ntmps198
  go_wp2_with fail
  refine (mthreads_p n _ h1 h2).mono ?_
  rintro e w' ⟨rfl, rfl⟩
  go_wp2_with fail
  go_region_held2 (fun w' => ∀ i : Nat, w'.cell? ⟨w.heap.size, i, none⟩ = (#[.int .i64 kind, .int .i64 base, .int .i64 loc, .int .i64 n, .int .i64 wr, .int .i64 rd, .int .i64 top] : Array Value)[i]?) (first | assumption | go_keep | (intro i; simp [*]))
    (first
      | (go_at_call 228
         refine (tlocals_p n _ h1 h2).mono ?_
         rintro e w' ⟨rfl, rfl⟩)
      | (go_at_call 199
         refine (mmost_p top _).mono ?_
         rintro e w' ⟨rfl, rfl⟩)
      | (go_at_call 192
         refine (pack_p _ _ _ _).mono ?_
         rintro e w' ⟨rfl, rfl⟩))
  go_wp2_with fail
  refine bodyPost_ret (v := .agg #[.int .i64 6, .int .i64 (base + 16 * j * (n - 1) * (n - 1)), .int .i64 (loc + j * (2 + 18 * (n - 1) * (n - 1))), .int .i64 n, .int .i64 j, .int .i64 (-1), .int .i64 (packI 4095 (clamp top 255) (clamp top 255))]) (by simp [results, Tryz.results198, go_sem]) rfl ?_
  exact ⟨rfl, (((Ext.refl _).alloc _).alloc _).drewN 1⟩
end Go.Proofs.YtpcohbpeglledaaGreat
/-
  Registers of the document: what a number that all write is made of, and what all of them tell.
-/
namespace Kv
open Go Go.RowKit
/-- What all numbers from j on tell, behind what was told. -/
def allA (b l n top me : Int) : Nat → Int → List Int → Prog (List Int)
  | 0, _, out => .ret out
  | k + 1, j, out => (tableR (manyB b n j) (manyL l n j) n j (manyTop top) me).bind fun y => allA b l n top me k (j + 1) (out ++ [y])
def stepM (t : Int) (q : Int × Int) (y : Int) : Int × Int := if q.1 ≤ unHi y t then (unHi y t, unLo y t) else q
theorem allA_many (b l n top me : Int) : ∀ (k : Nat) (j : Int) (out : List Int),
    ((allA b l n top me k j out).bind fun l => .ret (l.foldl (stepM (clamp top 255)) (0, 0))) = manyRs b l n top me k j (out.foldl (stepM (clamp top 255)) (0, 0)).1 (out.foldl (stepM (clamp top 255)) (0, 0)).2
  | 0, j, out => rfl
  | k + 1, j, out => by
    unfold allA manyRs
    rw [Prog.bind_assoc]
    congr 1
    funext y
    rw [allA_many b l n top me k (j + 1) (out ++ [y]), List.foldl_append]
    simp only [List.foldl_cons, List.foldl_nil]
    generalize out.foldl (stepM (clamp top 255)) (0, 0) = q
    unfold stepM
    split <;> rfl
end Kv
namespace Go.Proofs.YtpcohbpeglledaaGreat
open Go.RowKit Kv
theorem top_r (r : Reg) (w : World) : Calls Tryz.prog 213 #[encR r] w fun e w' => e = .returned (.int .i64 (clamp r.top 255)) ∧ Ext w w' := by
  obtain ⟨kind, base, loc, n, wr, rd, top⟩ := r
  have hx := Lib.hid ((Ext.refl w).alloc (.cells #[.int .i64 kind, .int .i64 base, .int .i64 loc, .int .i64 n, .int .i64 wr, .int .i64 rd, .int .i64 top] 77))
  unfold encR
  go_enter Tryz.func213, Tryz.ntmps213
  go_wp2_with fail
  refine (clamp_r _ _ _).mono ?_
  rintro e w' ⟨rfl, rfl⟩
  go_wp2_with fail
  go_ret
  exact ⟨rfl, hx.out⟩
set_option maxHeartbeats 2000000 in
theorem number_rm (r : Reg) (j : Int) (w : World) (h1 : 1 ≤ r.n) (h2 : r.n ≤ 8) (h3 : 0 ≤ j ∧ j < r.n) (hb1 : 0 ≤ r.base) (hb2 : r.base ≤ 50000) (hl1 : 0 ≤ r.loc) (hl2 : r.loc ≤ 49000) :
    Calls Tryz.prog 214 #[encR r, .int .i64 j] w fun e w' => e = .returned (encR ⟨0, manyB r.base r.n j, manyL r.loc r.n j, r.n, j, 0, manyTop r.top⟩) ∧ Ext w w' := by
  obtain ⟨kind, base, loc, n, wr, rd, top⟩ := r
  simp only at h1 h2 h3 hb1 hb2 hl1 hl2
  have hm := many_bd n j h1 h2 h3
  have hs := sq_bd n h1 h2
  unfold encR manyB manyL manyTop
  have hX := Ext.refl w
  have b1 := Blk.new w (.cells #[.int .i64 kind, .int .i64 base, .int .i64 loc, .int .i64 n, .int .i64 wr, .int .i64 rd, .int .i64 top] 77)
  replace hX := hX.alloc (.cells #[.int .i64 kind, .int .i64 base, .int .i64 loc, .int .i64 n, .int .i64 wr, .int .i64 rd, .int .i64 top] 77)
  have b2 := Blk.new (w.alloc (.cells #[.int .i64 kind, .int .i64 base, .int .i64 loc, .int .i64 n, .int .i64 wr, .int .i64 rd, .int .i64 top] 77)) (.cells #[.int .i64 0, .int .i64 0, .int .i64 0, .int .i64 0, .int .i64 0, .int .i64 0, .int .i64 0] 77)
  simp only [World.size_alloc] at b2
  replace b1 := b1.alloc (.cells #[.int .i64 0, .int .i64 0, .int .i64 0, .int .i64 0, .int .i64 0, .int .i64 0, .int .i64 0] 77)
  replace hX := hX.alloc (.cells #[.int .i64 0, .int .i64 0, .int .i64 0, .int .i64 0, .int .i64 0, .int .i64 0, .int .i64 0] 77)
  have c_b1 := b1.cells
  have c_b2 := b2.cells
  have w1 := IntWalk.i64_in (j * 16) (by omega)
  have w2 := IntWalk.i64_in (n - 1) (by omega)
  rw [show (16 : Int) * j = j * 16 from Int.mul_comm _ _] at hm ⊢
  have w3 := IntWalk.i64_in (j * 16 * (n - 1)) (by omega)
  have w4 := IntWalk.i64_in (j * 16 * (n - 1) * (n - 1)) (by omega)
  have w5 := IntWalk.i64_in (base + j * 16 * (n - 1) * (n - 1)) (by omega)
  have w6 := IntWalk.i64_in (j * (2 + 18 * (n - 1) * (n - 1))) (by omega)
  have w7 := IntWalk.i64_in (loc + j * (2 + 18 * (n - 1) * (n - 1))) (by omega)
  have w8 := IntWalk.i64_in (18 * (n - 1)) (by omega)
  have w9 := IntWalk.i64_in (18 * (n - 1) * (n - 1)) (by omega)
  have w10 := IntWalk.i64_in (2 + 18 * (n - 1) * (n - 1)) (by omega)
  have hmh := Lib.hid hm
  have hsh := Lib.hid hs
  clear hm hs
  go_enter Tryz.func214, Tryz.ntmps214
  go_wp2_with fail
  refine (rn_r ⟨kind, base, loc, n, wr, rd, top⟩ _ h1 h2).mono ?_
  rintro e w2 ⟨rfl, hx⟩
  clear c_b1 c_b2
  replace b1 := b1.ext hx
  have c_b1 := b1.cells
  replace b2 := b2.ext hx
  have c_b2 := b2.cells
  replace hX := hX.trans hx
  clear hx
  go_wp2_with fail
  replace hX := hX.drew
  replace b1 := b1.drew
  replace b2 := b2.drew
  go_region_held2 (fun w' => ∀ i : Nat, w'.cell? ⟨w.heap.size, i, none⟩ = (#[.int .i64 kind, .int .i64 base, .int .i64 loc, .int .i64 n, .int .i64 wr, .int .i64 rd, .int .i64 top] : Array Value)[i]?) (first | with_reducible exact c_b1 | go_keep)
    (first
      | (go_at_call 213
         refine (top_r ⟨kind, base, loc, n, wr, rd, top⟩ _).mono ?_
         rintro e w2 ⟨rfl, hx⟩
         clear c_b1 c_b2
         replace b1 := b1.ext hx
         have c_b1 := b1.cells
         replace b2 := b2.ext hx
         have c_b2 := b2.cells
         replace hX := hX.trans hx
         clear hx)
      | (go_at_call 208
         refine (pack_r _ _ _ _).mono ?_
         rintro e w' ⟨rfl, rfl⟩
         have f_b2 := frozen_of_heap b2))
  go_wp2_with fail
  refine bodyPost_ret (v := .agg #[.int .i64 0, .int .i64 (base + j * 16 * (n - 1) * (n - 1)), .int .i64 (loc + j * (2 + 18 * (n - 1) * (n - 1))), .int .i64 n, .int .i64 j, .int .i64 0, .int .i64 (packI 4095 (clamp top 255) (clamp top 255))]) (by simp [results, Tryz.results214, go_sem, c_b2]) rfl ?_
  refine ⟨rfl, ?_⟩
  have hb : w.heap.size ≤ w.heap.size + 1 := Nat.le_succ _
  exact ((((((hX.setCell hb _).setCell hb _).setCell hb _).setCell hb _).setCell hb _).setCell hb _).setCell hb _
end Go.Proofs.YtpcohbpeglledaaGreat
/-
  Registers of the document: what all numbers tell, one behind the other.
-/
namespace Go.Proofs.YtpcohbpeglledaaGreat
open Go.RowKit Kv
/-- A row of ints beside what the document's Mem owns. -/
def RowX (n0 p : Nat) (w : World) (v : Value) (l : List Int) : Prop := w.ownsRow n0 3 1 v l.length (l.map (Value.int .i64)) ∧ ∀ g, v.ownBlock = some g → ¬ ownR [3, 4, 5] w p g
section
variable {n0 B p : Nat} {w w' w1 w0 : World} {o : Bool} {S : TS} {v : Value} {l : List Int}
theorem RowX.nil (n0 p : Nat) (w : World) : RowX n0 p w (.slice none 0 0) [] := ⟨World.ownsRow_nil _ _ _ _, fun g h => by simp [Value.ownBlock] at h⟩
theorem RowX.keep (h : RowX n0 p w v l) (k : KeepR B p w w') : RowX n0 p w' v l := by
  obtain ⟨⟨h1, h2⟩, h3⟩ := h
  rcases h2 with h2 | ⟨g, cap, cur, rfl, hg, hh, r1, r2, r3, r4⟩
  · exact ⟨⟨h1, .inl h2⟩, fun g e => by rw [h2.1] at e; simp [Value.ownBlock] at e⟩
  · obtain ⟨k1, k2⟩ := k.rest g (Array.getElem?_eq_some_iff.1 hh).1 (h3 g rfl)
    exact ⟨⟨h1, .inr ⟨g, cap, cur, rfl, hg, k1.trans hh, r1, r2, r3, r4⟩⟩, fun b e => by simp only [Value.ownBlock, Option.some.injEq] at e; subst e; exact k2⟩
theorem RowX.ext (h : RowX n0 p w v l) (hP : RAt B w p o S) (hx : Ext w w') : RowX n0 p w' v l := h.keep (B := B) (Keep.of_ext hx hP.lt hP.le)
theorem RAt.grown {row : Option Nat} (h : RAt B w p o S) (hg : w.grownBy w' row) (hn : ∀ g, row = some g → B ≤ g ∧ ¬ ownR [3, 4, 5] w p g) : RAt B w' p o S := by
  obtain ⟨n, vA, vC, vN, vL, L, h, h0⟩ := h
  have hne : row ≠ some p := fun e => (hn p e).2 (.inl rfl)
  refine ⟨n, vA, vC, vN, vL, L, { h with heap := grown_heap h.heap hne hg, ans := ints_grown h.ans hg ?_, rowL := h.rowL.kept hg ?_, rowC := h.rowC.kept hg ?_, rowN := h.rowN.kept hg ?_ }, h0⟩
  · intro b hb e
    have := h.ansB b hb
    have := (hn b e).1
    omega
  all_goals
    cases row with
    | none => cases hv : Value.ownBlock _ with
      | none => exact .inl rfl
      | some g => exact .inr (fun e => by cases e)
    | some g =>
      refine .inr (fun e => (hn g rfl).2 ?_)
      first
        | exact ownR_at h.heap (by simp) (i := 5) rfl e
        | exact ownR_at h.heap (by simp) (i := 3) rfl e
        | exact ownR_at h.heap (by simp) (i := 4) rfl e
theorem own_grown {row : Option Nat} (h : RAt B w p o S) (hg : w.grownBy w' row) (hn : ∀ g, row = some g → B ≤ g ∧ ¬ ownR [3, 4, 5] w p g) (b : Nat) : ownR [3, 4, 5] w' p b ↔ ownR [3, 4, 5] w p b :=
  ownR_same (hg.block p h.lt (fun e => (hn p e.symm).2 (.inl rfl))) b
theorem Keep.grownR {row : Option Nat} (k : KeepR B p w0 w) (h : RAt B w p o S) (hg : w.grownBy w' row) (hn : ∀ g, row = some g → B ≤ g ∧ ¬ ownR [3, 4, 5] w p g) (h0 : ∀ g, row = some g → w0.heap.size ≤ g) (hB : B ≤ w0.heap.size) : KeepR B p w0 w' := by
  refine ⟨⟨hg.os.trans k.below.os, hg.tape.trans k.below.tape, hg.output.trans k.below.output, Nat.le_trans k.below.size hg.size, fun b hb => ?_⟩, fun b hb ho => ?_⟩
  · exact (hg.block b (by have := k.size; omega) (fun e => by have := h0 b e.symm; omega)).trans (k.below.block b hb)
  · obtain ⟨k1, k2⟩ := k.rest b hb ho
    exact ⟨(hg.block b (by have := k.size; omega) (fun e => by have := h0 b e.symm; omega)).trans k1, fun e => k2 ((own_grown h hg hn b).1 e)⟩
theorem Held.grownR {row : Option Nat} {b : Nat} {ob : Obj} (hh : HeldR w p b ob) (h : RAt B w p o S) (hg : w.grownBy w' row) (hn : ∀ g, row = some g → B ≤ g ∧ ¬ ownR [3, 4, 5] w p g) (hb : row ≠ some b) : HeldR w' p b ob :=
  ⟨grown_heap hh.1 hb hg, fun e => hh.2 ((own_grown h hg hn b).1 e)⟩
end
set_option maxRecDepth 100000 in
set_option maxHeartbeats 2000000 in
theorem all_r (B p : Nat) (o : Bool) (S : TS) (r : Reg) (me : Int) (w : World) (h : RAt B w p o S) (hn1 : 1 ≤ r.n) (hn2 : r.n ≤ 8) (hm : 0 ≤ me ∧ me < r.n) (hb1 : 0 ≤ r.base) (hb2 : r.base ≤ 50000) (hl1 : 0 ≤ r.loc) (hl2 : r.loc ≤ 49000) :
    Calls Tryz.prog 211 #[.pointer (some ⟨p, 0, none⟩), encR r, .int .i64 me] w fun e w' => ∃ A c l o' S', e = .returned (.slice A l.length c) ∧ Ref (allA r.base r.loc r.n r.top me r.n.toNat 0 []) o S l o' S' ∧ RAt B w' p o' S' ∧ KeepR B p w w' ∧ Ints w' (.slice A l.length c) l ∧ l.length = r.n.toNat := by
  obtain ⟨kind, base, loc, n, wt, rd, top⟩ := r
  simp only at hn1 hn2 hm hb1 hb2 hl1 hl2 ⊢
  obtain ⟨N, rfl⟩ : ∃ N : Nat, n = (N : Int) := ⟨n.toNat, by omega⟩
  rw [Int.toNat_natCast]
  unfold encR
  have hK := Keep.refl [3, 4, 5] B p w
  have hP := h
  have b1 := hP.held (.cells #[.int .i64 kind, .int .i64 base, .int .i64 loc, .int .i64 (N : Int), .int .i64 wt, .int .i64 rd, .int .i64 top] 77)
  replace hK := hK.trans (Keep.alloc (.cells #[.int .i64 kind, .int .i64 base, .int .i64 loc, .int .i64 (N : Int), .int .i64 wt, .int .i64 rd, .int .i64 top] 77) hP.lt hP.le)
  replace hP := hP.alloc (.cells #[.int .i64 kind, .int .i64 base, .int .i64 loc, .int .i64 (N : Int), .int .i64 wt, .int .i64 rd, .int .i64 top] 77)
  have c_b1 := b1.cells
  have hBw := Lib.hid h.le
  clear h
  go_enter Tryz.func211, Tryz.ntmps211
  go_wp2_with fail
  go_loopw [7, 8] (fun v z wr' => ∃ (j : Nat) (out : List Int) (o1 : Bool) (S1 : TS), z = .int .i64 j ∧ j ≤ N ∧ out.length = j ∧ RowX (w.heap.size + 1) p wr' v out ∧ HeldR wr' p w.heap.size (.cells #[.int .i64 kind, .int .i64 base, .int .i64 loc, .int .i64 (N : Int), .int .i64 wt, .int .i64 rd, .int .i64 top] 77) ∧ RAt B wr' p o1 S1 ∧ KeepR B p w wr' ∧ (∀ l' o' S', Ref (allA base loc N top me (N - j) j out) o1 S1 l' o' S' → Ref (allA base loc N top me N 0 []) o S l' o' S')) (fun _ z _ => N - (intOf z).toNat)
  case atStart => exact ⟨0, [], o, S, rfl, by omega, rfl, RowX.nil _ _ _, b1, hP, hK, fun _ _ _ h => by rw [Nat.sub_zero] at h; exact h⟩
  case round =>
    clear b1 c_b1 hP hK
    obtain ⟨j, out, o1, S1, rfl, hj, hlen, hrow, b1, hP, hK, hO⟩ := hrel
    have c_b1 := b1.cells
    have hOh := Lib.hid hO
    clear hO
    by_cases hjn : j < N
    · obtain ⟨k, hk⟩ : ∃ k, N - j = k + 1 := ⟨N - j - 1, by omega⟩
      have hkh := Lib.hid hk
      have hmb := many_bd N j hn1 hn2 (by omega)
      have hmbh := Lib.hid hmb
      clear hk hmb
      go_wp2_with fail
      refine (rn_r ⟨kind, base, loc, (N : Int), wt, rd, top⟩ _ hn1 hn2).mono ?_
      rintro e w2 ⟨rfl, hx⟩
      clear c_b1
      replace hrow := hrow.ext hP hx
      replace hK := hK.trans (Keep.of_ext hx hP.lt hP.le)
      replace b1 := b1.ext hx hP.lt
      have c_b1 := b1.cells
      replace hP := hP.ext hx
      clear hx
      go_wp2_with fail
      refine (number_rm ⟨kind, base, loc, (N : Int), wt, rd, top⟩ j _ hn1 hn2 (by simp only; omega) hb1 hb2 hl1 hl2).mono ?_
      rintro e w2 ⟨rfl, hx⟩
      clear c_b1
      replace hrow := hrow.ext hP hx
      replace hK := hK.trans (Keep.of_ext hx hP.lt hP.le)
      replace b1 := b1.ext hx hP.lt
      have c_b1 := b1.cells
      replace hP := hP.ext hx
      clear hx
      go_wp2_with fail
      have hmb := hmbh.out
      refine (table_read_r B p o1 S1 ⟨0, manyB base N j, manyL loc N j, N, j, 0, manyTop top⟩ me _ hP hn1 hn2 (by simp only; omega) (by simp only; omega) hm (by simp only [manyB]; omega) (by simp only [manyB]; omega) (by simp only [manyL]; omega) (by simp only [manyL]; omega)).mono ?_
      rintro e w1 ⟨y, o2, S2, rfl, hr, hP1, hk⟩
      clear hmb hmbh c_b1
      replace hrow := hrow.keep hk
      replace b1 := b1.keep hk
      replace hK := hK.trans hk
      replace hP := hP1
      clear hP1 hk
      have hO2 := Lib.hid (fun (l' : List Int) (o' : Bool) (S' : TS) (h : Ref (allA base loc N top me k ((j : Int) + 1) (out ++ [y])) o2 S2 l' o' S') => hOh.out l' o' S' (by rw [hkh.out]; exact hr.bind h))
      clear hr hOh
      have hrh := Lib.hid hrow
      have hPh := Lib.hid hP
      have hKh := Lib.hid hK
      have hbh := Lib.hid b1
      have hsz : w.heap.size + 1 ≤ w1.heap.size := by have := b1.lt; omega
      have hlh := Lib.hid hlen
      clear hrow hP hK b1 hlen
      go_wp2_with (at_builtin; refine append_int_at rfl _ _ rfl (w.heap.size + 1) _ out y hrh.out.1 rfl rfl (by have := hlh.out; omega) hsz ?_)
      intro g cap w2 hown hgrow hat
      have hn : ∀ g, Value.ownBlock u7 = some g → B ≤ g ∧ ¬ ownR [3, 4, 5] w1 p g := fun g hg => ⟨by have := (hrh.out.1.lt g hg).1; have := hBw.out; omega, hrh.out.2 g hg⟩
      have hP := hPh.out.grown hgrow hn
      have hK := hKh.out.grownR hPh.out hgrow hn (fun g hg => by have := (hrh.out.1.lt g hg).1; omega) hBw.out
      have b1 := hbh.out.grownR hPh.out hgrow hn (fun hg => by have := (hrh.out.1.lt _ hg).1; omega)
      have hrow : RowX (w.heap.size + 1) p w2 (.slice (some ⟨g, 0, none⟩) (out.length + 1) cap) (out ++ [y]) := by
        refine ⟨by rw [List.length_append, List.length_singleton, List.map_append]; exact hown, fun b e => ?_⟩
        simp only [Value.ownBlock, Option.some.injEq] at e
        subst e
        rw [own_grown hPh.out hgrow hn]
        rcases hat with e | e
        · exact hrh.out.2 _ e
        · intro ho
          obtain ⟨_, _, _, _, _, _, hM, _⟩ := hPh.out
          have := (hM.own ho).2
          omega
      have HH := Lib.hid (⟨hP, hK, b1, hrow⟩ : _ ∧ _ ∧ _ ∧ _)
      clear hP hK b1 hrow hown hgrow hat hn hrh hPh hKh hbh
      go_wp2_with fail
      go_roundw
      case rel =>
        refine ⟨j + 1, out ++ [y], o2, S2, by go_num, by omega, by simp [hlh.out], HH.out.2.2.2, HH.out.2.2.1, HH.out.1, HH.out.2.1, ?_⟩
        rw [show N - (j + 1) = k from by have := hkh.out; omega]
        exact hO2.out
      case measure => simp [intOf]; omega
    · obtain rfl : N = j := by omega
      go_wp2_with fail
      refine (rn_r ⟨kind, base, loc, (N : Int), wt, rd, top⟩ _ hn1 hn2).mono ?_
      rintro e w2 ⟨rfl, hx⟩
      clear c_b1
      replace hrow := hrow.ext hP hx
      replace hK := hK.trans (Keep.of_ext hx hP.lt hP.le)
      replace b1 := b1.ext hx hP.lt
      have c_b1 := b1.cells
      replace hP := hP.ext hx
      clear hx
      obtain ⟨A, c, rfl, hc1, hc2⟩ := (IntRow.ints hrow.1).slice
      have hf : Ref (allA base loc N top me N 0 []) o S out o1 S1 := hOh.out _ _ _ (by rw [Nat.sub_self]; exact Ref.ret _ _ _)
      have hI := Lib.hid (IntRow.ints hrow.1)
      have hPh := Lib.hid hP
      have hKh := Lib.hid hK
      have hlh := Lib.hid hlen
      clear hrow hP hK hlen hOh
      go_wp2_with fail
      go_ret
      exact ⟨A, c, out, o1, S1, rfl, hf, hPh.out, hKh.out, hI.out, hlh.out⟩
end Go.Proofs.YtpcohbpeglledaaGreat
/-
  Registers of the program: a number that all write, written and read.
-/
namespace Go.Proofs.YtpcohbpeglledaaGreat
open Go.RowKit Kv
def encP (q : Int × Int) : Value := .agg #[.int .i64 q.1, .int .i64 q.2]
@[go_sem] theorem encP_eq (q : Int × Int) : encP q = .agg #[.int .i64 q.1, .int .i64 q.2] := rfl
theorem Held.set2 {ix : List Nat} {w : World} {p b : Nat} {u v : Value} {t : TypeId} (h : Held ix w p b (.cells #[u, v] t (0, 0))) (u' v' : Value) : Held ix ((w.setCell ⟨b, 0, none⟩ u').setCell ⟨b, 1, none⟩ v') p b (.cells #[u', v'] t (0, 0)) := by
  have h1 : Held ix (w.setCell ⟨b, 0, none⟩ u') p b (.cells #[u', v] t (0, 0)) := ⟨heap_setCell h.1 u', fun h' => h.2 ((ownR_same ((OneB.setCell w b 0 u').block p (fun e => h.2 (.inl e.symm))) b).1 h')⟩
  exact ⟨heap_setCell h1.1 v', fun h' => h1.2 ((ownR_same ((OneB.setCell _ b 1 v').block p (fun e => h1.2 (.inl e.symm))) b).1 h')⟩
theorem OneB.set2 (w : World) (b : Nat) (u v : Value) : OneB b w ((w.setCell ⟨b, 0, none⟩ u).setCell ⟨b, 1, none⟩ v) :=
  ⟨rfl, rfl, rfl, by simp, fun k hk => (heap_setCell_ne _ v hk).trans (heap_setCell_ne w u hk)⟩
theorem manyRs_step (b l n top me : Int) (k : Nat) (j s v : Int) : manyRs b l n top me (k + 1) j s v = (tableR (manyB b n j) (manyL l n j) n j (manyTop top) me).bind fun y =>
      if s ≤ unHi y (clamp top 255) then manyRs b l n top me k (j + 1) (unHi y (clamp top 255)) (unLo y (clamp top 255)) else manyRs b l n top me k (j + 1) s v := rfl
set_option maxHeartbeats 2000000 in
theorem greatest_p (B p : Nat) (S : TS) (r : Reg) (me : Int) (w : World) (h : Plays B w p S) (hn1 : 1 ≤ r.n) (hn2 : r.n ≤ 8) (hm : 0 ≤ me ∧ me < r.n) (hb1 : 0 ≤ r.base) (hb2 : r.base ≤ 50000) (hl1 : 0 ≤ r.loc) (hl2 : r.loc ≤ 49000) :
    Calls Tryz.prog 197 #[.pointer (some ⟨p, 0, none⟩), encR r, .int .i64 me] w (Post encP B p w ((manyRs r.base r.loc r.n r.top me r.n.toNat 0 0 0).run S)) := by
  generalize hR : Post encP B p w ((manyRs r.base r.loc r.n r.top me r.n.toNat 0 0 0).run S) = R
  have hO : Owes R encP B p w ((manyRs r.base r.loc r.n r.top me r.n.toNat 0 0 0).run S) := hR ▸ owes _ _ _ _ _
  clear hR
  obtain ⟨kind, base, loc, n, wr', rd, top⟩ := r
  simp only at hn1 hn2 hm hb1 hb2 hl1 hl2 hO
  unfold encR
  have hK := Keep.refl [2, 3, 4] B p w
  have hP := h
  have b1 := hP.held (.cells #[.int .i64 kind, .int .i64 base, .int .i64 loc, .int .i64 n, .int .i64 wr', .int .i64 rd, .int .i64 top] 77)
  replace hK := hK.trans (Keep.alloc (.cells #[.int .i64 kind, .int .i64 base, .int .i64 loc, .int .i64 n, .int .i64 wr', .int .i64 rd, .int .i64 top] 77) hP.lt hP.le)
  replace hP := hP.alloc (.cells #[.int .i64 kind, .int .i64 base, .int .i64 loc, .int .i64 n, .int .i64 wr', .int .i64 rd, .int .i64 top] 77)
  have b2 := hP.held (.cells #[.int .i64 0, .int .i64 0] 142)
  simp only [World.size_alloc] at b2
  replace b1 := b1.alloc (.cells #[.int .i64 0, .int .i64 0] 142) hP.lt
  replace hK := hK.trans (Keep.alloc (.cells #[.int .i64 0, .int .i64 0] 142) hP.lt hP.le)
  replace hP := hP.alloc (.cells #[.int .i64 0, .int .i64 0] 142)
  have b3 := hP.held (.cells #[.int .i64 0, .int .i64 0] 142)
  simp only [World.size_alloc] at b3
  replace b1 := b1.alloc (.cells #[.int .i64 0, .int .i64 0] 142) hP.lt
  replace b2 := b2.alloc (.cells #[.int .i64 0, .int .i64 0] 142) hP.lt
  replace hK := hK.trans (Keep.alloc (.cells #[.int .i64 0, .int .i64 0] 142) hP.lt hP.le)
  replace hP := hP.alloc (.cells #[.int .i64 0, .int .i64 0] 142)
  have c_b1 := b1.cells
  have c_b2 := b2.cells
  have c_b3 := b3.cells
  have hBw := Lib.hid h.le
  clear h
  go_enter Tryz.func197, Tryz.ntmps197
  go_wp2_with fail
  refine (mthreads_p n _ hn1 hn2).mono ?_
  rintro e w' ⟨rfl, rfl⟩
  go_wp2_with fail
  obtain ⟨N, rfl⟩ : ∃ N : Nat, n = (N : Int) := ⟨n.toNat, by omega⟩
  rw [Int.toNat_natCast] at hO
  go_loopw [14] (fun z wr => ∃ (j : Nat) (s v : Int) (S : TS), z = .int .i64 j ∧ j ≤ N ∧ HeldP wr p w.heap.size (.cells #[.int .i64 kind, .int .i64 base, .int .i64 loc, .int .i64 (N : Int), .int .i64 wr', .int .i64 rd, .int .i64 top] 77) ∧ HeldP wr p (w.heap.size + 1) (.cells #[.int .i64 0, .int .i64 0] 142) ∧ HeldP wr p (w.heap.size + 1 + 1) (.cells #[.int .i64 s, .int .i64 v] 142) ∧ Plays B wr p S ∧ KeepP B p w wr ∧ Owes R encP B p w ((manyRs base loc N top me (N - j) j s v).run S)) (fun z _ => N - (intOf z).toNat)
  case atStart => exact ⟨0, 0, 0, S, rfl, by omega, b1, b2, b3, hP, hK, hO⟩
  case round =>
    clear b1 b2 b3 c_b1 c_b2 c_b3 hO hP hK
    obtain ⟨j, s, v, S, rfl, hj, b1, b2, b3, hP, hK, hO⟩ := hrel
    have c_b1 := b1.cells
    have c_b2 := b2.cells
    have c_b3 := b3.cells
    by_cases hlt : j < N
    · obtain ⟨k, hk⟩ : ∃ k, N - j = k + 1 := ⟨N - j - 1, by omega⟩
      have hkh := Lib.hid hk
      rw [hk, manyRs_step] at hO
      clear hk
      have hm2 := many_bd N j hn1 hn2 (by omega)
      go_wp2_with fail
      replace hP := hP.drew
      replace hK := hK.drew
      replace b1 := b1.drew
      replace b2 := b2.drew
      replace b3 := b3.drew
      go_region_held2 (fun w' => ∀ i : Nat, w'.cell? ⟨w.heap.size, i, none⟩ = (#[.int .i64 kind, .int .i64 base, .int .i64 loc, .int .i64 (N : Int), .int .i64 wr', .int .i64 rd, .int .i64 top] : Array Value)[i]?) (first | exact c_b1 | go_keep)
        (first
          | (go_at_call 198
             refine (of_p ⟨kind, base, loc, N, wr', rd, top⟩ j _ hn1 hn2 (by simp only; omega) hb1 hb2 hl1 hl2).mono ?_
             rintro e w2 ⟨rfl, hx⟩
             clear c_b1 c_b2 c_b3
             replace hK := hK.trans (Keep.of_ext hx hP.lt hP.le)
             replace b1 := b1.ext hx hP.lt
             have c_b1 := b1.cells
             replace b2 := b2.ext hx hP.lt
             have c_b2 := b2.cells
             replace b3 := b3.ext hx hP.lt
             have c_b3 := b3.cells
             replace hP := hP.ext hx
             clear hx)
          | (go_at_call 157
             refine tstep hO hK (table_read_p B p S ⟨6, manyB base N j, manyL loc N j, N, j, -1, manyTop top⟩ me _ hP hn1 hn2 (by simp only; omega) (by simp only; omega) hm (by simp only [manyB]; omega) (by simp only [manyB]; omega) (by simp only [manyL]; omega) (by simp only [manyL]; omega)) (fun _ h => ⟨rfl, h⟩) ?_
             clear hO hK hP c_b1 c_b2 c_b3
             intro y S w1 hr hP hk hK hO
             replace b1 := b1.keep hk
             have c_b1 := b1.cells
             replace b2 := b2.keep hk
             have c_b2 := b2.cells
             replace b3 := b3.keep hk
             have c_b3 := b3.cells
             clear hk hr)
          | (go_at_call 199
             refine (mmost_p top _).mono ?_
             rintro e w' ⟨rfl, rfl⟩)
          | (go_at_call 204
             refine (unpack_x _ _ _).mono ?_
             rintro e w2 ⟨rfl, hx⟩
             clear c_b1 c_b2 c_b3
             replace hK := hK.trans (Keep.of_ext hx hP.lt hP.le)
             replace b1 := b1.ext hx hP.lt
             have c_b1 := b1.cells
             replace b2 := b2.ext hx hP.lt
             have c_b2 := b2.cells
             replace b3 := b3.ext hx hP.lt
             have c_b3 := b3.cells
             replace hP := hP.ext hx
             clear hx))
      clear hm2
      generalize unHi y (clamp top 255) = hi at *
      generalize unLo y (clamp top 255) = lo at *
      have hks := Lib.hid hK.size
      by_cases hs : s ≤ hi
      · rw [if_pos hs] at hO
        have f_b3 := frozen_of_heap b3.1
        have hOh := Lib.hid hO
        have hPh := Lib.hid hP
        have hKh := Lib.hid hK
        clear hO hP hK
        have n3 := b3.2
        go_wp2_with fail
        have o3 := OneB.set2 w2 (w.heap.size + 1 + 1) (.int .i64 hi) (.int .i64 lo)
        refine ⟨⟨j + 1, hi, lo, S, by go_num, by omega, b1.one o3 (by omega) n3, b2.one o3 (by omega) n3, b3.set2 _ _, hPh.out.one o3 n3 (by have := hBw.out; omega), hKh.out.one o3 (by omega) n3 hBw.out, ?_⟩, by simp [intOf]; omega⟩
        rw [show N - (j + 1) = k from by have := hkh.out; omega, show ((j + 1 : Nat) : Int) = (j : Int) + 1 from by omega]
        exact hOh.out
      · rw [if_neg hs] at hO
        have hOh := Lib.hid hO
        have hPh := Lib.hid hP
        have hKh := Lib.hid hK
        clear hO hP hK
        go_wp2_with fail
        refine ⟨⟨j + 1, s, v, S, by go_num, by omega, b1, b2, b3, hPh.out, hKh.out, ?_⟩, by simp [intOf]; omega⟩
        rw [show N - (j + 1) = k from by have := hkh.out; omega, show ((j + 1 : Nat) : Int) = (j : Int) + 1 from by omega]
        exact hOh.out
    · obtain rfl : j = N := by omega
      rw [Nat.sub_self] at hO
      have f_b2 := frozen_of_heap b2.1
      have o2 := OneB.set2 wr (w.heap.size + 1) (.int .i64 s) (.int .i64 v)
      have hf : R (.returned (encP (s, v))) _ := hO.done (hP.one o2 b2.2 (by have := hBw.out; omega)) (hK.one o2 (by omega) b2.2 hBw.out)
      have hr := (b2.set2 (.int .i64 s) (.int .i64 v)).cells
      clear hO o2
      go_wp2_with fail
      exact bodyPost_ret (v := .agg #[.int .i64 s, .int .i64 v]) (by simp [results, Tryz.results197, go_sem, hr]) rfl hf
theorem unHi_bd (y t : Int) : 0 ≤ unHi y t ∧ unHi y t ≤ 4398046511104 := by
  have h1 := unX_bd y
  have h2 := room_bd t
  unfold unHi
  exact ⟨Int.ediv_nonneg h1.1 (by omega), Int.le_trans (Int.ediv_le_self _ h1.1) h1.2⟩
theorem manyRs_le (b l n top me : Int) : ∀ (k : Nat) (j s v : Int) (S : TS) (q : Int × Int) (S1 : TS), (manyRs b l n top me k j s v).run S = (some q, S1) → 0 ≤ s ∧ s ≤ 4398046511104 → 0 ≤ q.1 ∧ q.1 ≤ 4398046511104
  | 0, j, s, v, S, q, S1, h, hs => by
    cases h
    exact hs
  | k + 1, j, s, v, S, q, S1, h, hs => by
    rw [manyRs_step, Prog.run_bind] at h
    generalize (tableR (manyB b n j) (manyL l n j) n j (manyTop top) me).run S = r at h
    obtain ⟨o, S2⟩ := r
    cases o with
    | none => cases h
    | some y =>
      simp only [thenR] at h
      split at h
      · exact manyRs_le b l n top me k _ _ _ _ _ _ h (unHi_bd _ _)
      · exact manyRs_le b l n top me k _ _ _ _ _ _ h hs
set_option maxRecDepth 100000 in
theorem many_write_p (B p : Nat) (S : TS) (r : Reg) (me v : Int) (w : World) (h : Plays B w p S) (hn1 : 1 ≤ r.n) (hn2 : r.n ≤ 8) (hm : 0 ≤ me ∧ me < r.n) (hb1 : 0 ≤ r.base) (hb2 : r.base ≤ 50000) (hl1 : 0 ≤ r.loc) (hl2 : r.loc ≤ 49000) :
    Calls Tryz.prog 151 #[.pointer (some ⟨p, 0, none⟩), encR r, .int .i64 me, .int .i64 v] w (Post encU B p w ((manyW r.base r.loc r.n r.top me v).run S)) := by
  generalize hR : Post encU B p w ((manyW r.base r.loc r.n r.top me v).run S) = R
  have hO : Owes R encU B p w ((manyW r.base r.loc r.n r.top me v).run S) := hR ▸ owes _ _ _ _ _
  clear hR
  obtain ⟨kind, base, loc, n, wr, rd, top⟩ := r
  simp only at hn1 hn2 hm hb1 hb2 hl1 hl2 hO
  unfold encR
  have hK := Keep.refl [2, 3, 4] B p w
  have hP := h
  have b1 := hP.held (.cells #[.int .i64 kind, .int .i64 base, .int .i64 loc, .int .i64 n, .int .i64 wr, .int .i64 rd, .int .i64 top] 77)
  replace hK := hK.trans (Keep.alloc (.cells #[.int .i64 kind, .int .i64 base, .int .i64 loc, .int .i64 n, .int .i64 wr, .int .i64 rd, .int .i64 top] 77) hP.lt hP.le)
  replace hP := hP.alloc (.cells #[.int .i64 kind, .int .i64 base, .int .i64 loc, .int .i64 n, .int .i64 wr, .int .i64 rd, .int .i64 top] 77)
  have c_b1 := b1.cells
  clear h
  unfold manyW at hO
  have hd1 : decide (me < 0) = false := by simpa using hm.1
  have hd2 : decide (n ≤ me) = false := by simpa using hm.2
  go_enter Tryz.func151, Tryz.ntmps151
  go_wp2_with fail
  refine (mthreads_p n _ hn1 hn2).mono ?_
  rintro e w' ⟨rfl, rfl⟩
  go_wp2_with fail
  refine tstep hO hK (greatest_p B p S ⟨kind, base, loc, n, wr, rd, top⟩ me _ hP hn1 hn2 hm hb1 hb2 hl1 hl2) (fun _ h => ⟨rfl, h⟩) ?_
  clear hO hK hP c_b1
  intro q S w1 hr hP hk hK hO
  replace b1 := b1.keep hk
  have c_b1 := b1.cells
  have hq := manyRs_le _ _ _ _ _ _ _ _ _ _ _ _ hr (by omega)
  obtain ⟨q1, q2⟩ := q
  simp only at hq hO
  have hq1 := IntWalk.i64_in (q1 + 1) (by omega)
  have hm2 := many_bd n me hn1 hn2 hm
  clear hk hr
  have hfd : ∀ w : World, (Instr.field 142 (.agg #[.int .i64 q1, .int .i64 q2]) 0).run Tryz.prog w = .ok (.int .i64 q1) w := fun _ => by kernel_rfl
  rw [encP_eq]
  go_wp2_with fail
  replace hP := hP.drew
  replace hK := hK.drew
  replace b1 := b1.drew
  go_region_held2 (fun w' => ∀ i : Nat, w'.cell? ⟨w.heap.size, i, none⟩ = (#[.int .i64 kind, .int .i64 base, .int .i64 loc, .int .i64 n, .int .i64 wr, .int .i64 rd, .int .i64 top] : Array Value)[i]?) (first | exact c_b1 | go_keep)
    (first
      | (go_at_call 198
         refine (of_p ⟨kind, base, loc, n, wr, rd, top⟩ me _ hn1 hn2 (by simp only; omega) hb1 hb2 hl1 hl2).mono ?_
         rintro e w2 ⟨rfl, hx⟩
         clear c_b1
         replace hK := hK.trans (Keep.of_ext hx hP.lt hP.le)
         replace b1 := b1.ext hx hP.lt
         have c_b1 := b1.cells
         replace hP := hP.ext hx
         clear hx)
      | (go_at_call 199
         refine (mmost_p top _).mono ?_
         rintro e w' ⟨rfl, rfl⟩)
      | (go_at_call 191
         refine (clamp_p _ _ _).mono ?_
         rintro e w' ⟨rfl, rfl⟩)
      | (go_at_call 192
         refine (pack_p _ _ _ _).mono ?_
         rintro e w' ⟨rfl, rfl⟩)
      | (go_at_call 150
         refine tlast hO hK (table_write_p B p S ⟨6, manyB base n me, manyL loc n me, n, me, -1, manyTop top⟩ me _ _ hP hn1 hn2 (by simp only; omega) (by simp only; omega) (by simp only [manyB]; omega) (by simp only [manyB]; omega) (by simp only [manyL]; omega) (by simp only [manyL]; omega)) (fun _ h => ⟨rfl, h⟩) ?_
         clear hO hK hP c_b1
         intro y S w1 hr hP hk hK hO
         replace b1 := b1.keep hk
         have c_b1 := b1.cells
         clear hk hr))
  go_wp2_with fail
  first | go_end0 | refine bodyPost_ret (results_none rfl _ _ _) rfl ?_
  exact hO.done hP hK
set_option maxRecDepth 100000 in
theorem many_read_p (B p : Nat) (S : TS) (r : Reg) (me : Int) (w : World) (h : Plays B w p S) (hn1 : 1 ≤ r.n) (hn2 : r.n ≤ 8) (hm : 0 ≤ me ∧ me < r.n) (hb1 : 0 ≤ r.base) (hb2 : r.base ≤ 50000) (hl1 : 0 ≤ r.loc) (hl2 : r.loc ≤ 49000) :
    Calls Tryz.prog 158 #[.pointer (some ⟨p, 0, none⟩), encR r, .int .i64 me] w (Post encI B p w ((manyR r.base r.loc r.n r.top me).run S)) := by
  generalize hR : Post encI B p w ((manyR r.base r.loc r.n r.top me).run S) = R
  have hO : Owes R encI B p w ((manyR r.base r.loc r.n r.top me).run S) := hR ▸ owes _ _ _ _ _
  clear hR
  obtain ⟨kind, base, loc, n, wr, rd, top⟩ := r
  simp only at hn1 hn2 hm hb1 hb2 hl1 hl2 hO
  unfold encR
  have hK := Keep.refl [2, 3, 4] B p w
  have hP := h
  have b1 := hP.held (.cells #[.int .i64 kind, .int .i64 base, .int .i64 loc, .int .i64 n, .int .i64 wr, .int .i64 rd, .int .i64 top] 77)
  replace hK := hK.trans (Keep.alloc (.cells #[.int .i64 kind, .int .i64 base, .int .i64 loc, .int .i64 n, .int .i64 wr, .int .i64 rd, .int .i64 top] 77) hP.lt hP.le)
  replace hP := hP.alloc (.cells #[.int .i64 kind, .int .i64 base, .int .i64 loc, .int .i64 n, .int .i64 wr, .int .i64 rd, .int .i64 top] 77)
  have c_b1 := b1.cells
  clear h
  unfold manyR at hO
  have hd1 : decide (me < 0) = false := by simpa using hm.1
  have hd2 : decide (n ≤ me) = false := by simpa using hm.2
  go_enter Tryz.func158, Tryz.ntmps158
  go_wp2_with fail
  refine (mthreads_p n _ hn1 hn2).mono ?_
  rintro e w' ⟨rfl, rfl⟩
  go_wp2_with fail
  refine tstep hO hK (greatest_p B p S ⟨kind, base, loc, n, wr, rd, top⟩ me _ hP hn1 hn2 hm hb1 hb2 hl1 hl2) (fun _ h => ⟨rfl, h⟩) ?_
  clear hO hK hP c_b1
  intro q S w1 hr hP hk hK hO
  replace b1 := b1.keep hk
  have c_b1 := b1.cells
  clear hk hr
  obtain ⟨q1, q2⟩ := q
  simp only at hO
  have hfd : ∀ w : World, (Instr.field 142 (.agg #[.int .i64 q1, .int .i64 q2]) 1).run Tryz.prog w = .ok (.int .i64 q2) w := fun _ => by kernel_rfl
  rw [encP_eq]
  go_wp2_with fail
  exact hO.done hP hK
end Go.Proofs.YtpcohbpeglledaaGreat
/-
  Registers of the document: a number that all write, written and read.
-/
namespace Go.Proofs.YtpcohbpeglledaaGreat
open Go.RowKit Kv
theorem pack_clamp255 (a v top : Int) : packI a (clamp v (clamp top 255)) (clamp top 255) = packI a v (clamp top 255) := by
  have h : 0 ≤ clamp top 255 ∧ clamp top 255 ≤ 255 := by unfold clamp within; omega
  generalize clamp top 255 = T at *
  unfold packI
  congr 1
  unfold room clamp within
  omega
set_option maxRecDepth 100000 in
set_option maxHeartbeats 4000000 in
theorem many_read_r (B p : Nat) (o : Bool) (S : TS) (r : Reg) (me : Int) (w : World) (h : RAt B w p o S) (hn1 : 1 ≤ r.n) (hn2 : r.n ≤ 8) (hm : 0 ≤ me ∧ me < r.n) (hb1 : 0 ≤ r.base) (hb2 : r.base ≤ 50000) (hl1 : 0 ≤ r.loc) (hl2 : r.loc ≤ 49000) :
    Calls Tryz.prog 172 #[.pointer (some ⟨p, 0, none⟩), encR r, .int .i64 me] w (RPost encI B p w (manyR r.base r.loc r.n r.top me) o S) := by
  generalize hR : RPost encI B p w (manyR r.base r.loc r.n r.top me) o S = R
  have hO : ROwes R encI B p w (manyR r.base r.loc r.n r.top me) o S := hR ▸ rowes _ _ _ _ _ _ _
  clear hR
  obtain ⟨kind, base, loc, n, wt, rd, top⟩ := r
  simp only at hn1 hn2 hm hb1 hb2 hl1 hl2 hO
  obtain ⟨N, rfl⟩ : ∃ N : Nat, n = (N : Int) := ⟨n.toNat, by omega⟩
  unfold encR
  have hK := Keep.refl [3, 4, 5] B p w
  have hP := h
  have b1 := hP.held (.cells #[.int .i64 kind, .int .i64 base, .int .i64 loc, .int .i64 (N : Int), .int .i64 wt, .int .i64 rd, .int .i64 top] 77)
  replace hK := hK.trans (Keep.alloc (.cells #[.int .i64 kind, .int .i64 base, .int .i64 loc, .int .i64 (N : Int), .int .i64 wt, .int .i64 rd, .int .i64 top] 77) hP.lt hP.le)
  replace hP := hP.alloc (.cells #[.int .i64 kind, .int .i64 base, .int .i64 loc, .int .i64 (N : Int), .int .i64 wt, .int .i64 rd, .int .i64 top] 77)
  have c_b1 := b1.cells
  clear h
  unfold manyR at hO
  rw [Int.toNat_natCast] at hO
  have h0 := allA_many base loc N top me N 0 []
  simp only [List.foldl_nil] at h0
  rw [← h0, Prog.bind_assoc] at hO
  simp only [Prog.bind_ret] at hO
  clear h0
  have hd1 : decide (me < 0) = false := by simpa using hm.1
  have hd2 : decide ((N : Int) ≤ me) = false := by simpa using hm.2
  go_enter Tryz.func172, Tryz.ntmps172
  go_wp2_with fail
  refine (rn_r ⟨kind, base, loc, (N : Int), wt, rd, top⟩ _ hn1 hn2).mono ?_
  rintro e w2 ⟨rfl, hx⟩
  clear c_b1
  replace hK := hK.trans (Keep.of_ext hx hP.lt hP.le)
  replace b1 := b1.ext hx hP.lt
  have c_b1 := b1.cells
  replace hP := hP.ext hx
  clear hx
  go_wp2_with fail
  refine (all_r B p o S ⟨kind, base, loc, (N : Int), wt, rd, top⟩ me _ hP hn1 hn2 hm hb1 hb2 hl1 hl2).mono ?_
  rintro e w1 ⟨A, c, l, o1, S1, rfl, hr, hP1, hk, hI, hlen⟩
  simp only [Int.toNat_natCast] at hr hlen
  replace hO := hO.then hr
  replace hK := hK.trans hk
  clear c_b1 hP hr
  replace b1 := b1.keep hk
  have c_b1 := b1.cells
  have hP := hP1
  clear hP1 hk
  generalize hQ : List.foldl (stepM (clamp top 255)) (0, 0) l = Q at *
  have hQh := Lib.hid hQ
  have hOh := Lib.hid hO
  have hlh := Lib.hid hlen
  clear hQ hO
  simp only [hlen] at hI ⊢
  clear hlen
  go_wp2_with fail
  go_loopw [8, 9, 10] (fun sv xv z wr' => ∃ (j : Nat) (s v : Int), z = .int .i64 j ∧ j ≤ N ∧ sv = .int .i64 s ∧ xv = .int .i64 v ∧ 0 ≤ s ∧ s ≤ 4398046511104 ∧ Ints wr' (.slice A N c) l ∧ HeldR wr' p w.heap.size (.cells #[.int .i64 kind, .int .i64 base, .int .i64 loc, .int .i64 (N : Int), .int .i64 wt, .int .i64 rd, .int .i64 top] 77) ∧ RAt B wr' p o1 S1 ∧ KeepR B p w wr' ∧ Hid ((l.drop j).foldl (stepM (clamp top 255)) (s, v) = Q)) (fun sv xv z _ => N - (intOf z).toNat)
  case atStart => exact ⟨0, 0, 0, rfl, by omega, rfl, rfl, by omega, by omega, hI, b1, hP, hK, by rw [List.drop_zero]; exact hQh.out⟩
  case round =>
    clear hI b1 c_b1 hP hK hQh
    obtain ⟨j, s, v', rfl, hj, rfl, rfl, hs0, hs1, hI, b1, hP, hK, hF⟩ := hrel
    have c_b1 := b1.cells
    by_cases hjn : j < N
    · obtain ⟨bk, off, rfl, hbk, hcell⟩ := hI.at_ hjn
      have hFs : Hid ((l.drop (j + 1)).foldl (stepM (clamp top 255)) (stepM (clamp top 255) (s, v') (l.getD j 0)) = Q) := by
        have h := hF.out
        have hjl : j < l.length := by rw [hlh.out]; exact hjn
        rw [List.drop_eq_getElem_cons hjl, List.foldl_cons] at h
        have e : l.getD j 0 = l[j] := by simp [List.getD, hjl]
        rw [e]
        exact h
      clear hF
      generalize l.getD j 0 = E at *
      go_wp2_with fail
      replace hP := hP.drew
      replace hK := hK.drew
      replace b1 := b1.drew
      replace hI := hI.ext (Ext.refl _).drew
      go_region_held2 (fun w' => (∀ i : Nat, w'.cell? ⟨w.heap.size, i, none⟩ = (#[.int .i64 kind, .int .i64 base, .int .i64 loc, .int .i64 (N : Int), .int .i64 wt, .int .i64 rd, .int .i64 top] : Array Value)[i]?) ∧ w'.cell? ⟨bk, off + j, none⟩ = some (.int .i64 E)) (first | with_reducible exact ⟨c_b1, hcell⟩ | go_keep)
        (first
          | (go_at_call 213
             refine (top_r ⟨kind, base, loc, (N : Int), wt, rd, top⟩ _).mono ?_
             rintro e w2 ⟨rfl, hx⟩
             clear c_b1
             replace hK := hK.trans (Keep.of_ext hx hP.lt hP.le)
             replace b1 := b1.ext hx hP.lt
             have c_b1 := b1.cells
             replace hcell := (hx.cell (p := ⟨bk, off + j, none⟩) hbk).trans hcell
             replace hbk := Nat.lt_of_lt_of_le hbk hx.size
             replace hI := hI.ext hx
             replace hP := hP.ext hx
             clear hx)
          | (go_at_call 212
             refine (unpack_rx _ _ _).mono ?_
             rintro e w2 ⟨rfl, hx⟩
             clear c_b1
             replace hK := hK.trans (Keep.of_ext hx hP.lt hP.le)
             replace b1 := b1.ext hx hP.lt
             have c_b1 := b1.cells
             replace hcell := (hx.cell (p := ⟨bk, off + j, none⟩) hbk).trans hcell
             replace hbk := Nat.lt_of_lt_of_le hbk hx.size
             replace hI := hI.ext hx
             replace hP := hP.ext hx
             clear hx))
      have ht := unHi_bd E (clamp top 255)
      unfold stepM at hFs
      simp only at hFs
      generalize unHi E (clamp top 255) = t at *
      generalize unLo E (clamp top 255) = y at *
      have hPh := Lib.hid hP
      have hKh := Lib.hid hK
      clear hP hK hcell
      by_cases hst : s ≤ t
      · have hF2 : Hid ((l.drop (j + 1)).foldl (stepM (clamp top 255)) (t, y) = Q) := by have h := hFs.out; rw [if_pos hst] at h; exact h
        clear hFs
        go_wp2_with fail
        exact ⟨⟨j + 1, t, y, by go_num, by omega, rfl, rfl, ht.1, ht.2, hI, b1, hPh.out, hKh.out, hF2⟩, by simp [intOf]; omega⟩
      · have hF2 : Hid ((l.drop (j + 1)).foldl (stepM (clamp top 255)) (s, v') = Q) := by have h := hFs.out; rw [if_neg hst] at h; exact h
        clear hFs
        go_wp2_with fail
        exact ⟨⟨j + 1, s, v', by go_num, by omega, rfl, rfl, hs0, hs1, hI, b1, hPh.out, hKh.out, hF2⟩, by simp [intOf]; omega⟩
    · obtain rfl : N = j := by omega
      have hq : (s, v') = Q := by
        have h := hF.out
        rw [List.drop_eq_nil_of_le (by rw [hlh.out]; exact Nat.le_refl _)] at h
        exact h
      have hO := hOh.out
      rw [← hq] at hO
      clear hq hOh hF hI hlh
      have hf : R (.returned (encI v')) wr := hO.ret hP hK
      clear hO hP hK
      go_wp2_with fail

      exact hf

set_option maxRecDepth 100000 in
set_option maxHeartbeats 4000000 in
theorem many_write_r (B p : Nat) (o : Bool) (S : TS) (r : Reg) (me v : Int) (w : World) (h : RAt B w p o S) (hn1 : 1 ≤ r.n) (hn2 : r.n ≤ 8) (hm : 0 ≤ me ∧ me < r.n) (hb1 : 0 ≤ r.base) (hb2 : r.base ≤ 50000) (hl1 : 0 ≤ r.loc) (hl2 : r.loc ≤ 49000) :
    Calls Tryz.prog 165 #[.pointer (some ⟨p, 0, none⟩), encR r, .int .i64 me, .int .i64 v] w (RPost encU B p w (manyW r.base r.loc r.n r.top me v) o S) := by
  generalize hR : RPost encU B p w (manyW r.base r.loc r.n r.top me v) o S = R
  have hO : ROwes R encU B p w (manyW r.base r.loc r.n r.top me v) o S := hR ▸ rowes _ _ _ _ _ _ _
  clear hR
  obtain ⟨kind, base, loc, n, wt, rd, top⟩ := r
  simp only at hn1 hn2 hm hb1 hb2 hl1 hl2 hO
  obtain ⟨N, rfl⟩ : ∃ N : Nat, n = (N : Int) := ⟨n.toNat, by omega⟩
  unfold encR
  have hK := Keep.refl [3, 4, 5] B p w
  have hP := h
  have b1 := hP.held (.cells #[.int .i64 kind, .int .i64 base, .int .i64 loc, .int .i64 (N : Int), .int .i64 wt, .int .i64 rd, .int .i64 top] 77)
  replace hK := hK.trans (Keep.alloc (.cells #[.int .i64 kind, .int .i64 base, .int .i64 loc, .int .i64 (N : Int), .int .i64 wt, .int .i64 rd, .int .i64 top] 77) hP.lt hP.le)
  replace hP := hP.alloc (.cells #[.int .i64 kind, .int .i64 base, .int .i64 loc, .int .i64 (N : Int), .int .i64 wt, .int .i64 rd, .int .i64 top] 77)
  have c_b1 := b1.cells
  clear h
  unfold manyW at hO
  rw [Int.toNat_natCast] at hO
  have h0 := allA_many base loc N top me N 0 []
  simp only [List.foldl_nil] at h0
  rw [← h0, Prog.bind_assoc] at hO
  simp only [Prog.bind_ret] at hO
  clear h0
  have hd1 : decide (me < 0) = false := by simpa using hm.1
  have hd2 : decide ((N : Int) ≤ me) = false := by simpa using hm.2
  go_enter Tryz.func165, Tryz.ntmps165
  go_wp2_with fail
  refine (rn_r ⟨kind, base, loc, (N : Int), wt, rd, top⟩ _ hn1 hn2).mono ?_
  rintro e w2 ⟨rfl, hx⟩
  clear c_b1
  replace hK := hK.trans (Keep.of_ext hx hP.lt hP.le)
  replace b1 := b1.ext hx hP.lt
  have c_b1 := b1.cells
  replace hP := hP.ext hx
  clear hx
  go_wp2_with fail
  refine (all_r B p o S ⟨kind, base, loc, (N : Int), wt, rd, top⟩ me _ hP hn1 hn2 hm hb1 hb2 hl1 hl2).mono ?_
  rintro e w1 ⟨A, c, l, o1, S1, rfl, hr, hP1, hk, hI, hlen⟩
  simp only [Int.toNat_natCast] at hr hlen
  replace hO := hO.then hr
  replace hK := hK.trans hk
  clear c_b1 hP hr
  replace b1 := b1.keep hk
  have c_b1 := b1.cells
  have hP := hP1
  clear hP1 hk
  generalize hQ : List.foldl (stepM (clamp top 255)) (0, 0) l = Q at *
  have hQh := Lib.hid hQ
  have hOh := Lib.hid hO
  have hlh := Lib.hid hlen
  clear hQ hO
  simp only [hlen] at hI ⊢
  clear hlen
  go_wp2_with fail
  go_loopw [9, 10] (fun sv z wr' => ∃ (j : Nat) (s v : Int), z = .int .i64 j ∧ j ≤ N ∧ sv = .int .i64 s ∧ 0 ≤ s ∧ s ≤ 4398046511104 ∧ Ints wr' (.slice A N c) l ∧ HeldR wr' p w.heap.size (.cells #[.int .i64 kind, .int .i64 base, .int .i64 loc, .int .i64 (N : Int), .int .i64 wt, .int .i64 rd, .int .i64 top] 77) ∧ RAt B wr' p o1 S1 ∧ KeepR B p w wr' ∧ Hid ((l.drop j).foldl (stepM (clamp top 255)) (s, v) = Q)) (fun sv z _ => N - (intOf z).toNat)
  case atStart => exact ⟨0, 0, 0, rfl, by omega, rfl, by omega, by omega, hI, b1, hP, hK, by rw [List.drop_zero]; exact hQh.out⟩
  case round =>
    clear hI b1 c_b1 hP hK hQh
    obtain ⟨j, s, v', rfl, hj, rfl, hs0, hs1, hI, b1, hP, hK, hF⟩ := hrel
    have c_b1 := b1.cells
    by_cases hjn : j < N
    · obtain ⟨bk, off, rfl, hbk, hcell⟩ := hI.at_ hjn
      have hFs : Hid ((l.drop (j + 1)).foldl (stepM (clamp top 255)) (stepM (clamp top 255) (s, v') (l.getD j 0)) = Q) := by
        have h := hF.out
        have hjl : j < l.length := by rw [hlh.out]; exact hjn
        rw [List.drop_eq_getElem_cons hjl, List.foldl_cons] at h
        have e : l.getD j 0 = l[j] := by simp [List.getD, hjl]
        rw [e]
        exact h
      clear hF
      generalize l.getD j 0 = E at *
      go_wp2_with fail
      replace hP := hP.drew
      replace hK := hK.drew
      replace b1 := b1.drew
      replace hI := hI.ext (Ext.refl _).drew
      go_region_held2 (fun w' => (∀ i : Nat, w'.cell? ⟨w.heap.size, i, none⟩ = (#[.int .i64 kind, .int .i64 base, .int .i64 loc, .int .i64 (N : Int), .int .i64 wt, .int .i64 rd, .int .i64 top] : Array Value)[i]?) ∧ w'.cell? ⟨bk, off + j, none⟩ = some (.int .i64 E)) (first | with_reducible exact ⟨c_b1, hcell⟩ | go_keep)
        (first
          | (go_at_call 213
             refine (top_r ⟨kind, base, loc, (N : Int), wt, rd, top⟩ _).mono ?_
             rintro e w2 ⟨rfl, hx⟩
             clear c_b1
             replace hK := hK.trans (Keep.of_ext hx hP.lt hP.le)
             replace b1 := b1.ext hx hP.lt
             have c_b1 := b1.cells
             replace hcell := (hx.cell (p := ⟨bk, off + j, none⟩) hbk).trans hcell
             replace hbk := Nat.lt_of_lt_of_le hbk hx.size
             replace hI := hI.ext hx
             replace hP := hP.ext hx
             clear hx)
          | (go_at_call 212
             refine (unpack_rx _ _ _).mono ?_
             rintro e w2 ⟨rfl, hx⟩
             clear c_b1
             replace hK := hK.trans (Keep.of_ext hx hP.lt hP.le)
             replace b1 := b1.ext hx hP.lt
             have c_b1 := b1.cells
             replace hcell := (hx.cell (p := ⟨bk, off + j, none⟩) hbk).trans hcell
             replace hbk := Nat.lt_of_lt_of_le hbk hx.size
             replace hI := hI.ext hx
             replace hP := hP.ext hx
             clear hx))
      have ht := unHi_bd E (clamp top 255)
      unfold stepM at hFs
      simp only at hFs
      generalize unHi E (clamp top 255) = t at *
      generalize unLo E (clamp top 255) = y at *
      have hPh := Lib.hid hP
      have hKh := Lib.hid hK
      clear hP hK hcell
      by_cases hst : s < t
      · have hF2 : Hid ((l.drop (j + 1)).foldl (stepM (clamp top 255)) (t, y) = Q) := by have h := hFs.out; rw [if_pos (by omega)] at h; exact h
        clear hFs
        go_wp2_with fail
        exact ⟨⟨j + 1, t, y, by go_num, by omega, rfl, ht.1, ht.2, hI, b1, hPh.out, hKh.out, hF2⟩, by simp [intOf]; omega⟩
      · have hF2 : ∃ u, Hid ((l.drop (j + 1)).foldl (stepM (clamp top 255)) (s, u) = Q) := by
          have h := hFs.out
          by_cases e : s ≤ t
          · rw [if_pos e, show t = s by omega] at h; exact ⟨y, h⟩
          · rw [if_neg e] at h; exact ⟨v', h⟩
        obtain ⟨u, hF2⟩ := hF2
        clear hFs
        go_wp2_with fail
        exact ⟨⟨j + 1, s, u, by go_num, by omega, rfl, hs0, hs1, hI, b1, hPh.out, hKh.out, hF2⟩, by simp [intOf]; omega⟩
    · obtain rfl : N = j := by omega
      have hq : (s, v') = Q := by
        have h := hF.out
        rw [List.drop_eq_nil_of_le (by rw [hlh.out]; exact Nat.le_refl _)] at h
        exact h
      have hO := hOh.out
      rw [← hq] at hO
      clear hq hOh hF hI hlh
      simp only at hO
      rw [pack_clamp255] at hO
      have hmb := many_bd N me hn1 hn2 hm
      obtain ⟨_, _, _, _, _, hcc⟩ := hP.cell
      have hmin : (if s < 4095 then s + 1 else 4095) = min (s + 1) 4095 := by split <;> omega
      generalize hM : min (s + 1) 4095 = M at *
      cases o1 with
      | true =>
        have hf : R (.returned (encU ())) wr := hO.over () hP hK
        clear hO hP hK hmb
        by_cases hs : s < 4095
        · go_wp2_with fail
          first | go_end0 | refine bodyPost_ret (results_none rfl _ _ _) rfl ?_
          exact hf
        · go_wp2_with fail
          first | go_end0 | refine bodyPost_ret (results_none rfl _ _ _) rfl ?_
          exact hf
      | false =>
        by_cases hs : s < 4095
        · obtain rfl : s + 1 = M := by rw [if_pos hs] at hmin; exact hmin
          clear hM hmin
          go_wp2_with fail
          clear hcc
          replace hP := hP.drew
          replace hK := hK.drew
          replace b1 := b1.drew
          go_region_held2 (fun w' => ∀ i : Nat, w'.cell? ⟨w.heap.size, i, none⟩ = (#[.int .i64 kind, .int .i64 base, .int .i64 loc, .int .i64 (N : Int), .int .i64 wt, .int .i64 rd, .int .i64 top] : Array Value)[i]?) (first | with_reducible exact c_b1 | go_keep)
            (first
              | (go_at_call 214
                 refine (number_rm ⟨kind, base, loc, (N : Int), wt, rd, top⟩ me _ hn1 hn2 hm hb1 hb2 hl1 hl2).mono ?_
                 rintro e w2 ⟨rfl, hx⟩
                 clear c_b1
                 replace hK := hK.trans (Keep.of_ext hx hP.lt hP.le)
                 replace b1 := b1.ext hx hP.lt
                 have c_b1 := b1.cells
                 replace hP := hP.ext hx
                 clear hx)
              | (go_at_call 213
                 refine (top_r ⟨kind, base, loc, (N : Int), wt, rd, top⟩ _).mono ?_
                 rintro e w2 ⟨rfl, hx⟩
                 clear c_b1
                 replace hK := hK.trans (Keep.of_ext hx hP.lt hP.le)
                 replace b1 := b1.ext hx hP.lt
                 have c_b1 := b1.cells
                 replace hP := hP.ext hx
                 clear hx)
              | (go_at_call 208
                 refine (pack_r _ _ _ _).mono ?_
                 rintro e w' ⟨rfl, rfl⟩)
              | (go_at_call 164
                 refine rlast hO hK (table_write_r B p false S1 ⟨0, manyB base N me, manyL loc N me, N, me, 0, manyTop top⟩ me _ _ hP hn1 hn2 (by simp only; omega) (by simp only; omega) (by simp only [manyB]; omega) (by simp only [manyB]; omega) (by simp only [manyL]; omega) (by simp only [manyL]; omega)) ?_
                 clear hO hK hP c_b1
                 intro u o S w1 hP hk hK hO
                 replace b1 := b1.keep hk
                 have c_b1 := b1.cells
                 clear hk))
          go_wp2_with fail
          first | go_end0 | refine bodyPost_ret (results_none rfl _ _ _) rfl ?_
          exact hO.ret hP hK
        · obtain rfl : 4095 = M := by rw [if_neg hs] at hmin; exact hmin
          clear hM hmin
          go_wp2_with fail
          clear hcc
          replace hP := hP.drew
          replace hK := hK.drew
          replace b1 := b1.drew
          go_region_held2 (fun w' => ∀ i : Nat, w'.cell? ⟨w.heap.size, i, none⟩ = (#[.int .i64 kind, .int .i64 base, .int .i64 loc, .int .i64 (N : Int), .int .i64 wt, .int .i64 rd, .int .i64 top] : Array Value)[i]?) (first | with_reducible exact c_b1 | go_keep)
            (first
              | (go_at_call 214
                 refine (number_rm ⟨kind, base, loc, (N : Int), wt, rd, top⟩ me _ hn1 hn2 hm hb1 hb2 hl1 hl2).mono ?_
                 rintro e w2 ⟨rfl, hx⟩
                 clear c_b1
                 replace hK := hK.trans (Keep.of_ext hx hP.lt hP.le)
                 replace b1 := b1.ext hx hP.lt
                 have c_b1 := b1.cells
                 replace hP := hP.ext hx
                 clear hx)
              | (go_at_call 213
                 refine (top_r ⟨kind, base, loc, (N : Int), wt, rd, top⟩ _).mono ?_
                 rintro e w2 ⟨rfl, hx⟩
                 clear c_b1
                 replace hK := hK.trans (Keep.of_ext hx hP.lt hP.le)
                 replace b1 := b1.ext hx hP.lt
                 have c_b1 := b1.cells
                 replace hP := hP.ext hx
                 clear hx)
              | (go_at_call 208
                 refine (pack_r _ _ _ _).mono ?_
                 rintro e w' ⟨rfl, rfl⟩)
              | (go_at_call 164
                 refine rlast hO hK (table_write_r B p false S1 ⟨0, manyB base N me, manyL loc N me, N, me, 0, manyTop top⟩ me _ _ hP hn1 hn2 (by simp only; omega) (by simp only; omega) (by simp only [manyB]; omega) (by simp only [manyB]; omega) (by simp only [manyL]; omega) (by simp only [manyL]; omega)) ?_
                 clear hO hK hP c_b1
                 intro u o S w1 hP hk hK hO
                 replace b1 := b1.keep hk
                 have c_b1 := b1.cells
                 clear hk))
          go_wp2_with fail
          first | go_end0 | refine bodyPost_ret (results_none rfl _ _ _) rfl ?_
          exact hO.ret hP hK

end Go.Proofs.YtpcohbpeglledaaGreat
/-
  Registers of the document: writing and reading one, of whichever kind.
-/
namespace Go.Proofs.YtpcohbpeglledaaGreat
open Go.RowKit Kv
set_option maxRecDepth 100000 in
set_option maxHeartbeats 2000000 in
theorem reg_write_r (B p : Nat) (o : Bool) (S : TS) (r : Reg) (me v : Int) (w : World) (h : RAt B w p o S) (hr : r.ok) (hm : 0 ≤ me ∧ me < r.n) :
    Calls Tryz.prog 91 #[.pointer (some ⟨p, 0, none⟩), encR r, .int .i64 me, .int .i64 v] w (RPost encU B p w (regW r me v) o S) := by
  generalize hR : RPost encU B p w (regW r me v) o S = R
  have hO : ROwes R encU B p w (regW r me v) o S := hR ▸ rowes _ _ _ _ _ _ _
  clear hR
  obtain ⟨hk, hb, hl, hn, hw⟩ := hr
  obtain ⟨kind, base, loc, n, wr, rd, top⟩ := r
  simp only at hk hb hl hn hw hm hO
  unfold encR
  have hK := Keep.refl [3, 4, 5] B p w
  have hP := h
  have b1 := hP.held (.cells #[.int .i64 kind, .int .i64 base, .int .i64 loc, .int .i64 n, .int .i64 wr, .int .i64 rd, .int .i64 top] 77)
  replace hK := hK.trans (Keep.alloc (.cells #[.int .i64 kind, .int .i64 base, .int .i64 loc, .int .i64 n, .int .i64 wr, .int .i64 rd, .int .i64 top] 77) hP.lt hP.le)
  replace hP := hP.alloc (.cells #[.int .i64 kind, .int .i64 base, .int .i64 loc, .int .i64 n, .int .i64 wr, .int .i64 rd, .int .i64 top] 77)
  have c_b1 := b1.cells
  clear h
  unfold regW at hO
  simp only at hO
  rcases hk with rfl | rfl | rfl
  · simp at hO
    go_enter Tryz.func91, Tryz.ntmps91
    go_wp2_with fail
    refine rlast hO hK (write_r B p o S _ _ _ hP) ?_
    clear hO hK hP c_b1
    intro u o S w1 hP hk hK hO
    replace b1 := b1.keep hk
    have c_b1 := b1.cells
    clear hk
    go_wp2_with fail
    first | go_end0 | refine bodyPost_ret (results_none rfl _ _ _) rfl ?_
    exact hO.ret hP hK
  · simp at hO
    obtain ⟨hw1, hw2⟩ := hw rfl
    clear hw
    go_enter Tryz.func91, Tryz.ntmps91
    go_wp2_with fail
    refine rlast hO hK (table_write_r B p o S ⟨6, base, loc, n, wr, rd, top⟩ me v _ hP hn.1 hn.2 hw1 hw2 hb.1 (by simp only; omega) hl.1 (by simp only; omega)) ?_
    clear hO hK hP c_b1
    intro u o S w1 hP hk hK hO
    replace b1 := b1.keep hk
    have c_b1 := b1.cells
    clear hk
    go_wp2_with fail
    first | go_end0 | refine bodyPost_ret (results_none rfl _ _ _) rfl ?_
    exact hO.ret hP hK
  · simp at hO
    go_enter Tryz.func91, Tryz.ntmps91
    go_wp2_with fail
    refine rlast hO hK (many_write_r B p o S ⟨7, base, loc, n, wr, rd, top⟩ me v _ hP hn.1 hn.2 hm hb.1 (by simp only; omega) hl.1 (by simp only; omega)) ?_
    clear hO hK hP c_b1
    intro u o S w1 hP hk hK hO
    replace b1 := b1.keep hk
    have c_b1 := b1.cells
    clear hk
    go_wp2_with fail
    first | go_end0 | refine bodyPost_ret (results_none rfl _ _ _) rfl ?_
    exact hO.ret hP hK
set_option maxRecDepth 100000 in
set_option maxHeartbeats 2000000 in
theorem reg_read_r (B p : Nat) (o : Bool) (S : TS) (r : Reg) (me : Int) (w : World) (h : RAt B w p o S) (hr : r.ok) (hm : 0 ≤ me ∧ me < r.n) :
    Calls Tryz.prog 92 #[.pointer (some ⟨p, 0, none⟩), encR r, .int .i64 me] w (RPost encI B p w (regR r me) o S) := by
  generalize hR : RPost encI B p w (regR r me) o S = R
  have hO : ROwes R encI B p w (regR r me) o S := hR ▸ rowes _ _ _ _ _ _ _
  clear hR
  obtain ⟨hk, hb, hl, hn, hw⟩ := hr
  obtain ⟨kind, base, loc, n, wr, rd, top⟩ := r
  simp only at hk hb hl hn hw hm hO
  unfold encR
  have hK := Keep.refl [3, 4, 5] B p w
  have hP := h
  have b1 := hP.held (.cells #[.int .i64 kind, .int .i64 base, .int .i64 loc, .int .i64 n, .int .i64 wr, .int .i64 rd, .int .i64 top] 77)
  replace hK := hK.trans (Keep.alloc (.cells #[.int .i64 kind, .int .i64 base, .int .i64 loc, .int .i64 n, .int .i64 wr, .int .i64 rd, .int .i64 top] 77) hP.lt hP.le)
  replace hP := hP.alloc (.cells #[.int .i64 kind, .int .i64 base, .int .i64 loc, .int .i64 n, .int .i64 wr, .int .i64 rd, .int .i64 top] 77)
  have c_b1 := b1.cells
  clear h
  unfold regR at hO
  simp only at hO
  rcases hk with rfl | rfl | rfl
  · simp at hO
    go_enter Tryz.func92, Tryz.ntmps92
    go_wp2_with fail
    refine rlast hO hK (read_r B p o S _ _ hP) ?_
    clear hO hK hP c_b1
    intro x o S w1 hP hk hK hO
    replace b1 := b1.keep hk
    have c_b1 := b1.cells
    clear hk
    go_wp2_with fail
    exact hO.ret hP hK
  · simp at hO
    obtain ⟨hw1, hw2⟩ := hw rfl
    clear hw
    go_enter Tryz.func92, Tryz.ntmps92
    go_wp2_with fail
    refine rlast hO hK (table_read_r B p o S ⟨6, base, loc, n, wr, rd, top⟩ me _ hP hn.1 hn.2 hw1 hw2 hm hb.1 (by simp only; omega) hl.1 (by simp only; omega)) ?_
    clear hO hK hP c_b1
    intro x o S w1 hP hk hK hO
    replace b1 := b1.keep hk
    have c_b1 := b1.cells
    clear hk
    go_wp2_with fail
    exact hO.ret hP hK
  · simp at hO
    go_enter Tryz.func92, Tryz.ntmps92
    go_wp2_with fail
    refine rlast hO hK (many_read_r B p o S ⟨7, base, loc, n, wr, rd, top⟩ me _ hP hn.1 hn.2 hm hb.1 (by simp only; omega) hl.1 (by simp only; omega)) ?_
    clear hO hK hP c_b1
    intro x o S w1 hP hk hK hO
    replace b1 := b1.keep hk
    have c_b1 := b1.cells
    clear hk
    go_wp2_with fail
    exact hO.ret hP hK
end Go.Proofs.YtpcohbpeglledaaGreat
