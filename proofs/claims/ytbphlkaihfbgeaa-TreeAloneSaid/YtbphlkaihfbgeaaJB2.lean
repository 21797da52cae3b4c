/-
  Registers of the program: a number of one writer, read.
-/
import Derived.Test.YtbphlkaihfbgeaaJB1
import Derived.Deep.QuietTactic
import Derived.BigQuiet
import Derived.Maps.AppendAt
/-
  Registers of the program: a number of one writer, read.
-/
namespace Go.Proofs.Ytbphlkaihfbgeaa
open Go.RowKit Kv
attribute [local go_sem] Oper.semAt_some
/-- One block may have turned. -/
structure OneB (l : Nat) (w w' : World) : Prop where
  os : w'.os = w.os
  tape : w'.tape = w.tape
  output : w'.output = w.output
  size : w'.heap.size = w.heap.size
  block : ∀ k, k ≠ l → w'.heap[k]? = w.heap[k]?
theorem OneB.setCell (w : World) (b i : Nat) (v : Value) : OneB b w (w.setCell ⟨b, i, none⟩ v) := ⟨rfl, rfl, rfl, by simp, fun k hk => heap_setCell_ne w v hk⟩
section
variable {X : Nat → Prop} {ix : List Nat} {B p l : Nat} {w w' w'' : World} {S : TS}
theorem Keep.one (h : Keep ix B p w w') (o : OneB l w' w'') (hl : w.heap.size ≤ l) (hn : ¬ ownR ix w' p l) (hB : B ≤ w.heap.size) : Keep ix B p w w'' := by
  have hp : w''.heap[p]? = w'.heap[p]? := o.block p (fun e => hn (.inl e.symm))
  refine ⟨⟨o.os.trans h.below.os, o.tape.trans h.below.tape, o.output.trans h.below.output, by rw [o.size]; exact h.below.size, fun k hk => (o.block k (by omega)).trans (h.below.block k hk)⟩, fun b hb ho => ?_⟩
  obtain ⟨h1, h2⟩ := h.rest b hb ho
  exact ⟨(o.block b (by omega)).trans h1, fun h' => h2 ((ownR_same hp b).1 h')⟩
theorem KeepX.oneX (h : KeepX X ix B p w w') (o : OneB l w' w'') (hx : X l) (hn : ¬ ownR ix w' p l) (hB : B ≤ l) : KeepX X ix B p w w'' := by
  have hp : w''.heap[p]? = w'.heap[p]? := o.block p (fun e => hn (.inl e.symm))
  refine ⟨⟨o.os.trans h.below.os, o.tape.trans h.below.tape, o.output.trans h.below.output, by rw [o.size]; exact h.below.size, fun k hk => (o.block k (by omega)).trans (h.below.block k hk)⟩, fun b hb ho hxb => ?_⟩
  obtain ⟨h1, h2⟩ := h.rest b hb ho hxb
  exact ⟨(o.block b (fun e => hxb (e ▸ hx))).trans h1, fun h' => h2 ((ownR_same hp b).1 h')⟩
theorem Held.one {b : Nat} {ob : Obj} (h : Held ix w p b ob) (o : OneB l w w') (hb : b ≠ l) (hn : ¬ ownR ix w p l) : Held ix w' p b ob :=
  ⟨(o.block b hb).trans h.1, fun h' => h.2 ((ownR_same (o.block p (fun e => hn (.inl e.symm))) b).1 h')⟩
theorem Held.set1 {b : Nat} {u : Value} {t : TypeId} (h : Held ix w p b (.cells #[u] t (0, 0))) (v : Value) : Held ix (w.setCell ⟨b, 0, none⟩ v) p b (.cells #[v] t (0, 0)) :=
  ⟨heap_setCell h.1 v, fun h' => h.2 ((ownR_same ((OneB.setCell w b 0 v).block p (fun e => h.2 (.inl e.symm))) b).1 h')⟩
theorem PMem.one {st : Int} {vA vL vC vN : Value} {L : List Int} (h : PMem B w p S st vA vL vC vN L) (o : OneB l w w') (hn : ¬ ownR [2, 3, 4] w p l) (hB : B ≤ l) : PMem B w' p S st vA vL vC vN L :=
  { h with
    heap := (o.block p (fun e => hn (.inl e.symm))).trans h.heap
    ans := by
      obtain ⟨A, c, rfl, h1, h2, h3⟩ := h.ans
      refine ⟨A, c, rfl, h1, h2, fun hl => ?_⟩
      obtain ⟨b, off, rfl, hb, hc⟩ := h3 hl
      have hbB := h.ansB b rfl
      refine ⟨b, off, rfl, by rw [o.size]; exact hb, fun i x hi => ?_⟩
      rw [← hc i x hi]
      exact World.cell?_of_block (w := w) (o.block b (show b ≠ l by omega))
    rowL := h.rowL.kept (row := some l) ⟨o.os, o.tape, o.output, by rw [o.size]; exact Nat.le_refl _, fun k _ hk => o.block k (fun e => hk (by rw [e]))⟩ (.inr (fun e => hn (ownR_at h.heap (by simp) (i := 2) rfl e)))
    rowC := h.rowC.kept (row := some l) ⟨o.os, o.tape, o.output, by rw [o.size]; exact Nat.le_refl _, fun k _ hk => o.block k (fun e => hk (by rw [e]))⟩ (.inr (fun e => hn (ownR_at h.heap (by simp) (i := 3) rfl e)))
    rowN := h.rowN.kept (row := some l) ⟨o.os, o.tape, o.output, by rw [o.size]; exact Nat.le_refl _, fun k _ hk => o.block k (fun e => hk (by rw [e]))⟩ (.inr (fun e => hn (ownR_at h.heap (by simp) (i := 4) rfl e))) }
theorem Plays.one (h : Plays B w p S) (o : OneB l w w') (hn : ¬ ownR [2, 3, 4] w p l) (hB : B ≤ l) : Plays B w' p S := by
  obtain ⟨h0, vA, vL, vC, vN, L, h⟩ := h
  exact ⟨h0, vA, vL, vC, vN, L, h.one o hn hB⟩
end
theorem unpack_x (x top : Int) (w : World) :
    Calls Try.prog 171 #[.int .i64 x, .int .i64 top] w fun e w' => e = .returned (.tuple #[.int .i64 (unHi x top), .int .i64 (unLo x top)]) ∧ Ext w w' := (unpack_p x top w).mono fun _ _ h => ⟨h.1, h.2.ext⟩
/-- What a piece ends in that is cut off: what is told of its end; a panic that serves. -/
def cutQ (M : Act → World → Prop) (R : Ending → World → Prop) : Exit → Act → World → Prop
  | .normal, a, w => M a w
  | .panic c, a, w => a.defers = [] ∧ R (.panicked c) w
  | _, _, _ => False
theorem wpF_cut {P : Program} {f : FuncId} {x y : Code} {fn : Func} {R : Ending → World → Prop} {a : Act} {w : World} (M : Act → Act → World → Prop) (h1 : x.wp P (cutQ (M a) R) a w)
    (h2 : ∀ a' w', M a a' w' → WpF P f y (bodyPostM Fence.wide 0 P fn R) a' w') : WpF P f (x.seq y) (bodyPostM Fence.wide 0 P fn R) a w := by
  refine wpF_seq (wpF_of_wp (Code.wp_mono (fun e a' w' h => ?_) h1))
  cases e with
  | normal => exact h2 _ _ h
  | panic c =>
    obtain ⟨hd, h⟩ := h
    show LeavesInM Fence.wide 0 P fn a'.tmps R a'.defers (.panicking c) w'
    rw [hd]
    exact h
  | exit id => exact h.elim
  | goto l => exact h.elim
  | ret => exact h.elim
  | outgrown => exact h.elim
set_option maxHeartbeats 2000000 in
theorem table_read_p (B p : Nat) (S : TS) (r : Reg) (me : Int) (w : World) (h : Plays B w p S) (hn1 : 1 ≤ r.n) (hn2 : r.n ≤ 8) (hw1 : 0 ≤ r.wr) (hw2 : r.wr < r.n) (hm : 0 ≤ me ∧ me < r.n) (hb1 : 0 ≤ r.base) (hb2 : r.base ≤ 56000) (hl1 : 0 ≤ r.loc) (hl2 : r.loc ≤ 56000) :
    Calls Try.prog 112 #[.pointer (some ⟨p, 0, none⟩), encR r, .int .i64 me] w (Post encI B p w ((tableR r.base r.loc r.n r.wr r.top me).run S)) := by
  generalize hR : Post encI B p w ((tableR r.base r.loc r.n r.wr r.top me).run S) = R
  have hO : Owes R encI B p w ((tableR r.base r.loc r.n r.wr r.top me).run S) := hR ▸ owes _ _ _ _ _
  clear hR
  have hwr := Lib.hid (writer_p r)
  have hrk := Lib.hid (rank_p r me)
  obtain ⟨kind, base, loc, n, wr, rd, top⟩ := r
  simp only at hn1 hn2 hw1 hw2 hb1 hb2 hl1 hl2 hm hO
  unfold encR at hwr hrk ⊢
  have hK := Keep.refl [2, 3, 4] B p w
  have hP := h
  have b1 := hP.held (.cells #[.pointer (some ⟨p, 0, none⟩)] 33)
  replace hK := hK.trans (Keep.alloc (.cells #[.pointer (some ⟨p, 0, none⟩)] 33) hP.lt hP.le)
  replace hP := hP.alloc (.cells #[.pointer (some ⟨p, 0, none⟩)] 33)
  have b2 := hP.held (.cells #[.int .i64 kind, .int .i64 base, .int .i64 loc, .int .i64 n, .int .i64 wr, .int .i64 rd, .int .i64 top] 56)
  simp only [World.size_alloc] at b2
  replace b1 := b1.alloc (.cells #[.int .i64 kind, .int .i64 base, .int .i64 loc, .int .i64 n, .int .i64 wr, .int .i64 rd, .int .i64 top] 56) hP.lt
  replace hK := hK.trans (Keep.alloc (.cells #[.int .i64 kind, .int .i64 base, .int .i64 loc, .int .i64 n, .int .i64 wr, .int .i64 rd, .int .i64 top] 56) hP.lt hP.le)
  replace hP := hP.alloc (.cells #[.int .i64 kind, .int .i64 base, .int .i64 loc, .int .i64 n, .int .i64 wr, .int .i64 rd, .int .i64 top] 56)
  have c_b1 := b1.cells
  have c_b2 := b2.cells
  have hBw := Lib.hid h.le
  clear h
  unfold tableR at hO
  by_cases hme : me = wr
  · rw [if_pos hme] at hO
    subst hme
    refine calls_of_wpF Try.func112 rfl ?_
    simp only [Try.ntmps112, List.size_toArray, List.length_cons, List.length_nil, Nat.reduceAdd, Nat.reduceSub, Array.replicate_succ, Array.replicate_zero, List.push_toArray, List.append_toArray, List.nil_append, List.cons_append]
    refine wpF_step fun K hK2 => ?_
    go_wp2_with fail
    refine wpF_step fun K hK2 => ?_
    go_wp2_with fail
    refine (hwr.out _ hn1 hn2 hw1 hw2).mono ?_
    rintro e w2 ⟨rfl, hx⟩
    clear c_b1 c_b2
    replace hK := hK.trans (Keep.of_ext hx hP.lt hP.le)
    replace b1 := b1.ext hx hP.lt
    have c_b1 := b1.cells
    replace b2 := b2.ext hx hP.lt
    have c_b2 := b2.cells
    replace hP := hP.ext hx
    clear hx
    go_wp2_with fail
    refine (get_p B p S (loc + 1) _ hP).mono ?_
    rintro e w' ⟨rfl, rfl⟩
    rw [run_gt1] at hO
    generalize S.got (loc + 1) = z at hO ⊢
    go_wp2_with fail
    exact leavesM_ret0 (v := .int .i64 z) (by simp [results, Try.results112, go_sem]) (hO.done hP hK)
  · rw [if_neg hme] at hO
    have hme2 : (me == wr) = false := by simpa using hme
    have hrk2 := Lib.hid (fun W => hrk.out W hn1 hn2 hw1 hw2 hm hme)
    clear hrk
    have hrb : 0 ≤ rankM wr me ∧ rankM wr me < n - 1 := by unfold rankM; split <;> omega
    generalize rankM wr me = a at *
    refine calls_of_wpF Try.func112 rfl ?_
    simp only [Try.ntmps112, List.size_toArray, List.length_cons, List.length_nil, Nat.reduceAdd, Nat.reduceSub, Array.replicate_succ, Array.replicate_zero, List.push_toArray, List.append_toArray, List.nil_append, List.cons_append]
    refine wpF_step fun K hK2 => ?_
    go_wp2_with fail
    refine wpF_step fun K hK2 => ?_
    go_wp2_with fail
    refine (hwr.out _ hn1 hn2 hw1 hw2).mono ?_
    rintro e w2 ⟨rfl, hx⟩
    clear c_b1 c_b2
    replace hK := hK.trans (Keep.of_ext hx hP.lt hP.le)
    replace b1 := b1.ext hx hP.lt
    have c_b1 := b1.cells
    replace b2 := b2.ext hx hP.lt
    have c_b2 := b2.cells
    replace hP := hP.ext hx
    clear hx
    go_wp2_with fail
    refine wpF_step fun K hK2 => ?_
    go_wp2_with fail
    refine (hrk2.out _).mono ?_
    rintro e w2 ⟨rfl, hx⟩
    clear c_b1 c_b2
    replace hK := hK.trans (Keep.of_ext hx hP.lt hP.le)
    replace b1 := b1.ext hx hP.lt
    have c_b1 := b1.cells
    replace b2 := b2.ext hx hP.lt
    have c_b2 := b2.cells
    replace hP := hP.ext hx
    clear hx
    go_wp2_with fail
    have b3 := hP.held (.cells #[.int .i64 a] 3)
    clear c_b1 c_b2
    replace b1 := b1.alloc (.cells #[.int .i64 a] 3) hP.lt
    replace b2 := b2.alloc (.cells #[.int .i64 a] 3) hP.lt
    replace hK := hK.trans (Keep.alloc (.cells #[.int .i64 a] 3) hP.lt hP.le)
    replace hP := hP.alloc (.cells #[.int .i64 a] 3)
    have c_b1 := b1.cells
    have c_b2 := b2.cells
    have c_b3 := b3.cells
    refine wpF_step fun K hK2 => ?_
    go_wp2_with fail
    refine wpF_step fun K hK2 => ?_
    go_wp2_with fail
    refine (threads_p n _ hn1 hn2).mono ?_
    rintro e w' ⟨rfl, rfl⟩
    go_wp2_with fail
    have b4 := hP.held (.cells #[.int .i64 (n - 1)] 3)
    clear c_b1 c_b2 c_b3
    replace b1 := b1.alloc (.cells #[.int .i64 (n - 1)] 3) hP.lt
    replace b2 := b2.alloc (.cells #[.int .i64 (n - 1)] 3) hP.lt
    replace b3 := b3.alloc (.cells #[.int .i64 (n - 1)] 3) hP.lt
    replace hK := hK.trans (Keep.alloc (.cells #[.int .i64 (n - 1)] 3) hP.lt hP.le)
    replace hP := hP.alloc (.cells #[.int .i64 (n - 1)] 3)
    have c_b1 := b1.cells
    have c_b2 := b2.cells
    have c_b3 := b3.cells
    have c_b4 := b4.cells
    simp only [World.size_alloc] at b4 c_b4
    generalize (w2.alloc (.cells #[.int .i64 a] 3)).alloc (.cells #[.int .i64 (n - 1)] 3) = W0 at *
    generalize w2.heap.size = q at *
    refine wpF_cut (fun a0 a' W => ∃ (y : Int) (bx : Nat) (S : TS), a' = { tmps := ((((((a0.tmps.setIfInBounds 36 (.pointer (some ⟨p, 0, none⟩))).setIfInBounds 37 (encR (⟨kind, base, loc, n, wr, rd, top⟩ : Reg))).setIfInBounds 38 (.int .i64 a)).setIfInBounds 39 (encR (⟨5, base + 16 * a, loc + (2 + 18 * a), n, wr, rd, 1099511627776⟩ : Reg))).setIfInBounds 40 (.int .i64 y)).setIfInBounds 10 (.pointer (some ⟨bx, 0, none⟩))), defers := [] } ∧ w.heap.size ≤ bx ∧ bx ≠ w.heap.size ∧ bx ≠ w.heap.size + 1 ∧ bx ≠ q ∧ bx ≠ q + 1 ∧
      HeldP W p w.heap.size (.cells #[.pointer (some ⟨p, 0, none⟩)] 33) ∧ HeldP W p (w.heap.size + 1) (.cells #[.int .i64 kind, .int .i64 base, .int .i64 loc, .int .i64 n, .int .i64 wr, .int .i64 rd, .int .i64 top] 56) ∧ HeldP W p q (.cells #[.int .i64 a] 3) ∧ HeldP W p (q + 1) (.cells #[.int .i64 (n - 1)] 3) ∧ HeldP W p bx (.cells #[.int .i64 y] 3) ∧
      Plays B W p S ∧ KeepP B p w W ∧ Owes R encI B p w (((forP (fun i x => (slotsR (base + 16 * tellsM (n - 1) i a) (loc + (2 + 18 * tellsM (n - 1) i a))).bind fun y => .ret (max x y)) (ranksFrom a (n - 1).toNat 0) y).bind fun x =>
      (forP (fun i _ => slotsW (base + 16 * tellsM (n - 1) a i) (loc + (2 + 18 * tellsM (n - 1) a i)) x) (ranksFrom a (n - 1).toNat 0) ()).bind fun _ => .ret (unLo x (clamp top 1048576))).run S)) ?_ ?_
    · replace hP := hP.drew
      replace hK := hK.drew
      replace b1 := b1.drew
      replace b2 := b2.drew
      replace b3 := b3.drew
      replace b4 := b4.drew
      refine wp_region_held_drew (S := fun W' => (∀ i : Nat, W'.cell? ⟨w.heap.size, i, none⟩ = (#[.pointer (some ⟨p, 0, none⟩)] : Array Value)[i]?) ∧ (∀ i : Nat, W'.cell? ⟨w.heap.size + 1, i, none⟩ = (#[.int .i64 kind, .int .i64 base, .int .i64 loc, .int .i64 n, .int .i64 wr, .int .i64 rd, .int .i64 top] : Array Value)[i]?) ∧ (∀ i : Nat, W'.cell? ⟨q, i, none⟩ = (#[.int .i64 a] : Array Value)[i]?)) (by kernel_rfl) ⟨c_b1, c_b2, c_b3⟩ (fun hHeld => ?_)
      refine wpAnyH_take (i := 0) (v := ?_) rfl (by kernel_rfl) (by kernel_rfl) (by kernel_rfl) (fun _ _ _ h => h) (Or.inl ⟨by kernel_rfl, ?_⟩) (by assumption) ?_
      rotate_left
      · (intro w hSw; (try dsimp only at hSw); go_simp; try with_reducible rfl)
      try simp only [put_pack]
      refine wpAnyH_take (i := 1) (v := ?_) rfl (by kernel_rfl) (by kernel_rfl) (by kernel_rfl) (fun _ _ _ h => h) (Or.inl ⟨by kernel_rfl, ?_⟩) (by assumption) ?_
      rotate_left
      · (intro w hSw; (try dsimp only at hSw); go_simp; try with_reducible rfl)
      try simp only [put_pack]
      refine wpAnyH_take (i := 2) (v := ?_) rfl (by kernel_rfl) (by kernel_rfl) (by kernel_rfl) (fun _ _ _ h => h) (Or.inl ⟨by kernel_rfl, ?_⟩) (by assumption) ?_
      rotate_left
      · (intro w hSw; (try dsimp only at hSw); go_simp; try with_reducible rfl)
      try simp only [put_pack]
      refine wpAnyH_ready (rs := [3, 5]) (by kernel_rfl) (by simp) ?_
      refine AllReadyH.cons rfl (fun K hKK => ?_) (AllReadyH.cons rfl (fun K hKK => ?_) AllReadyH.nil)
      · go_simp
        refine (tslot_p ⟨kind, base, loc, n, wr, rd, top⟩ a _ (by omega) (by omega) hb1 (by simp only; omega) hl1 (by simp only; omega)).mono ?_
        rintro e w2 ⟨rfl, hx⟩
        clear c_b1 c_b2 c_b3 c_b4
        replace hK := hK.trans (Keep.of_ext hx hP.lt hP.le)
        replace b1 := b1.ext hx hP.lt
        have c_b1 := b1.cells
        replace b2 := b2.ext hx hP.lt
        have c_b2 := b2.cells
        replace b3 := b3.ext hx hP.lt
        have c_b3 := b3.cells
        replace b4 := b4.ext hx hP.lt
        have c_b4 := b4.cells
        replace hP := hP.ext hx
        clear hx
        refine hKK.out _ _ ⟨c_b1, c_b2, c_b3⟩ (fun hHeld => ?_)
        clear hKK K
        try dsimp only
        refine wpAnyH_ready (rs := [4, 5]) (by kernel_rfl) (by simp) ?_
        refine AllReadyH.cons rfl (fun K hKK => ?_) (AllReadyH.cons rfl (fun K hKK => ?_) AllReadyH.nil)
        · go_simp
          refine tstep hO hK (slots_read_p B p S ⟨5, base + 16 * a, loc + (2 + 18 * a), n, wr, rd, 1099511627776⟩ _ hP (by simp only; omega) (by simp only; omega) (by simp only; omega) (by simp only; omega)) (fun _ h => ⟨rfl, h⟩) ?_
          clear hO hK hP c_b1 c_b2 c_b3 c_b4
          intro y S w1 hr hP hk hK hO
          replace b1 := b1.keep hk
          have c_b1 := b1.cells
          replace b2 := b2.keep hk
          have c_b2 := b2.cells
          replace b3 := b3.keep hk
          have c_b3 := b3.cells
          replace b4 := b4.keep hk
          have c_b4 := b4.cells
          clear hk hr
          refine hKK.out _ _ ⟨c_b1, c_b2, c_b3⟩ (fun hHeld => ?_)
          clear hKK K
          try simp only [put_pack]
          refine wpAnyH_ready (rs := [5]) (by kernel_rfl) (by simp) ?_
          refine AllReadyH.cons rfl (fun K hKK => ?_) AllReadyH.nil
          go_simp
          have l1 := b1.lt
          have l2 := b2.lt
          have l3 := b3.lt
          have l4 := b4.lt
          have lk := hK.size
          refine hKK.out _ _ ⟨(b1.alloc _ hP.lt).cells, (b2.alloc _ hP.lt).cells, (b3.alloc _ hP.lt).cells⟩ (fun hHeld => ?_)
          clear hKK K
          try simp only [put_pack]
          refine wpAnyH_ready (rs := [6]) (by kernel_rfl) (by simp) ?_
          refine AllReadyH.cons rfl (fun K hKK => ?_) AllReadyH.nil
          go_simp
          have b5 := hP.held (.cells #[.int .i64 y] 3)
          clear c_b1 c_b2 c_b3 c_b4
          replace b1 := b1.alloc (.cells #[.int .i64 y] 3) hP.lt
          replace b2 := b2.alloc (.cells #[.int .i64 y] 3) hP.lt
          replace b3 := b3.alloc (.cells #[.int .i64 y] 3) hP.lt
          replace b4 := b4.alloc (.cells #[.int .i64 y] 3) hP.lt
          replace hK := hK.trans (Keep.alloc (.cells #[.int .i64 y] 3) hP.lt hP.le)
          replace hP := hP.alloc (.cells #[.int .i64 y] 3)
          have c_b1 := b1.cells
          have c_b2 := b2.cells
          have c_b3 := b3.cells
          have c_b4 := b4.cells
          have c_b5 := b5.cells
          refine hKK.out _ _ ⟨c_b1, c_b2, c_b3⟩ (fun hHeld => ?_)
          refine wpAnyH_done (by kernel_rfl) ?_ _
          exact ⟨y, w1.heap.size, S, rfl, lk, by omega, by omega, by omega, by omega, b1, b2, b3, b4, b5, hP, hK, hO⟩
        · go_simp
          have l1 := b1.lt
          have l2 := b2.lt
          have l3 := b3.lt
          have l4 := b4.lt
          have lk := hK.size
          have b5 := hP.held (.cells #[.int .i64 0] 3)
          clear c_b1 c_b2 c_b3 c_b4
          replace b1 := b1.alloc (.cells #[.int .i64 0] 3) hP.lt
          replace b2 := b2.alloc (.cells #[.int .i64 0] 3) hP.lt
          replace b3 := b3.alloc (.cells #[.int .i64 0] 3) hP.lt
          replace b4 := b4.alloc (.cells #[.int .i64 0] 3) hP.lt
          replace hK := hK.trans (Keep.alloc (.cells #[.int .i64 0] 3) hP.lt hP.le)
          replace hP := hP.alloc (.cells #[.int .i64 0] 3)
          have c_b1 := b1.cells
          have c_b2 := b2.cells
          have c_b3 := b3.cells
          have c_b4 := b4.cells
          have c_b5 := b5.cells
          replace l1 : w.heap.size < w2.heap.size := l1
          replace l2 : w.heap.size + 1 < w2.heap.size := l2
          replace l3 : q < w2.heap.size := l3
          replace l4 : q + 1 < w2.heap.size := l4
          replace lk : w.heap.size ≤ w2.heap.size := lk
          refine hKK.out _ _ ⟨c_b1, c_b2, c_b3⟩ (fun hHeld => ?_)
          clear hKK K
          try simp only [put_pack]
          generalize w2.heap.size = bx at *
          refine wpAnyH_ready (rs := [4]) (by kernel_rfl) (by simp) ?_
          refine AllReadyH.cons rfl (fun K hKK => ?_) AllReadyH.nil
          go_simp
          refine tstep hO hK (slots_read_p B p S ⟨5, base + 16 * a, loc + (2 + 18 * a), n, wr, rd, 1099511627776⟩ _ hP (by simp only; omega) (by simp only; omega) (by simp only; omega) (by simp only; omega)) (fun _ h => ⟨rfl, h⟩) ?_
          clear hO hK hP c_b1 c_b2 c_b3 c_b4 c_b5
          intro y S w1 hr hP hk hK hO
          replace b1 := b1.keep hk
          have c_b1 := b1.cells
          replace b2 := b2.keep hk
          have c_b2 := b2.cells
          replace b3 := b3.keep hk
          have c_b3 := b3.cells
          replace b4 := b4.keep hk
          have c_b4 := b4.cells
          replace b5 := b5.keep hk
          have c_b5 := b5.cells
          clear hk hr
          refine hKK.out _ _ ⟨c_b1, c_b2, c_b3⟩ (fun hHeld => ?_)
          clear hKK K
          try simp only [put_pack]
          refine wpAnyH_ready (rs := [6]) (by kernel_rfl) (by simp) ?_
          refine AllReadyH.cons rfl (fun K hKK => ?_) AllReadyH.nil
          have f_b5 := frozen_of_heap b5.1
          go_simp
          have o5 := OneB.setCell w1 bx 0 (.int .i64 y)
          have n5 := b5.2
          replace b1 := b1.one o5 (by omega) n5
          replace b2 := b2.one o5 (by omega) n5
          replace b3 := b3.one o5 (by omega) n5
          replace b4 := b4.one o5 (by omega) n5
          have b6 := b5.set1 (.int .i64 y)
          refine hKK.out _ _ ⟨b1.cells, b2.cells, b3.cells⟩ (fun hHeld => ?_)
          refine wpAnyH_done (by kernel_rfl) ?_ _
          exact ⟨y, bx, S, rfl, lk, by omega, by omega, by omega, by omega, b1, b2, b3, b4, b6, hP.one o5 n5 (by have := hBw.out; omega), hK.one o5 lk n5 hBw.out, hO⟩
      · go_simp
        have l1 := b1.lt
        have l2 := b2.lt
        have l3 := b3.lt
        have l4 := b4.lt
        have lk := hK.size
        have b5 := hP.held (.cells #[.int .i64 0] 3)
        clear c_b1 c_b2 c_b3 c_b4
        replace b1 := b1.alloc (.cells #[.int .i64 0] 3) hP.lt
        replace b2 := b2.alloc (.cells #[.int .i64 0] 3) hP.lt
        replace b3 := b3.alloc (.cells #[.int .i64 0] 3) hP.lt
        replace b4 := b4.alloc (.cells #[.int .i64 0] 3) hP.lt
        replace hK := hK.trans (Keep.alloc (.cells #[.int .i64 0] 3) hP.lt hP.le)
        replace hP := hP.alloc (.cells #[.int .i64 0] 3)
        have c_b1 := b1.cells
        have c_b2 := b2.cells
        have c_b3 := b3.cells
        have c_b4 := b4.cells
        have c_b5 := b5.cells
        replace l1 : w.heap.size < W0.heap.size := l1
        replace l2 : w.heap.size + 1 < W0.heap.size := l2
        replace l3 : q < W0.heap.size := l3
        replace l4 : q + 1 < W0.heap.size := l4
        replace lk : w.heap.size ≤ W0.heap.size := lk
        refine hKK.out _ _ ⟨c_b1, c_b2, c_b3⟩ (fun hHeld => ?_)
        clear hKK K
        try simp only [put_pack]
        replace b5 : HeldP _ p W0.heap.size _ := b5
        replace c_b5 := b5.cells
        generalize W0.heap.size = bx at *
        refine wpAnyH_ready (rs := [3]) (by kernel_rfl) (by simp) ?_
        refine AllReadyH.cons rfl (fun K hKK => ?_) AllReadyH.nil
        go_simp
        refine (tslot_p ⟨kind, base, loc, n, wr, rd, top⟩ a _ (by omega) (by omega) hb1 (by simp only; omega) hl1 (by simp only; omega)).mono ?_
        rintro e w2 ⟨rfl, hx⟩
        clear c_b1 c_b2 c_b3 c_b4 c_b5
        replace hK := hK.trans (Keep.of_ext hx hP.lt hP.le)
        replace b1 := b1.ext hx hP.lt
        have c_b1 := b1.cells
        replace b2 := b2.ext hx hP.lt
        have c_b2 := b2.cells
        replace b3 := b3.ext hx hP.lt
        have c_b3 := b3.cells
        replace b4 := b4.ext hx hP.lt
        have c_b4 := b4.cells
        replace b5 := b5.ext hx hP.lt
        have c_b5 := b5.cells
        replace hP := hP.ext hx
        clear hx
        refine hKK.out _ _ ⟨c_b1, c_b2, c_b3⟩ (fun hHeld => ?_)
        clear hKK K
        try dsimp only
        refine wpAnyH_ready (rs := [4]) (by kernel_rfl) (by simp) ?_
        refine AllReadyH.cons rfl (fun K hKK => ?_) AllReadyH.nil
        go_simp
        refine tstep hO hK (slots_read_p B p S ⟨5, base + 16 * a, loc + (2 + 18 * a), n, wr, rd, 1099511627776⟩ _ hP (by simp only; omega) (by simp only; omega) (by simp only; omega) (by simp only; omega)) (fun _ h => ⟨rfl, h⟩) ?_
        clear hO hK hP c_b1 c_b2 c_b3 c_b4 c_b5
        intro y S w1 hr hP hk hK hO
        replace b1 := b1.keep hk
        have c_b1 := b1.cells
        replace b2 := b2.keep hk
        have c_b2 := b2.cells
        replace b3 := b3.keep hk
        have c_b3 := b3.cells
        replace b4 := b4.keep hk
        have c_b4 := b4.cells
        replace b5 := b5.keep hk
        have c_b5 := b5.cells
        clear hk hr
        refine hKK.out _ _ ⟨c_b1, c_b2, c_b3⟩ (fun hHeld => ?_)
        clear hKK K
        try simp only [put_pack]
        refine wpAnyH_ready (rs := [6]) (by kernel_rfl) (by simp) ?_
        refine AllReadyH.cons rfl (fun K hKK => ?_) AllReadyH.nil
        have f_b5 := frozen_of_heap b5.1
        go_simp
        have o5 := OneB.setCell w1 bx 0 (.int .i64 y)
        have n5 := b5.2
        replace b1 := b1.one o5 (by omega) n5
        replace b2 := b2.one o5 (by omega) n5
        replace b3 := b3.one o5 (by omega) n5
        replace b4 := b4.one o5 (by omega) n5
        have b6 := b5.set1 (.int .i64 y)
        refine hKK.out _ _ ⟨b1.cells, b2.cells, b3.cells⟩ (fun hHeld => ?_)
        refine wpAnyH_done (by kernel_rfl) ?_ _
        exact ⟨y, bx, S, rfl, lk, by omega, by omega, by omega, by omega, b1, b2, b3, b4, b6, hP.one o5 n5 (by have := hBw.out; omega), hK.one o5 lk n5 hBw.out, hO⟩
    · rintro a' W ⟨y, bx, S, rfl, lw, ne1, ne2, ne3, ne4, b1, b2, b3, b4, b5, hP, hK, hO⟩
      clear c_b1 c_b2 c_b3 c_b4
      have c_b1 := b1.cells
      have c_b2 := b2.cells
      have c_b3 := b3.cells
      have c_b4 := b4.cells
      have c_b5 := b5.cells
      obtain ⟨k, hk⟩ : ∃ k : Nat, n - 1 = (k : Int) := ⟨(n - 1).toNat, by omega⟩
      simp only [hk, Int.toNat_natCast] at hO b4 c_b4 hrb ⊢
      have hk8 : k ≤ 7 := by omega
      have n1 : ¬ w.heap.size = bx := fun e => ne1 e.symm
      have n2 : ¬ w.heap.size + 1 = bx := fun e => ne2 e.symm
      have n3 : ¬ q = bx := fun e => ne3 e.symm
      have n4 : ¬ q + 1 = bx := fun e => ne4 e.symm
      simp only [List.setIfInBounds_toArray, List.set_cons_zero, List.set_cons_succ]
      refine wpF_seq (wpF_step fun K hK2 => ?_)
      go_wp2_with fail
      refine (ranks_p _ _ _).mono ?_
      rintro e w3 ⟨rfl, rfl⟩
      go_wp2_with fail
      have lbx := b5.lt
      have b6 := hP.held (.cells #[.int .i64 (k : Int)] 3)
      clear c_b1 c_b2 c_b3 c_b4 c_b5
      replace b1 := b1.alloc (.cells #[.int .i64 (k : Int)] 3) hP.lt
      replace b2 := b2.alloc (.cells #[.int .i64 (k : Int)] 3) hP.lt
      replace b3 := b3.alloc (.cells #[.int .i64 (k : Int)] 3) hP.lt
      replace b4 := b4.alloc (.cells #[.int .i64 (k : Int)] 3) hP.lt
      replace b5 := b5.alloc (.cells #[.int .i64 (k : Int)] 3) hP.lt
      replace hK := hK.trans (Keep.alloc (.cells #[.int .i64 (k : Int)] 3) hP.lt hP.le)
      replace hP := hP.alloc (.cells #[.int .i64 (k : Int)] 3)
      have c_b1 := b1.cells
      have c_b2 := b2.cells
      have c_b3 := b3.cells
      have c_b4 := b4.cells
      have c_b5 := b5.cells
      have c_b6 := b6.cells
      have b7 := hP.held (.cells #[.int .i64 a] 3)
      clear c_b1 c_b2 c_b3 c_b4 c_b5 c_b6
      replace b1 := b1.alloc (.cells #[.int .i64 a] 3) hP.lt
      replace b2 := b2.alloc (.cells #[.int .i64 a] 3) hP.lt
      replace b3 := b3.alloc (.cells #[.int .i64 a] 3) hP.lt
      replace b4 := b4.alloc (.cells #[.int .i64 a] 3) hP.lt
      replace b5 := b5.alloc (.cells #[.int .i64 a] 3) hP.lt
      replace b6 := b6.alloc (.cells #[.int .i64 a] 3) hP.lt
      replace hK := hK.trans (Keep.alloc (.cells #[.int .i64 a] 3) hP.lt hP.le)
      replace hP := hP.alloc (.cells #[.int .i64 a] 3)
      have c_b1 := b1.cells
      have c_b2 := b2.cells
      have c_b3 := b3.cells
      have c_b4 := b4.cells
      have c_b5 := b5.cells
      have c_b6 := b6.cells
      have c_b7 := b7.cells
      simp only [World.size_alloc] at b7 c_b7
      have hWW : W.heap.size < ((W.alloc (.cells #[.int .i64 (k : Int)] 3)).alloc (.cells #[.int .i64 a] 3)).heap.size := b6.lt
      generalize (W.alloc (.cells #[.int .i64 (k : Int)] 3)).alloc (.cells #[.int .i64 a] 3) = W0 at *
      have n6 : ¬ W.heap.size = bx := by omega
      have n7 : ¬ W.heap.size + 1 = bx := by omega
      generalize W.heap.size = q2 at *
      refine wpF_block ?_
      refine' tape_range (T := fun i x => (slotsR (base + 16 * tellsM k i a) (loc + (2 + 18 * tellsM k i a))).bind fun y => .ret (max x y)) (xs := ranksFrom a k 0) (x := y) (fin := fun x => (forP (fun i _ => slotsW (base + 16 * tellsM k a i) (loc + (2 + 18 * tellsM k a i)) x) (ranksFrom a k 0) ()).bind fun _ => .ret (unLo x (clamp top 1048576))) Try.func112 rfl (enters_of Try.func195 (by kernel_rfl) rfl) rfl (ranks_gives k a q2 (q2 + 1) (by omega))
        (fun b => b = bx) (fun x W => HeldP W p bx (.cells #[.int .i64 x] 3)) (fun b hb => ⟨by rw [hb]; exact b5.lt, by rw [hb]; exact lw⟩) hP.le (fun W hX => ⟨(KeepX.held b6 hX n6).cells 0, (KeepX.held b7 hX n7).cells 0⟩) (fun _ _ o hp h => h.alloc o hp) (fun _ _ l _ hl hn h => h.put (by have := b5.lt; omega) hn) hO hK hP b5
        _ ?assign ?body ?done ?pan
      case assign =>
        intro l y W K hK
        gi_wp2
        exact hK
      case body =>
        intro l i x S W hi hPl hX hJx
        have hib := ranks_mem a k 0 i hi
        have htb := tells_bd k i a (by omega) (by omega) (by omega) (by omega)
        have c1 := (KeepX.held b1 hX n1)
        have c2 := (KeepX.held b2 hX n2)
        have c3 := (KeepX.held b3 hX n3)
        have c4 := (KeepX.held b4 hX n4)
        have c5 : HeldP W p bx (.cells #[.int .i64 x] 3) := hJx
        have hO := owes encI B p W ((slotsR (base + 16 * tellsM k i a) (loc + (2 + 18 * tellsM k i a))).run S)
        have hK := Keep.refl [2, 3, 4] B p W
        have hP := hPl
        have hK8 := Lib.hid hX.below.size
        clear hPl hX hJx b1 b2 b3 b4 b5 b6 b7 c_b1 c_b2 c_b3 c_b4 c_b5 c_b6 c_b7
        have c_c1 := c1.cells
        have c_c2 := c2.cells
        have c_c3 := c3.cells
        have c_c4 := c4.cells
        have c_c5 := c5.cells
        refine wpIn_block ?_
        replace hP := hP.drew
        replace hK := hK.drew
        replace c1 := c1.drew
        replace c2 := c2.drew
        replace c3 := c3.drew
        replace c4 := c4.drew
        replace c5 := c5.drew
        refine wpIn_region_held (S := fun W' => (∀ i : Nat, W'.cell? ⟨w.heap.size, i, none⟩ = (#[.pointer (some ⟨p, 0, none⟩)] : Array Value)[i]?) ∧ (∀ i : Nat, W'.cell? ⟨w.heap.size + 1, i, none⟩ = (#[.int .i64 kind, .int .i64 base, .int .i64 loc, .int .i64 n, .int .i64 wr, .int .i64 rd, .int .i64 top] : Array Value)[i]?) ∧ (∀ i : Nat, W'.cell? ⟨q, i, none⟩ = (#[.int .i64 a] : Array Value)[i]?) ∧ (∀ i : Nat, W'.cell? ⟨q + 1, i, none⟩ = (#[.int .i64 (k : Int)] : Array Value)[i]?)) (by kernel_rfl) (by kernel_rfl) (fun _ _ h => h) ⟨c_c1, c_c2, c_c3, c_c4⟩ (fun hHeld => ?_)
        refine wpAnyH_take (i := 1) (v := ?_) rfl (by kernel_rfl) (by kernel_rfl) (by kernel_rfl) (fun _ _ _ h => h) (Or.inl ⟨by kernel_rfl, ?_⟩) (by assumption) ?_
        rotate_left
        · (intro w hSw; (try dsimp only at hSw); go_simp; try with_reducible rfl)
        try simp only [put_pack]
        refine wpAnyH_take (i := 2) (v := ?_) rfl (by kernel_rfl) (by kernel_rfl) (by kernel_rfl) (fun _ _ _ h => h) (Or.inl ⟨by kernel_rfl, ?_⟩) (by assumption) ?_
        rotate_left
        · (intro w hSw; (try dsimp only at hSw); go_simp; try with_reducible rfl)
        try simp only [put_pack]
        refine wpAnyH_take (i := 3) (v := ?_) rfl (by kernel_rfl) (by kernel_rfl) (by kernel_rfl) (fun _ _ _ h => h) (Or.inl ⟨by kernel_rfl, ?_⟩) (by assumption) ?_
        rotate_left
        · (intro w hSw; (try dsimp only at hSw); go_simp; try with_reducible rfl)
        try simp only [put_pack]
        refine wpAnyH_take (i := 4) (v := ?_) rfl (by kernel_rfl) (by kernel_rfl) (by kernel_rfl) (fun _ _ _ h => h) (Or.inl ⟨by kernel_rfl, ?_⟩) (by assumption) ?_
        rotate_left
        · (intro w hSw; (try dsimp only at hSw); go_simp; try with_reducible rfl)
        try simp only [put_pack]
        refine wpAnyH_take (i := 5) (v := ?_) rfl (by kernel_rfl) (by kernel_rfl) (by kernel_rfl) (fun _ _ _ h => h) (Or.inl ⟨by kernel_rfl, ?_⟩) (by assumption) ?_
        rotate_left
        · (intro w hSw; (try dsimp only at hSw); go_simp; try with_reducible rfl)
        try simp only [put_pack]
        refine wpAnyH_ready (rs := [0, 6]) (by kernel_rfl) (by simp) ?_
        refine AllReadyH.cons rfl (fun K hKK => ?_) (AllReadyH.cons rfl (fun K hKK => ?_) AllReadyH.nil)
        · go_simp
          refine hKK.out _ _ ⟨c_c1, c_c2, c_c3, c_c4⟩ (fun hHeld => ?_)
          clear hKK K
          try simp only [put_pack]
          refine wpAnyH_ready (rs := [6]) (by kernel_rfl) (by simp) ?_
          refine AllReadyH.cons rfl (fun K hKK => ?_) AllReadyH.nil
          go_simp
          refine (tells_p ⟨kind, base, loc, n, wr, rd, top⟩ k i a _ (by omega) (by omega) (by omega) (by omega) hb1 (by simp only; omega) hl1 (by simp only; omega)).mono ?_
          rintro e w2 ⟨rfl, hx⟩
          clear c_c1 c_c2 c_c3 c_c4 c_c5
          replace hK := hK.trans (Keep.of_ext hx hP.lt hP.le)
          replace c1 := c1.ext hx hP.lt
          have c_c1 := c1.cells
          replace c2 := c2.ext hx hP.lt
          have c_c2 := c2.cells
          replace c3 := c3.ext hx hP.lt
          have c_c3 := c3.cells
          replace c4 := c4.ext hx hP.lt
          have c_c4 := c4.cells
          replace c5 := c5.ext hx hP.lt
          have c_c5 := c5.cells
          replace hP := hP.ext hx
          clear hx
          refine hKK.out _ _ ⟨c_c1, c_c2, c_c3, c_c4⟩ (fun hHeld => ?_)
          clear hKK K
          try dsimp only
          refine wpAnyH_ready (rs := [7]) (by kernel_rfl) (by simp) ?_
          refine AllReadyH.cons rfl (fun K hKK => ?_) AllReadyH.nil
          go_simp
          refine tlast hO hK (slots_read_p B p S ⟨5, base + 16 * tellsM k i a, loc + (2 + 18 * tellsM k i a), n, wr, rd, 1099511627776⟩ _ hP (by simp only; omega) (by simp only; omega) (by simp only; omega) (by simp only; omega)) (fun w' h => ⟨rfl, rfl, (round_stop h).imp fun S hS => ⟨by rw [Prog.run_bind_none hS.1], hS.2.1, hS.2.2.x _⟩⟩) ?_
          intro y S1 w5 hr hP1 hk1 hK1 hO1
          replace c1 := c1.keep hk1
          replace c2 := c2.keep hk1
          replace c3 := c3.keep hk1
          replace c4 := c4.keep hk1
          replace c5 := c5.keep hk1
          clear c_c1 c_c2 c_c3 c_c4 c_c5
          have c_c1 := c1.cells
          have c_c2 := c2.cells
          have c_c3 := c3.cells
          have c_c4 := c4.cells
          have c_c5 := c5.cells
          refine hKK.out _ _ ⟨c_c1, c_c2, c_c3, c_c4⟩ (fun hHeld => ?_)
          clear hKK K
          try simp only [put_pack]
          refine wpAnyH_ready (rs := [8]) (by kernel_rfl) (by simp) ?_
          refine AllReadyH.cons rfl (fun K hKK => ?_) AllReadyH.nil
          go_simp
          refine hKK.out _ _ ⟨c_c1, c_c2, c_c3, c_c4⟩ (fun hHeld => ?_)
          clear hKK K
          try simp only [put_pack]
          refine wpAnyH_ready (rs := [9]) (by kernel_rfl) (by simp) ?_
          refine AllReadyH.cons rfl (fun K hKK => ?_) AllReadyH.nil
          have f_c5 := frozen_of_heap c5.1
          go_simp
          have o5 := OneB.setCell w5 bx 0 (.int .i64 (max x y))
          have n5 := c5.2
          have d1 := c1.one o5 (fun e => n1 e) n5
          have d2 := c2.one o5 (fun e => n2 e) n5
          have d3 := c3.one o5 (fun e => n3 e) n5
          have d4 := c4.one o5 (fun e => n4 e) n5
          refine hKK.out _ _ ⟨d1.cells, d2.cells, d3.cells, d4.cells⟩ (fun hHeld => ?_)
          refine wpAnyH_done (by kernel_rfl) ?_ _
          exact ⟨max x y, S1, by rw [Prog.run_bind_some hr]; rfl, hP1.one o5 n5 (by have := hBw.out; omega), (hK1.x _).oneX o5 rfl n5 (by have := hBw.out; omega), c5.set1 _⟩
        · go_simp
          refine (tells_p ⟨kind, base, loc, n, wr, rd, top⟩ k i a _ (by omega) (by omega) (by omega) (by omega) hb1 (by simp only; omega) hl1 (by simp only; omega)).mono ?_
          rintro e w2 ⟨rfl, hx⟩
          clear c_c1 c_c2 c_c3 c_c4 c_c5
          replace hK := hK.trans (Keep.of_ext hx hP.lt hP.le)
          replace c1 := c1.ext hx hP.lt
          have c_c1 := c1.cells
          replace c2 := c2.ext hx hP.lt
          have c_c2 := c2.cells
          replace c3 := c3.ext hx hP.lt
          have c_c3 := c3.cells
          replace c4 := c4.ext hx hP.lt
          have c_c4 := c4.cells
          replace c5 := c5.ext hx hP.lt
          have c_c5 := c5.cells
          replace hP := hP.ext hx
          clear hx
          refine hKK.out _ _ ⟨c_c1, c_c2, c_c3, c_c4⟩ (fun hHeld => ?_)
          clear hKK K
          try dsimp only
          refine wpAnyH_ready (rs := [0, 7]) (by kernel_rfl) (by simp) ?_
          refine AllReadyH.cons rfl (fun K hKK => ?_) (AllReadyH.cons rfl (fun K hKK => ?_) AllReadyH.nil)
          · go_simp
            refine hKK.out _ _ ⟨c_c1, c_c2, c_c3, c_c4⟩ (fun hHeld => ?_)
            clear hKK K
            try simp only [put_pack]
            refine wpAnyH_ready (rs := [7]) (by kernel_rfl) (by simp) ?_
            refine AllReadyH.cons rfl (fun K hKK => ?_) AllReadyH.nil
            go_simp
            refine tlast hO hK (slots_read_p B p S ⟨5, base + 16 * tellsM k i a, loc + (2 + 18 * tellsM k i a), n, wr, rd, 1099511627776⟩ _ hP (by simp only; omega) (by simp only; omega) (by simp only; omega) (by simp only; omega)) (fun w' h => ⟨rfl, rfl, (round_stop h).imp fun S hS => ⟨by rw [Prog.run_bind_none hS.1], hS.2.1, hS.2.2.x _⟩⟩) ?_
            intro y S1 w5 hr hP1 hk1 hK1 hO1
            replace c1 := c1.keep hk1
            replace c2 := c2.keep hk1
            replace c3 := c3.keep hk1
            replace c4 := c4.keep hk1
            replace c5 := c5.keep hk1
            clear c_c1 c_c2 c_c3 c_c4 c_c5
            have c_c1 := c1.cells
            have c_c2 := c2.cells
            have c_c3 := c3.cells
            have c_c4 := c4.cells
            have c_c5 := c5.cells
            refine hKK.out _ _ ⟨c_c1, c_c2, c_c3, c_c4⟩ (fun hHeld => ?_)
            clear hKK K
            try simp only [put_pack]
            refine wpAnyH_ready (rs := [8]) (by kernel_rfl) (by simp) ?_
            refine AllReadyH.cons rfl (fun K hKK => ?_) AllReadyH.nil
            go_simp
            refine hKK.out _ _ ⟨c_c1, c_c2, c_c3, c_c4⟩ (fun hHeld => ?_)
            clear hKK K
            try simp only [put_pack]
            refine wpAnyH_ready (rs := [9]) (by kernel_rfl) (by simp) ?_
            refine AllReadyH.cons rfl (fun K hKK => ?_) AllReadyH.nil
            have f_c5 := frozen_of_heap c5.1
            go_simp
            have o5 := OneB.setCell w5 bx 0 (.int .i64 (max x y))
            have n5 := c5.2
            have d1 := c1.one o5 (fun e => n1 e) n5
            have d2 := c2.one o5 (fun e => n2 e) n5
            have d3 := c3.one o5 (fun e => n3 e) n5
            have d4 := c4.one o5 (fun e => n4 e) n5
            refine hKK.out _ _ ⟨d1.cells, d2.cells, d3.cells, d4.cells⟩ (fun hHeld => ?_)
            refine wpAnyH_done (by kernel_rfl) ?_ _
            exact ⟨max x y, S1, by rw [Prog.run_bind_some hr]; rfl, hP1.one o5 n5 (by have := hBw.out; omega), (hK1.x _).oneX o5 rfl n5 (by have := hBw.out; omega), c5.set1 _⟩
          · go_simp
            refine tlast hO hK (slots_read_p B p S ⟨5, base + 16 * tellsM k i a, loc + (2 + 18 * tellsM k i a), n, wr, rd, 1099511627776⟩ _ hP (by simp only; omega) (by simp only; omega) (by simp only; omega) (by simp only; omega)) (fun w' h => ⟨rfl, rfl, (round_stop h).imp fun S hS => ⟨by rw [Prog.run_bind_none hS.1], hS.2.1, hS.2.2.x _⟩⟩) ?_
            intro y S1 w5 hr hP1 hk1 hK1 hO1
            replace c1 := c1.keep hk1
            replace c2 := c2.keep hk1
            replace c3 := c3.keep hk1
            replace c4 := c4.keep hk1
            replace c5 := c5.keep hk1
            clear c_c1 c_c2 c_c3 c_c4 c_c5
            have c_c1 := c1.cells
            have c_c2 := c2.cells
            have c_c3 := c3.cells
            have c_c4 := c4.cells
            have c_c5 := c5.cells
            refine hKK.out _ _ ⟨c_c1, c_c2, c_c3, c_c4⟩ (fun hHeld => ?_)
            clear hKK K
            try simp only [put_pack]
            refine wpAnyH_ready (rs := [0]) (by kernel_rfl) (by simp) ?_
            refine AllReadyH.cons rfl (fun K hKK => ?_) AllReadyH.nil
            go_simp
            refine hKK.out _ _ ⟨c_c1, c_c2, c_c3, c_c4⟩ (fun hHeld => ?_)
            clear hKK K
            try simp only [put_pack]
            refine wpAnyH_ready (rs := [8]) (by kernel_rfl) (by simp) ?_
            refine AllReadyH.cons rfl (fun K hKK => ?_) AllReadyH.nil
            go_simp
            refine hKK.out _ _ ⟨c_c1, c_c2, c_c3, c_c4⟩ (fun hHeld => ?_)
            clear hKK K
            try simp only [put_pack]
            refine wpAnyH_ready (rs := [9]) (by kernel_rfl) (by simp) ?_
            refine AllReadyH.cons rfl (fun K hKK => ?_) AllReadyH.nil
            have f_c5 := frozen_of_heap c5.1
            go_simp
            have o5 := OneB.setCell w5 bx 0 (.int .i64 (max x y))
            have n5 := c5.2
            have d1 := c1.one o5 (fun e => n1 e) n5
            have d2 := c2.one o5 (fun e => n2 e) n5
            have d3 := c3.one o5 (fun e => n3 e) n5
            have d4 := c4.one o5 (fun e => n4 e) n5
            refine hKK.out _ _ ⟨d1.cells, d2.cells, d3.cells, d4.cells⟩ (fun hHeld => ?_)
            refine wpAnyH_done (by kernel_rfl) ?_ _
            exact ⟨max x y, S1, by rw [Prog.run_bind_some hr]; rfl, hP1.one o5 n5 (by have := hBw.out; omega), (hK1.x _).oneX o5 rfl n5 (by have := hBw.out; omega), c5.set1 _⟩
      case done =>
        intro x S W1 hO1 hX hP1 hJx hD
        have d1 := (KeepX.held b1 hX n1)
        have d2 := (KeepX.held b2 hX n2)
        have d3 := (KeepX.held b3 hX n3)
        have d4 := (KeepX.held b4 hX n4)
        have hK1 : KeepP B p w W1 := KeepX.after hK hX (fun b hb => by rw [hb]; exact lw)
        have hO2 := owes_shut hO1 hK1 hD hK.size hBw.out
        have hBW : B ≤ W1.heap.size := hP1.le
        clear hO1 hX hK1 hD b1 b2 b3 b4 b5 b6 b7 c_b1 c_b2 c_b3 c_b4 c_b5 c_b6 c_b7 hK hP hO hWW n6 n7
        generalize W0.heap.size = D1 at *
        clear W0
        have b1 := d1
        have b2 := d2
        have b3 := d3
        have b4 := d4
        have b5 : HeldP W1 p bx (.cells #[.int .i64 x] 3) := hJx
        clear d1 d2 d3 d4 hJx
        have hO := hO2
        have hK := Keep.refl [2, 3, 4] B p W1
        have hP := hP1
        clear hO2
        have c_b1 := b1.cells
        have c_b2 := b2.cells
        have c_b3 := b3.cells
        have c_b4 := b4.cells
        have c_b5 := b5.cells
        show WpF _ _ _ _ _ _
        refine wpF_seq (wpF_step fun K hK2 => ?_)
        go_wp2_with fail
        refine (ranks_p _ _ _).mono ?_
        rintro e w3 ⟨rfl, rfl⟩
        go_wp2_with fail
        have b6 := hP.held (.cells #[.int .i64 (k : Int)] 3)
        clear c_b1 c_b2 c_b3 c_b4 c_b5
        replace b1 := b1.alloc (.cells #[.int .i64 (k : Int)] 3) hP.lt
        replace b2 := b2.alloc (.cells #[.int .i64 (k : Int)] 3) hP.lt
        replace b3 := b3.alloc (.cells #[.int .i64 (k : Int)] 3) hP.lt
        replace b4 := b4.alloc (.cells #[.int .i64 (k : Int)] 3) hP.lt
        replace b5 := b5.alloc (.cells #[.int .i64 (k : Int)] 3) hP.lt
        replace hK := hK.trans (Keep.alloc (.cells #[.int .i64 (k : Int)] 3) hP.lt hP.le)
        replace hP := hP.alloc (.cells #[.int .i64 (k : Int)] 3)
        have c_b1 := b1.cells
        have c_b2 := b2.cells
        have c_b3 := b3.cells
        have c_b4 := b4.cells
        have c_b5 := b5.cells
        have c_b6 := b6.cells
        have b7 := hP.held (.cells #[.int .i64 a] 3)
        clear c_b1 c_b2 c_b3 c_b4 c_b5 c_b6
        replace b1 := b1.alloc (.cells #[.int .i64 a] 3) hP.lt
        replace b2 := b2.alloc (.cells #[.int .i64 a] 3) hP.lt
        replace b3 := b3.alloc (.cells #[.int .i64 a] 3) hP.lt
        replace b4 := b4.alloc (.cells #[.int .i64 a] 3) hP.lt
        replace b5 := b5.alloc (.cells #[.int .i64 a] 3) hP.lt
        replace b6 := b6.alloc (.cells #[.int .i64 a] 3) hP.lt
        replace hK := hK.trans (Keep.alloc (.cells #[.int .i64 a] 3) hP.lt hP.le)
        replace hP := hP.alloc (.cells #[.int .i64 a] 3)
        have c_b1 := b1.cells
        have c_b2 := b2.cells
        have c_b3 := b3.cells
        have c_b4 := b4.cells
        have c_b5 := b5.cells
        have c_b6 := b6.cells
        have c_b7 := b7.cells
        simp only [World.size_alloc] at b7 c_b7
        generalize (W1.alloc (.cells #[.int .i64 (k : Int)] 3)).alloc (.cells #[.int .i64 a] 3) = W0 at *
        refine wpF_block ?_
        refine' tape_range (T := fun i _ => slotsW (base + 16 * tellsM k a i) (loc + (2 + 18 * tellsM k a i)) x) (xs := ranksFrom a k 0) (x := ()) (fin := fun _ => .ret (unLo x (clamp top 1048576))) Try.func112 rfl (enters_of Try.func195 (by kernel_rfl) rfl) rfl (ranks_gives k a W1.heap.size (W1.heap.size + 1) (by omega))
          (fun _ => False) (fun _ _ => True) (fun _ h => h.elim) hP.le (fun W hX => ⟨(KeepX.held b6 hX id).cells 0, (KeepX.held b7 hX id).cells 0⟩) (fun _ _ _ _ h => h) (fun _ _ _ _ _ _ h => h) hO hK hP trivial
          _ ?assign2 ?body2 ?done2 ?pan2
        case assign2 =>
          intro l y W K hK
          gi_wp2
          exact hK
        case body2 =>
          intro l i u S W hi hPl hX _
          have hib := ranks_mem a k 0 i hi
          have htb := tells_bd k a i (by omega) (by omega) (by omega) (by omega)
          have c1 := (KeepX.held b1 hX id)
          have c2 := (KeepX.held b2 hX id)
          have c3 := (KeepX.held b3 hX id)
          have c4 := (KeepX.held b4 hX id)
          have c5 := (KeepX.held b5 hX id)
          have hO := owes encU B p W ((slotsW (base + 16 * tellsM k a i) (loc + (2 + 18 * tellsM k a i)) x).run S)
          have hK := Keep.refl [2, 3, 4] B p W
          have hP := hPl
          clear hPl hX b1 b2 b3 b4 b5 b6 b7 c_b1 c_b2 c_b3 c_b4 c_b5 c_b6 c_b7
          have c_c1 := c1.cells
          have c_c2 := c2.cells
          have c_c3 := c3.cells
          have c_c4 := c4.cells
          have c_c5 := c5.cells
          refine wpIn_block ?_
          replace hP := hP.drew
          replace hK := hK.drew
          replace c1 := c1.drew
          replace c2 := c2.drew
          replace c3 := c3.drew
          replace c4 := c4.drew
          replace c5 := c5.drew
          refine wpIn_region_held (S := fun W' => (∀ i : Nat, W'.cell? ⟨w.heap.size, i, none⟩ = (#[.pointer (some ⟨p, 0, none⟩)] : Array Value)[i]?) ∧ (∀ i : Nat, W'.cell? ⟨w.heap.size + 1, i, none⟩ = (#[.int .i64 kind, .int .i64 base, .int .i64 loc, .int .i64 n, .int .i64 wr, .int .i64 rd, .int .i64 top] : Array Value)[i]?) ∧ (∀ i : Nat, W'.cell? ⟨q, i, none⟩ = (#[.int .i64 a] : Array Value)[i]?) ∧ (∀ i : Nat, W'.cell? ⟨q + 1, i, none⟩ = (#[.int .i64 (k : Int)] : Array Value)[i]?) ∧ (∀ i : Nat, W'.cell? ⟨bx, i, none⟩ = (#[.int .i64 x] : Array Value)[i]?)) (by kernel_rfl) (by kernel_rfl) (fun _ _ h => h) ⟨c_c1, c_c2, c_c3, c_c4, c_c5⟩ (fun hHeld => ?_)
          refine wpAnyH_take (i := 0) (v := ?_) rfl (by kernel_rfl) (by kernel_rfl) (by kernel_rfl) (fun _ _ _ h => h) (Or.inl ⟨by kernel_rfl, ?_⟩) (by assumption) ?_
          rotate_left
          · (intro w hSw; (try dsimp only at hSw); go_simp; try with_reducible rfl)
          try simp only [put_pack]
          refine wpAnyH_take (i := 1) (v := ?_) rfl (by kernel_rfl) (by kernel_rfl) (by kernel_rfl) (fun _ _ _ h => h) (Or.inl ⟨by kernel_rfl, ?_⟩) (by assumption) ?_
          rotate_left
          · (intro w hSw; (try dsimp only at hSw); go_simp; try with_reducible rfl)
          try simp only [put_pack]
          refine wpAnyH_take (i := 2) (v := ?_) rfl (by kernel_rfl) (by kernel_rfl) (by kernel_rfl) (fun _ _ _ h => h) (Or.inl ⟨by kernel_rfl, ?_⟩) (by assumption) ?_
          rotate_left
          · (intro w hSw; (try dsimp only at hSw); go_simp; try with_reducible rfl)
          try simp only [put_pack]
          refine wpAnyH_take (i := 3) (v := ?_) rfl (by kernel_rfl) (by kernel_rfl) (by kernel_rfl) (fun _ _ _ h => h) (Or.inl ⟨by kernel_rfl, ?_⟩) (by assumption) ?_
          rotate_left
          · (intro w hSw; (try dsimp only at hSw); go_simp; try with_reducible rfl)
          try simp only [put_pack]
          refine wpAnyH_take (i := 4) (v := ?_) rfl (by kernel_rfl) (by kernel_rfl) (by kernel_rfl) (fun _ _ _ h => h) (Or.inl ⟨by kernel_rfl, ?_⟩) (by assumption) ?_
          rotate_left
          · (intro w hSw; (try dsimp only at hSw); go_simp; try with_reducible rfl)
          try simp only [put_pack]
          refine wpAnyH_take (i := 6) (v := ?_) rfl (by kernel_rfl) (by kernel_rfl) (by kernel_rfl) (fun _ _ _ h => h) (Or.inl ⟨by kernel_rfl, ?_⟩) (by assumption) ?_
          rotate_left
          · (intro w hSw; (try dsimp only at hSw); go_simp; try with_reducible rfl)
          try simp only [put_pack]
          refine wpAnyH_ready (rs := [5]) (by kernel_rfl) (by simp) ?_
          refine AllReadyH.cons rfl (fun K hKK => ?_) AllReadyH.nil
          go_simp
          refine (tells_p ⟨kind, base, loc, n, wr, rd, top⟩ k a i _ (by omega) (by omega) (by omega) (by omega) hb1 (by simp only; omega) hl1 (by simp only; omega)).mono ?_
          rintro e w2 ⟨rfl, hx⟩
          clear c_c1 c_c2 c_c3 c_c4 c_c5
          replace hK := hK.trans (Keep.of_ext hx hP.lt hP.le)
          replace c1 := c1.ext hx hP.lt
          have c_c1 := c1.cells
          replace c2 := c2.ext hx hP.lt
          have c_c2 := c2.cells
          replace c3 := c3.ext hx hP.lt
          have c_c3 := c3.cells
          replace c4 := c4.ext hx hP.lt
          have c_c4 := c4.cells
          replace c5 := c5.ext hx hP.lt
          have c_c5 := c5.cells
          replace hP := hP.ext hx
          clear hx
          refine hKK.out _ _ ⟨c_c1, c_c2, c_c3, c_c4, c_c5⟩ (fun hHeld => ?_)
          clear hKK K
          try dsimp only
          refine wpAnyH_ready (rs := [7]) (by kernel_rfl) (by simp) ?_
          refine AllReadyH.cons rfl (fun K hKK => ?_) AllReadyH.nil
          go_simp
          refine tlast hO hK (slots_write_p B p S ⟨5, base + 16 * tellsM k a i, loc + (2 + 18 * tellsM k a i), n, wr, rd, 1099511627776⟩ x _ hP (by simp only; omega) (by simp only; omega) (by simp only; omega) (by simp only; omega)) (fun w' h => ⟨rfl, rfl, (round_stop h).imp fun S hS => ⟨hS.1, hS.2.1, hS.2.2.x _⟩⟩) ?_
          intro u2 S1 w5 hr hP1 hk1 hK1 hO1
          refine hKK.out _ _ ⟨(c1.keep hk1).cells, (c2.keep hk1).cells, (c3.keep hk1).cells, (c4.keep hk1).cells, (c5.keep hk1).cells⟩ (fun hHeld => ?_)
          refine wpAnyH_done (by kernel_rfl) ?_ _
          exact ⟨u2, S1, hr, hP1, hK1.x _, trivial⟩
        case done2 =>
          intro u S W hO1 hX hP _ hD
          have c2 := (KeepX.held b2 hX id)
          have c5 := (KeepX.held b5 hX id)
          have hK1 : KeepP B p W1 W := KeepX.after hK hX (fun _ h => h.elim)
          have hO := owes_shut hO1 hK1 hD hK.size hBW
          have hK := Keep.refl [2, 3, 4] B p W
          clear hO1 hX hK1 hD b1 b2 b3 b4 b5 b6 b7 c_b1 c_b2 c_b3 c_b4 c_b5 c_b6 c_b7
          have c_c2 := c2.cells
          have c_c5 := c5.cells
          generalize W0.heap.size = D2 at *
          show WpF _ _ _ _ _ _
          refine wpF_cut (fun a0 a' W' => a' = { tmps := (((((((((a0.tmps.setIfInBounds 67 (.int .i64 x)).setIfInBounds 68 (.pointer (some ⟨w.heap.size + 1, 6, none⟩))).setIfInBounds 69 (.int .i64 top)).setIfInBounds 70 (.int .i64 (clamp top 1048576))).setIfInBounds 71 (.tuple #[.int .i64 (unHi x (clamp top 1048576)), .int .i64 (unLo x (clamp top 1048576))])).setIfInBounds 66 (.tuple #[.int .i64 (unHi x (clamp top 1048576)), .int .i64 (unLo x (clamp top 1048576))])).setIfInBounds 72 (.int .i64 (unHi x (clamp top 1048576)))).setIfInBounds 73 (.int .i64 (unLo x (clamp top 1048576)))).setIfInBounds 13 (.int .i64 (unHi x (clamp top 1048576)))).setIfInBounds 14 (.int .i64 (unLo x (clamp top 1048576))), defers := a0.defers } ∧ Plays B W' p S ∧ KeepP B p W W') ?_ ?_
          · replace hP := hP.drew
            replace hK := hK.drew
            replace c2 := c2.drew
            replace c5 := c5.drew
            refine wp_region_held_drew (S := fun W' => (∀ i : Nat, W'.cell? ⟨w.heap.size + 1, i, none⟩ = (#[.int .i64 kind, .int .i64 base, .int .i64 loc, .int .i64 n, .int .i64 wr, .int .i64 rd, .int .i64 top] : Array Value)[i]?) ∧ (∀ i : Nat, W'.cell? ⟨bx, i, none⟩ = (#[.int .i64 x] : Array Value)[i]?)) (by kernel_rfl) ⟨c_c2, c_c5⟩ (fun hHeld => ?_)
            refine wpAnyH_take (i := 0) (v := ?_) rfl (by kernel_rfl) (by kernel_rfl) (by kernel_rfl) (fun _ _ _ h => h) (Or.inl ⟨by kernel_rfl, ?_⟩) (by assumption) ?_
            rotate_left
            · (intro w hSw; (try dsimp only at hSw); go_simp; try with_reducible rfl)
            try simp only [put_pack]
            refine wpAnyH_take (i := 1) (v := ?_) rfl (by kernel_rfl) (by kernel_rfl) (by kernel_rfl) (fun _ _ _ h => h) (Or.inl ⟨by kernel_rfl, ?_⟩) (by assumption) ?_
            rotate_left
            · (intro w hSw; (try dsimp only at hSw); go_simp; try with_reducible rfl)
            try simp only [put_pack]
            refine wpAnyH_take (i := 2) (v := ?_) rfl (by kernel_rfl) (by kernel_rfl) (by kernel_rfl) (fun _ _ _ h => h) (Or.inl ⟨by kernel_rfl, ?_⟩) (by assumption) ?_
            rotate_left
            · (intro w hSw; (try dsimp only at hSw); go_simp; try with_reducible rfl)
            try simp only [put_pack]
            refine wpAnyH_ready (rs := [3]) (by kernel_rfl) (by simp) ?_
            refine AllReadyH.cons rfl (fun K hKK => ?_) AllReadyH.nil
            go_simp
            refine (clamp_p _ _ _).mono ?_
            rintro e w' ⟨rfl, rfl⟩
            refine hKK.out _ _ ⟨c_c2, c_c5⟩ (fun hHeld => ?_)
            clear hKK K
            try simp only [put_pack]
            refine wpAnyH_ready (rs := [4]) (by kernel_rfl) (by simp) ?_
            refine AllReadyH.cons rfl (fun K hKK => ?_) AllReadyH.nil
            go_simp
            refine (unpack_x _ _ _).mono ?_
            rintro e w2 ⟨rfl, hx⟩
            clear c_c2 c_c5
            replace hK := hK.trans (Keep.of_ext hx hP.lt hP.le)
            replace c2 := c2.ext hx hP.lt
            have c_c2 := c2.cells
            replace c5 := c5.ext hx hP.lt
            have c_c5 := c5.cells
            replace hP := hP.ext hx
            clear hx
            refine hKK.out _ _ ⟨c_c2, c_c5⟩ (fun hHeld => ?_)
            clear hKK K
            try simp only [put_pack]
            refine wpAnyH_take (i := 5) (v := ?_) rfl (by kernel_rfl) (by kernel_rfl) (by kernel_rfl) (fun _ _ _ h => h) (Or.inl ⟨by kernel_rfl, ?_⟩) (by assumption) ?_
            rotate_left
            · (intro w hSw; (try dsimp only at hSw); go_simp; try with_reducible rfl)
            try simp only [put_pack]
            refine wpAnyH_take (i := 6) (v := ?_) rfl (by kernel_rfl) (by kernel_rfl) (by kernel_rfl) (fun _ _ _ h => h) (Or.inl ⟨by kernel_rfl, ?_⟩) (by assumption) ?_
            rotate_left
            · (intro w hSw; (try dsimp only at hSw); go_simp; try with_reducible rfl)
            try simp only [put_pack]
            refine wpAnyH_take (i := 7) (v := ?_) rfl (by kernel_rfl) (by kernel_rfl) (by kernel_rfl) (fun _ _ _ h => h) (Or.inl ⟨by kernel_rfl, ?_⟩) (by assumption) ?_
            rotate_left
            · (intro w hSw; (try dsimp only at hSw); go_simp; try with_reducible rfl)
            try simp only [put_pack]
            refine wpAnyH_take (i := 8) (v := ?_) rfl (by kernel_rfl) (by kernel_rfl) (by kernel_rfl) (fun _ _ _ h => h) (Or.inl ⟨by kernel_rfl, ?_⟩) (by assumption) ?_
            rotate_left
            · (intro w hSw; (try dsimp only at hSw); go_simp; try with_reducible rfl)
            try simp only [put_pack]
            refine wpAnyH_take (i := 9) (v := ?_) rfl (by kernel_rfl) (by kernel_rfl) (by kernel_rfl) (fun _ _ _ h => h) (Or.inl ⟨by kernel_rfl, ?_⟩) (by assumption) ?_
            rotate_left
            · (intro w hSw; (try dsimp only at hSw); go_simp; try with_reducible rfl)
            try simp only [put_pack]
            refine wpAnyH_done (by kernel_rfl) ?_ _
            exact ⟨rfl, hP, hK⟩
          · rintro a' W' ⟨rfl, hP, hK⟩
            simp only [List.setIfInBounds_toArray, List.set_cons_zero, List.set_cons_succ]
            have hf := hO.done hP hK
            refine wpF_of_wp ?_
            go_wp2_with fail
            exact leavesM_cons (fun hx => nomatch hx) hf.1 (leavesM_cons (fun hx => nomatch hx) hf.2.1 (leavesM_ret0 (v := .int .i64 (unLo x (clamp top 1048576))) (by simp [results, Try.results112, go_sem]) hf.2.2))
        case pan2 =>
          intro S W c hc hO1 hX hS hD
          have hK1 : KeepP B p W1 W := KeepX.after hK hX (fun _ h => h.elim)
          have hf := hO1.stop (hS.put (.deferred none) hD.2 (by have := hP.le; omega)) (hK1.put (o := .deferred none) hK.size hD.2 hBW)
          rw [hc] at hf
          exact leavesM_cons (fun hx => nomatch hx) hD.1 (leavesM_cons (fun hx => nomatch hx) hf.1 (leavesM_panic0 hf.2))
      case pan =>
        intro S W c hc hO1 hX hS hD
        have hK1 : KeepP B p w W := KeepX.after hK hX (fun b hb => by rw [hb]; exact lw)
        refine leavesM_cons (fun hx => nomatch hx) hD.1 (leavesM_panic0 ?_)
        rw [← hc]
        exact hO1.stop (hS.put _ hD.2 (by have := hP.le; omega)) (hK1.put hK.size hD.2 hBw.out)
end Go.Proofs.Ytbphlkaihfbgeaa
/-
  Registers of the program: what a number that all write is made of.
-/
namespace Go.Proofs.Ytbphlkaihfbgeaa
open Go.RowKit Kv
theorem mthreads_p (n : Int) (w : World) (h1 : 1 ≤ n) (h2 : n ≤ 8) : Calls Try.prog 163 #[.int .i64 n] w fun e w' => e = .returned (.int .i64 n) ∧ w = w' := by
  go_enter Try.func163, Try.ntmps163
  go_wp2_with fail
  go_ret
  exact ⟨ret_int (by show _ = _; omega), rfl⟩
theorem mmost_p (t : Int) (w : World) : Calls Try.prog 166 #[.int .i64 t] w fun e w' => e = .returned (.int .i64 (clamp t 255)) ∧ w = w' := by
  go_enter Try.func166, Try.ntmps166
  go_wp2_with fail
  refine (clamp_p _ _ _).mono ?_
  rintro e w' ⟨rfl, rfl⟩
  go_wp2_with fail
  go_ret
  exact ⟨rfl, rfl⟩
theorem trlocals_p (w : World) : Calls Try.prog 117 #[] w fun e w' => e = .returned (.int .i64 4) ∧ w = w' := by
  go_enter Try.func117, Try.ntmps117
  go_wp2_with fail
  go_ret
  exact ⟨rfl, rfl⟩
theorem slocals_p (w : World) : Calls Try.prog 118 #[] w fun e w' => e = .returned (.int .i64 18) ∧ w = w' := by
  go_enter Try.func118, Try.ntmps118
  go_wp2_with fail
  refine (trlocals_p _).mono ?_
  rintro e w' ⟨rfl, rfl⟩
  go_wp2_with fail
  go_ret
  exact ⟨rfl, rfl⟩
theorem sq_bd (n : Int) (h1 : 1 ≤ n) (h2 : n ≤ 8) : 0 ≤ 18 * (n - 1) ∧ 18 * (n - 1) ≤ 126 ∧ 0 ≤ 18 * (n - 1) * (n - 1) ∧ 18 * (n - 1) * (n - 1) ≤ 882 := by
  have h4 : 0 ≤ 18 * (n - 1) * (n - 1) := Int.mul_nonneg (by omega) (by omega)
  have h5 : 18 * (n - 1) * (n - 1) ≤ 126 * 7 := Int.mul_le_mul (by omega) (by omega) (by omega) (by omega)
  omega
theorem tlocals_p (n : Int) (w : World) (h1 : 1 ≤ n) (h2 : n ≤ 8) : Calls Try.prog 119 #[.int .i64 n] w fun e w' => e = .returned (.int .i64 (2 + 18 * (n - 1) * (n - 1))) ∧ w = w' := by
  have hs := sq_bd n h1 h2
  go_enter Try.func119, Try.ntmps119
  go_wp2_with fail
  refine (threads_p n _ h1 h2).mono ?_
  rintro e w' ⟨rfl, rfl⟩
  go_wp2_with fail
  refine (slocals_p _).mono ?_
  rintro e w' ⟨rfl, rfl⟩
  go_wp2_with fail
  go_ret
  exact ⟨rfl, rfl⟩
theorem many_bd (n j : Int) (h1 : 1 ≤ n) (h2 : n ≤ 8) (h3 : 0 ≤ j ∧ j < n) : (0 ≤ 16 * j * (n - 1) ∧ 16 * j * (n - 1) ≤ 784) ∧ (0 ≤ 16 * j * (n - 1) * (n - 1) ∧ 16 * j * (n - 1) * (n - 1) ≤ 5488) ∧ (0 ≤ j * (2 + 18 * (n - 1) * (n - 1)) ∧ j * (2 + 18 * (n - 1) * (n - 1)) ≤ 6188) := by
  have hs := sq_bd n h1 h2
  have a1 : 0 ≤ 16 * j * (n - 1) := Int.mul_nonneg (by omega) (by omega)
  have a2 : 16 * j * (n - 1) ≤ 112 * 7 := Int.mul_le_mul (by omega) (by omega) (by omega) (by omega)
  have a3 : 0 ≤ 16 * j * (n - 1) * (n - 1) := Int.mul_nonneg a1 (by omega)
  have a4 : 16 * j * (n - 1) * (n - 1) ≤ 784 * 7 := Int.mul_le_mul (by omega) (by omega) (by omega) (by omega)
  have a5 : 0 ≤ j * (2 + 18 * (n - 1) * (n - 1)) := Int.mul_nonneg (by omega) (by omega)
  have a6 : j * (2 + 18 * (n - 1) * (n - 1)) ≤ 7 * 884 := Int.mul_le_mul (by omega) (by omega) (by omega) (by omega)
  omega
set_option maxHeartbeats 1000000 in
theorem of_p (r : Reg) (j : Int) (w : World) (h1 : 1 ≤ r.n) (h2 : r.n ≤ 8) (h3 : 0 ≤ j ∧ j < r.n) (hb1 : 0 ≤ r.base) (hb2 : r.base ≤ 50000) (hl1 : 0 ≤ r.loc) (hl2 : r.loc ≤ 49000) :
    Calls Try.prog 165 #[encR r, .int .i64 j] w fun e w' => e = .returned (encR ⟨6, manyB r.base r.n j, manyL r.loc r.n j, r.n, j, -1, manyTop r.top⟩) ∧ Ext w w' := by
  obtain ⟨kind, base, loc, n, wr, rd, top⟩ := r
  simp only at h1 h2 h3 hb1 hb2 hl1 hl2
  have hm := many_bd n j h1 h2 h3
  have hs := sq_bd n h1 h2
  unfold encR manyB manyL manyTop
  have c1 := cell_of_heap (heap_alloc_new w (.cells #[.int .i64 kind, .int .i64 base, .int .i64 loc, .int .i64 n, .int .i64 wr, .int .i64 rd, .int .i64 top] 56))
  have w1 := IntWalk.i64_in (16 * j) (by omega)
  have w2 := IntWalk.i64_in (n - 1) (by omega)
  have w3 := IntWalk.i64_in (16 * j * (n - 1)) (by omega)
  have w4 := IntWalk.i64_in (16 * j * (n - 1) * (n - 1)) (by omega)
  have w5 := IntWalk.i64_in (base + 16 * j * (n - 1) * (n - 1)) (by omega)
  have w6 := IntWalk.i64_in (j * (2 + 18 * (n - 1) * (n - 1))) (by omega)
  have w7 := IntWalk.i64_in (loc + j * (2 + 18 * (n - 1) * (n - 1))) (by omega)
  have hmh := Lib.hid hm
  have hsh := Lib.hid hs
  clear hm hs
  go_enter Try.func165, Try.ntmps165
  go_wp2_with fail
  refine (mthreads_p n _ h1 h2).mono ?_
  rintro e w' ⟨rfl, rfl⟩
  go_wp2_with fail
  go_region_held2 (fun w' => ∀ i : Nat, w'.cell? ⟨w.heap.size, i, none⟩ = (#[.int .i64 kind, .int .i64 base, .int .i64 loc, .int .i64 n, .int .i64 wr, .int .i64 rd, .int .i64 top] : Array Value)[i]?) (first | assumption | go_keep | (intro i; simp [*]))
    (first
      | (go_at_call 119
         refine (tlocals_p n _ h1 h2).mono ?_
         rintro e w' ⟨rfl, rfl⟩)
      | (go_at_call 166
         refine (mmost_p top _).mono ?_
         rintro e w' ⟨rfl, rfl⟩)
      | (go_at_call 159
         refine (pack_p _ _ _ _).mono ?_
         rintro e w' ⟨rfl, rfl⟩))
  go_wp2_with fail
  refine bodyPost_ret (v := .agg #[.int .i64 6, .int .i64 (base + 16 * j * (n - 1) * (n - 1)), .int .i64 (loc + j * (2 + 18 * (n - 1) * (n - 1))), .int .i64 n, .int .i64 j, .int .i64 (-1), .int .i64 (packI 4095 (clamp top 255) (clamp top 255))]) (by simp [results, Try.results165, go_sem]) rfl ?_
  exact ⟨rfl, (((Ext.refl _).alloc _).alloc _).drewN 1⟩
end Go.Proofs.Ytbphlkaihfbgeaa
/-
  Registers of the program: a number that all write, written and read.
-/
namespace Go.Proofs.Ytbphlkaihfbgeaa
open Go.RowKit Kv
def encP (q : Int × Int) : Value := .agg #[.int .i64 q.1, .int .i64 q.2]
@[go_sem] theorem encP_eq (q : Int × Int) : encP q = .agg #[.int .i64 q.1, .int .i64 q.2] := rfl
theorem Held.set2 {ix : List Nat} {w : World} {p b : Nat} {u v : Value} {t : TypeId} (h : Held ix w p b (.cells #[u, v] t (0, 0))) (u' v' : Value) : Held ix ((w.setCell ⟨b, 0, none⟩ u').setCell ⟨b, 1, none⟩ v') p b (.cells #[u', v'] t (0, 0)) := by
  have h1 : Held ix (w.setCell ⟨b, 0, none⟩ u') p b (.cells #[u', v] t (0, 0)) := ⟨heap_setCell h.1 u', fun h' => h.2 ((ownR_same ((OneB.setCell w b 0 u').block p (fun e => h.2 (.inl e.symm))) b).1 h')⟩
  exact ⟨heap_setCell h1.1 v', fun h' => h1.2 ((ownR_same ((OneB.setCell _ b 1 v').block p (fun e => h1.2 (.inl e.symm))) b).1 h')⟩
theorem OneB.set2 (w : World) (b : Nat) (u v : Value) : OneB b w ((w.setCell ⟨b, 0, none⟩ u).setCell ⟨b, 1, none⟩ v) :=
  ⟨rfl, rfl, rfl, by simp, fun k hk => (heap_setCell_ne _ v hk).trans (heap_setCell_ne w u hk)⟩
theorem manyRs_step (b l n top me : Int) (k : Nat) (j s v : Int) : manyRs b l n top me (k + 1) j s v = (tableR (manyB b n j) (manyL l n j) n j (manyTop top) me).bind fun y =>
      if s ≤ unHi y (clamp top 255) then manyRs b l n top me k (j + 1) (unHi y (clamp top 255)) (unLo y (clamp top 255)) else manyRs b l n top me k (j + 1) s v := rfl
set_option maxHeartbeats 2000000 in
theorem greatest_p (B p : Nat) (S : TS) (r : Reg) (me : Int) (w : World) (h : Plays B w p S) (hn1 : 1 ≤ r.n) (hn2 : r.n ≤ 8) (hm : 0 ≤ me ∧ me < r.n) (hb1 : 0 ≤ r.base) (hb2 : r.base ≤ 50000) (hl1 : 0 ≤ r.loc) (hl2 : r.loc ≤ 49000) :
    Calls Try.prog 164 #[.pointer (some ⟨p, 0, none⟩), encR r, .int .i64 me] w (Post encP B p w ((manyRs r.base r.loc r.n r.top me r.n.toNat 0 0 0).run S)) := by
  generalize hR : Post encP B p w ((manyRs r.base r.loc r.n r.top me r.n.toNat 0 0 0).run S) = R
  have hO : Owes R encP B p w ((manyRs r.base r.loc r.n r.top me r.n.toNat 0 0 0).run S) := hR ▸ owes _ _ _ _ _
  clear hR
  obtain ⟨kind, base, loc, n, wr', rd, top⟩ := r
  simp only at hn1 hn2 hm hb1 hb2 hl1 hl2 hO
  unfold encR
  have hK := Keep.refl [2, 3, 4] B p w
  have hP := h
  have b1 := hP.held (.cells #[.int .i64 kind, .int .i64 base, .int .i64 loc, .int .i64 n, .int .i64 wr', .int .i64 rd, .int .i64 top] 56)
  replace hK := hK.trans (Keep.alloc (.cells #[.int .i64 kind, .int .i64 base, .int .i64 loc, .int .i64 n, .int .i64 wr', .int .i64 rd, .int .i64 top] 56) hP.lt hP.le)
  replace hP := hP.alloc (.cells #[.int .i64 kind, .int .i64 base, .int .i64 loc, .int .i64 n, .int .i64 wr', .int .i64 rd, .int .i64 top] 56)
  have b2 := hP.held (.cells #[.int .i64 0, .int .i64 0] 141)
  simp only [World.size_alloc] at b2
  replace b1 := b1.alloc (.cells #[.int .i64 0, .int .i64 0] 141) hP.lt
  replace hK := hK.trans (Keep.alloc (.cells #[.int .i64 0, .int .i64 0] 141) hP.lt hP.le)
  replace hP := hP.alloc (.cells #[.int .i64 0, .int .i64 0] 141)
  have b3 := hP.held (.cells #[.int .i64 0, .int .i64 0] 141)
  simp only [World.size_alloc] at b3
  replace b1 := b1.alloc (.cells #[.int .i64 0, .int .i64 0] 141) hP.lt
  replace b2 := b2.alloc (.cells #[.int .i64 0, .int .i64 0] 141) hP.lt
  replace hK := hK.trans (Keep.alloc (.cells #[.int .i64 0, .int .i64 0] 141) hP.lt hP.le)
  replace hP := hP.alloc (.cells #[.int .i64 0, .int .i64 0] 141)
  have c_b1 := b1.cells
  have c_b2 := b2.cells
  have c_b3 := b3.cells
  have hBw := Lib.hid h.le
  clear h
  go_enter Try.func164, Try.ntmps164
  go_wp2_with fail
  refine (mthreads_p n _ hn1 hn2).mono ?_
  rintro e w' ⟨rfl, rfl⟩
  go_wp2_with fail
  obtain ⟨N, rfl⟩ : ∃ N : Nat, n = (N : Int) := ⟨n.toNat, by omega⟩
  rw [Int.toNat_natCast] at hO
  go_loopw [14] (fun z wr => ∃ (j : Nat) (s v : Int) (S : TS), z = .int .i64 j ∧ j ≤ N ∧ HeldP wr p w.heap.size (.cells #[.int .i64 kind, .int .i64 base, .int .i64 loc, .int .i64 (N : Int), .int .i64 wr', .int .i64 rd, .int .i64 top] 56) ∧ HeldP wr p (w.heap.size + 1) (.cells #[.int .i64 0, .int .i64 0] 141) ∧ HeldP wr p (w.heap.size + 1 + 1) (.cells #[.int .i64 s, .int .i64 v] 141) ∧ Plays B wr p S ∧ KeepP B p w wr ∧ Owes R encP B p w ((manyRs base loc N top me (N - j) j s v).run S)) (fun z _ => N - (intOf z).toNat)
  case atStart => exact ⟨0, 0, 0, S, rfl, by omega, b1, b2, b3, hP, hK, hO⟩
  case round =>
    clear b1 b2 b3 c_b1 c_b2 c_b3 hO hP hK
    obtain ⟨j, s, v, S, rfl, hj, b1, b2, b3, hP, hK, hO⟩ := hrel
    have c_b1 := b1.cells
    have c_b2 := b2.cells
    have c_b3 := b3.cells
    by_cases hlt : j < N
    · obtain ⟨k, hk⟩ : ∃ k, N - j = k + 1 := ⟨N - j - 1, by omega⟩
      have hkh := Lib.hid hk
      rw [hk, manyRs_step] at hO
      clear hk
      have hm2 := many_bd N j hn1 hn2 (by omega)
      go_wp2_with fail
      replace hP := hP.drew
      replace hK := hK.drew
      replace b1 := b1.drew
      replace b2 := b2.drew
      replace b3 := b3.drew
      go_region_held2 (fun w' => ∀ i : Nat, w'.cell? ⟨w.heap.size, i, none⟩ = (#[.int .i64 kind, .int .i64 base, .int .i64 loc, .int .i64 (N : Int), .int .i64 wr', .int .i64 rd, .int .i64 top] : Array Value)[i]?) (first | exact c_b1 | go_keep)
        (first
          | (go_at_call 165
             refine (of_p ⟨kind, base, loc, N, wr', rd, top⟩ j _ hn1 hn2 (by simp only; omega) hb1 hb2 hl1 hl2).mono ?_
             rintro e w2 ⟨rfl, hx⟩
             clear c_b1 c_b2 c_b3
             replace hK := hK.trans (Keep.of_ext hx hP.lt hP.le)
             replace b1 := b1.ext hx hP.lt
             have c_b1 := b1.cells
             replace b2 := b2.ext hx hP.lt
             have c_b2 := b2.cells
             replace b3 := b3.ext hx hP.lt
             have c_b3 := b3.cells
             replace hP := hP.ext hx
             clear hx)
          | (go_at_call 112
             refine tstep hO hK (table_read_p B p S ⟨6, manyB base N j, manyL loc N j, N, j, -1, manyTop top⟩ me _ hP hn1 hn2 (by simp only; omega) (by simp only; omega) hm (by simp only [manyB]; omega) (by simp only [manyB]; omega) (by simp only [manyL]; omega) (by simp only [manyL]; omega)) (fun _ h => ⟨rfl, h⟩) ?_
             clear hO hK hP c_b1 c_b2 c_b3
             intro y S w1 hr hP hk hK hO
             replace b1 := b1.keep hk
             have c_b1 := b1.cells
             replace b2 := b2.keep hk
             have c_b2 := b2.cells
             replace b3 := b3.keep hk
             have c_b3 := b3.cells
             clear hk hr)
          | (go_at_call 166
             refine (mmost_p top _).mono ?_
             rintro e w' ⟨rfl, rfl⟩)
          | (go_at_call 171
             refine (unpack_x _ _ _).mono ?_
             rintro e w2 ⟨rfl, hx⟩
             clear c_b1 c_b2 c_b3
             replace hK := hK.trans (Keep.of_ext hx hP.lt hP.le)
             replace b1 := b1.ext hx hP.lt
             have c_b1 := b1.cells
             replace b2 := b2.ext hx hP.lt
             have c_b2 := b2.cells
             replace b3 := b3.ext hx hP.lt
             have c_b3 := b3.cells
             replace hP := hP.ext hx
             clear hx))
      clear hm2
      generalize unHi y (clamp top 255) = hi at *
      generalize unLo y (clamp top 255) = lo at *
      have hks := Lib.hid hK.size
      by_cases hs : s ≤ hi
      · rw [if_pos hs] at hO
        have f_b3 := frozen_of_heap b3.1
        have hOh := Lib.hid hO
        have hPh := Lib.hid hP
        have hKh := Lib.hid hK
        clear hO hP hK
        have n3 := b3.2
        go_wp2_with fail
        have o3 := OneB.set2 w2 (w.heap.size + 1 + 1) (.int .i64 hi) (.int .i64 lo)
        refine ⟨⟨j + 1, hi, lo, S, by go_num, by omega, b1.one o3 (by omega) n3, b2.one o3 (by omega) n3, b3.set2 _ _, hPh.out.one o3 n3 (by have := hBw.out; omega), hKh.out.one o3 (by omega) n3 hBw.out, ?_⟩, by simp [intOf]; omega⟩
        rw [show N - (j + 1) = k from by have := hkh.out; omega, show ((j + 1 : Nat) : Int) = (j : Int) + 1 from by omega]
        exact hOh.out
      · rw [if_neg hs] at hO
        have hOh := Lib.hid hO
        have hPh := Lib.hid hP
        have hKh := Lib.hid hK
        clear hO hP hK
        go_wp2_with fail
        refine ⟨⟨j + 1, s, v, S, by go_num, by omega, b1, b2, b3, hPh.out, hKh.out, ?_⟩, by simp [intOf]; omega⟩
        rw [show N - (j + 1) = k from by have := hkh.out; omega, show ((j + 1 : Nat) : Int) = (j : Int) + 1 from by omega]
        exact hOh.out
    · obtain rfl : j = N := by omega
      rw [Nat.sub_self] at hO
      have f_b2 := frozen_of_heap b2.1
      have o2 := OneB.set2 wr (w.heap.size + 1) (.int .i64 s) (.int .i64 v)
      have hf : R (.returned (encP (s, v))) _ := hO.done (hP.one o2 b2.2 (by have := hBw.out; omega)) (hK.one o2 (by omega) b2.2 hBw.out)
      have hr := (b2.set2 (.int .i64 s) (.int .i64 v)).cells
      clear hO o2
      go_wp2_with fail
      exact bodyPost_ret (v := .agg #[.int .i64 s, .int .i64 v]) (by simp [results, Try.results164, go_sem, hr]) rfl hf
theorem unHi_bd (y t : Int) : 0 ≤ unHi y t ∧ unHi y t ≤ 4398046511104 := by
  have h1 := unX_bd y
  have h2 := room_bd t
  unfold unHi
  exact ⟨Int.ediv_nonneg h1.1 (by omega), Int.le_trans (Int.ediv_le_self _ h1.1) h1.2⟩
theorem manyRs_le (b l n top me : Int) : ∀ (k : Nat) (j s v : Int) (S : TS) (q : Int × Int) (S1 : TS), (manyRs b l n top me k j s v).run S = (some q, S1) → 0 ≤ s ∧ s ≤ 4398046511104 → 0 ≤ q.1 ∧ q.1 ≤ 4398046511104
  | 0, j, s, v, S, q, S1, h, hs => by
    cases h
    exact hs
  | k + 1, j, s, v, S, q, S1, h, hs => by
    rw [manyRs_step, Prog.run_bind] at h
    generalize (tableR (manyB b n j) (manyL l n j) n j (manyTop top) me).run S = r at h
    obtain ⟨o, S2⟩ := r
    cases o with
    | none => cases h
    | some y =>
      simp only [thenR] at h
      split at h
      · exact manyRs_le b l n top me k _ _ _ _ _ _ h (unHi_bd _ _)
      · exact manyRs_le b l n top me k _ _ _ _ _ _ h hs
set_option maxRecDepth 100000 in
theorem many_write_p (B p : Nat) (S : TS) (r : Reg) (me v : Int) (w : World) (h : Plays B w p S) (hn1 : 1 ≤ r.n) (hn2 : r.n ≤ 8) (hm : 0 ≤ me ∧ me < r.n) (hb1 : 0 ≤ r.base) (hb2 : r.base ≤ 50000) (hl1 : 0 ≤ r.loc) (hl2 : r.loc ≤ 49000) :
    Calls Try.prog 106 #[.pointer (some ⟨p, 0, none⟩), encR r, .int .i64 me, .int .i64 v] w (Post encU B p w ((manyW r.base r.loc r.n r.top me v).run S)) := by
  generalize hR : Post encU B p w ((manyW r.base r.loc r.n r.top me v).run S) = R
  have hO : Owes R encU B p w ((manyW r.base r.loc r.n r.top me v).run S) := hR ▸ owes _ _ _ _ _
  clear hR
  obtain ⟨kind, base, loc, n, wr, rd, top⟩ := r
  simp only at hn1 hn2 hm hb1 hb2 hl1 hl2 hO
  unfold encR
  have hK := Keep.refl [2, 3, 4] B p w
  have hP := h
  have b1 := hP.held (.cells #[.int .i64 kind, .int .i64 base, .int .i64 loc, .int .i64 n, .int .i64 wr, .int .i64 rd, .int .i64 top] 56)
  replace hK := hK.trans (Keep.alloc (.cells #[.int .i64 kind, .int .i64 base, .int .i64 loc, .int .i64 n, .int .i64 wr, .int .i64 rd, .int .i64 top] 56) hP.lt hP.le)
  replace hP := hP.alloc (.cells #[.int .i64 kind, .int .i64 base, .int .i64 loc, .int .i64 n, .int .i64 wr, .int .i64 rd, .int .i64 top] 56)
  have c_b1 := b1.cells
  clear h
  unfold manyW at hO
  have hd1 : decide (me < 0) = false := by simpa using hm.1
  have hd2 : decide (n ≤ me) = false := by simpa using hm.2
  go_enter Try.func106, Try.ntmps106
  go_wp2_with fail
  refine (mthreads_p n _ hn1 hn2).mono ?_
  rintro e w' ⟨rfl, rfl⟩
  go_wp2_with fail
  refine tstep hO hK (greatest_p B p S ⟨kind, base, loc, n, wr, rd, top⟩ me _ hP hn1 hn2 hm hb1 hb2 hl1 hl2) (fun _ h => ⟨rfl, h⟩) ?_
  clear hO hK hP c_b1
  intro q S w1 hr hP hk hK hO
  replace b1 := b1.keep hk
  have c_b1 := b1.cells
  have hq := manyRs_le _ _ _ _ _ _ _ _ _ _ _ _ hr (by omega)
  obtain ⟨q1, q2⟩ := q
  simp only at hq hO
  have hq1 := IntWalk.i64_in (q1 + 1) (by omega)
  have hm2 := many_bd n me hn1 hn2 hm
  clear hk hr
  have hfd : ∀ w : World, (Instr.field 141 (.agg #[.int .i64 q1, .int .i64 q2]) 0).run Try.prog w = .ok (.int .i64 q1) w := fun _ => by kernel_rfl
  rw [encP_eq]
  go_wp2_with fail
  replace hP := hP.drew
  replace hK := hK.drew
  replace b1 := b1.drew
  go_region_held2 (fun w' => ∀ i : Nat, w'.cell? ⟨w.heap.size, i, none⟩ = (#[.int .i64 kind, .int .i64 base, .int .i64 loc, .int .i64 n, .int .i64 wr, .int .i64 rd, .int .i64 top] : Array Value)[i]?) (first | exact c_b1 | go_keep)
    (first
      | (go_at_call 165
         refine (of_p ⟨kind, base, loc, n, wr, rd, top⟩ me _ hn1 hn2 (by simp only; omega) hb1 hb2 hl1 hl2).mono ?_
         rintro e w2 ⟨rfl, hx⟩
         clear c_b1
         replace hK := hK.trans (Keep.of_ext hx hP.lt hP.le)
         replace b1 := b1.ext hx hP.lt
         have c_b1 := b1.cells
         replace hP := hP.ext hx
         clear hx)
      | (go_at_call 166
         refine (mmost_p top _).mono ?_
         rintro e w' ⟨rfl, rfl⟩)
      | (go_at_call 158
         refine (clamp_p _ _ _).mono ?_
         rintro e w' ⟨rfl, rfl⟩)
      | (go_at_call 159
         refine (pack_p _ _ _ _).mono ?_
         rintro e w' ⟨rfl, rfl⟩)
      | (go_at_call 105
         refine tlast hO hK (table_write_p B p S ⟨6, manyB base n me, manyL loc n me, n, me, -1, manyTop top⟩ me _ _ hP hn1 hn2 (by simp only; omega) (by simp only; omega) (by simp only [manyB]; omega) (by simp only [manyB]; omega) (by simp only [manyL]; omega) (by simp only [manyL]; omega)) (fun _ h => ⟨rfl, h⟩) ?_
         clear hO hK hP c_b1
         intro y S w1 hr hP hk hK hO
         replace b1 := b1.keep hk
         have c_b1 := b1.cells
         clear hk hr))
  go_wp2_with fail
  first | go_end0 | refine bodyPost_ret (results_none rfl _ _ _) rfl ?_
  exact hO.done hP hK
set_option maxRecDepth 100000 in
theorem many_read_p (B p : Nat) (S : TS) (r : Reg) (me : Int) (w : World) (h : Plays B w p S) (hn1 : 1 ≤ r.n) (hn2 : r.n ≤ 8) (hm : 0 ≤ me ∧ me < r.n) (hb1 : 0 ≤ r.base) (hb2 : r.base ≤ 50000) (hl1 : 0 ≤ r.loc) (hl2 : r.loc ≤ 49000) :
    Calls Try.prog 113 #[.pointer (some ⟨p, 0, none⟩), encR r, .int .i64 me] w (Post encI B p w ((manyR r.base r.loc r.n r.top me).run S)) := by
  generalize hR : Post encI B p w ((manyR r.base r.loc r.n r.top me).run S) = R
  have hO : Owes R encI B p w ((manyR r.base r.loc r.n r.top me).run S) := hR ▸ owes _ _ _ _ _
  clear hR
  obtain ⟨kind, base, loc, n, wr, rd, top⟩ := r
  simp only at hn1 hn2 hm hb1 hb2 hl1 hl2 hO
  unfold encR
  have hK := Keep.refl [2, 3, 4] B p w
  have hP := h
  have b1 := hP.held (.cells #[.int .i64 kind, .int .i64 base, .int .i64 loc, .int .i64 n, .int .i64 wr, .int .i64 rd, .int .i64 top] 56)
  replace hK := hK.trans (Keep.alloc (.cells #[.int .i64 kind, .int .i64 base, .int .i64 loc, .int .i64 n, .int .i64 wr, .int .i64 rd, .int .i64 top] 56) hP.lt hP.le)
  replace hP := hP.alloc (.cells #[.int .i64 kind, .int .i64 base, .int .i64 loc, .int .i64 n, .int .i64 wr, .int .i64 rd, .int .i64 top] 56)
  have c_b1 := b1.cells
  clear h
  unfold manyR at hO
  have hd1 : decide (me < 0) = false := by simpa using hm.1
  have hd2 : decide (n ≤ me) = false := by simpa using hm.2
  go_enter Try.func113, Try.ntmps113
  go_wp2_with fail
  refine (mthreads_p n _ hn1 hn2).mono ?_
  rintro e w' ⟨rfl, rfl⟩
  go_wp2_with fail
  refine tstep hO hK (greatest_p B p S ⟨kind, base, loc, n, wr, rd, top⟩ me _ hP hn1 hn2 hm hb1 hb2 hl1 hl2) (fun _ h => ⟨rfl, h⟩) ?_
  clear hO hK hP c_b1
  intro q S w1 hr hP hk hK hO
  replace b1 := b1.keep hk
  have c_b1 := b1.cells
  clear hk hr
  obtain ⟨q1, q2⟩ := q
  simp only at hO
  have hfd : ∀ w : World, (Instr.field 141 (.agg #[.int .i64 q1, .int .i64 q2]) 1).run Try.prog w = .ok (.int .i64 q2) w := fun _ => by kernel_rfl
  rw [encP_eq]
  go_wp2_with fail
  exact hO.done hP hK
end Go.Proofs.Ytbphlkaihfbgeaa
/-
  Registers of the program: writing and reading one, of whichever kind.
-/
namespace Go.Proofs.Ytbphlkaihfbgeaa
open Go.RowKit Kv
set_option maxRecDepth 100000 in
set_option maxHeartbeats 2000000 in
theorem reg_write_p (B p : Nat) (S : TS) (r : Reg) (me v : Int) (w : World) (h : Plays B w p S) (hr : r.ok) (hm : 0 ≤ me ∧ me < r.n) :
    Calls Try.prog 42 #[.pointer (some ⟨p, 0, none⟩), encR r, .int .i64 me, .int .i64 v] w (Post encU B p w ((regW r me v).run S)) := by
  generalize hR : Post encU B p w ((regW r me v).run S) = R
  have hO : Owes R encU B p w ((regW r me v).run S) := hR ▸ owes _ _ _ _ _
  clear hR
  obtain ⟨hk, hb, hl, hn, hw⟩ := hr
  obtain ⟨kind, base, loc, n, wr, rd, top⟩ := r
  simp only at hk hb hl hn hw hm hO
  unfold encR
  have hK := Keep.refl [2, 3, 4] B p w
  have hP := h
  have b1 := hP.held (.cells #[.int .i64 kind, .int .i64 base, .int .i64 loc, .int .i64 n, .int .i64 wr, .int .i64 rd, .int .i64 top] 56)
  replace hK := hK.trans (Keep.alloc (.cells #[.int .i64 kind, .int .i64 base, .int .i64 loc, .int .i64 n, .int .i64 wr, .int .i64 rd, .int .i64 top] 56) hP.lt hP.le)
  replace hP := hP.alloc (.cells #[.int .i64 kind, .int .i64 base, .int .i64 loc, .int .i64 n, .int .i64 wr, .int .i64 rd, .int .i64 top] 56)
  have c_b1 := b1.cells
  clear h
  unfold regW at hO
  simp only at hO
  rcases hk with rfl | rfl | rfl
  · simp at hO
    go_enter Try.func42, Try.ntmps42
    go_wp2_with fail
    refine tlast hO hK (write_p B p S _ _ _ hP) (fun _ h => ⟨rfl, h⟩) ?_
    clear hO hK hP c_b1
    intro u S w1 hr hP hk hK hO
    replace b1 := b1.keep hk
    have c_b1 := b1.cells
    clear hk hr
    go_wp2_with fail
    first | go_end0 | refine bodyPost_ret (results_none rfl _ _ _) rfl ?_
    exact hO.done hP hK
  · simp at hO
    obtain ⟨hw1, hw2⟩ := hw rfl
    clear hw
    go_enter Try.func42, Try.ntmps42
    go_wp2_with fail
    refine tlast hO hK (table_write_p B p S ⟨6, base, loc, n, wr, rd, top⟩ me v _ hP hn.1 hn.2 hw1 hw2 hb.1 (by simp only; omega) hl.1 (by simp only; omega)) (fun _ h => ⟨rfl, h⟩) ?_
    clear hO hK hP c_b1
    intro u S w1 hr hP hk hK hO
    replace b1 := b1.keep hk
    have c_b1 := b1.cells
    clear hk hr
    go_wp2_with fail
    first | go_end0 | refine bodyPost_ret (results_none rfl _ _ _) rfl ?_
    exact hO.done hP hK
  · simp at hO
    go_enter Try.func42, Try.ntmps42
    go_wp2_with fail
    refine tlast hO hK (many_write_p B p S ⟨7, base, loc, n, wr, rd, top⟩ me v _ hP hn.1 hn.2 hm hb.1 (by simp only; omega) hl.1 (by simp only; omega)) (fun _ h => ⟨rfl, h⟩) ?_
    clear hO hK hP c_b1
    intro u S w1 hr hP hk hK hO
    replace b1 := b1.keep hk
    have c_b1 := b1.cells
    clear hk hr
    go_wp2_with fail
    first | go_end0 | refine bodyPost_ret (results_none rfl _ _ _) rfl ?_
    exact hO.done hP hK
set_option maxRecDepth 100000 in
set_option maxHeartbeats 2000000 in
theorem reg_read_p (B p : Nat) (S : TS) (r : Reg) (me : Int) (w : World) (h : Plays B w p S) (hr : r.ok) (hm : 0 ≤ me ∧ me < r.n) :
    Calls Try.prog 44 #[.pointer (some ⟨p, 0, none⟩), encR r, .int .i64 me] w (Post encI B p w ((regR r me).run S)) := by
  generalize hR : Post encI B p w ((regR r me).run S) = R
  have hO : Owes R encI B p w ((regR r me).run S) := hR ▸ owes _ _ _ _ _
  clear hR
  obtain ⟨hk, hb, hl, hn, hw⟩ := hr
  obtain ⟨kind, base, loc, n, wr, rd, top⟩ := r
  simp only at hk hb hl hn hw hm hO
  unfold encR
  have hK := Keep.refl [2, 3, 4] B p w
  have hP := h
  have b1 := hP.held (.cells #[.int .i64 kind, .int .i64 base, .int .i64 loc, .int .i64 n, .int .i64 wr, .int .i64 rd, .int .i64 top] 56)
  replace hK := hK.trans (Keep.alloc (.cells #[.int .i64 kind, .int .i64 base, .int .i64 loc, .int .i64 n, .int .i64 wr, .int .i64 rd, .int .i64 top] 56) hP.lt hP.le)
  replace hP := hP.alloc (.cells #[.int .i64 kind, .int .i64 base, .int .i64 loc, .int .i64 n, .int .i64 wr, .int .i64 rd, .int .i64 top] 56)
  have c_b1 := b1.cells
  clear h
  unfold regR at hO
  simp only at hO
  rcases hk with rfl | rfl | rfl
  · simp at hO
    go_enter Try.func44, Try.ntmps44
    go_wp2_with fail
    refine tlast hO hK (read_p B p S _ _ hP) (fun _ h => ⟨rfl, h⟩) ?_
    clear hO hK hP c_b1
    intro x S w1 hr hP hk hK hO
    replace b1 := b1.keep hk
    have c_b1 := b1.cells
    clear hk hr
    go_wp2_with fail
    exact hO.done hP hK
  · simp at hO
    obtain ⟨hw1, hw2⟩ := hw rfl
    clear hw
    go_enter Try.func44, Try.ntmps44
    go_wp2_with fail
    refine tlast hO hK (table_read_p B p S ⟨6, base, loc, n, wr, rd, top⟩ me _ hP hn.1 hn.2 hw1 hw2 hm hb.1 (by simp only; omega) hl.1 (by simp only; omega)) (fun _ h => ⟨rfl, h⟩) ?_
    clear hO hK hP c_b1
    intro x S w1 hr hP hk hK hO
    replace b1 := b1.keep hk
    have c_b1 := b1.cells
    clear hk hr
    go_wp2_with fail
    exact hO.done hP hK
  · simp at hO
    go_enter Try.func44, Try.ntmps44
    go_wp2_with fail
    refine tlast hO hK (many_read_p B p S ⟨7, base, loc, n, wr, rd, top⟩ me _ hP hn.1 hn.2 hm hb.1 (by simp only; omega) hl.1 (by simp only; omega)) (fun _ h => ⟨rfl, h⟩) ?_
    clear hO hK hP c_b1
    intro x S w1 hr hP hk hK hO
    replace b1 := b1.keep hk
    have c_b1 := b1.cells
    clear hk hr
    go_wp2_with fail
    exact hO.done hP hK
end Go.Proofs.Ytbphlkaihfbgeaa
/-
  The document's Mem: what it owns, and how its fields change.
-/
namespace Go.Proofs.Ytbphlkaihfbgeaa
open Go.RowKit Kv
abbrev KeepR (B p : Nat) (w w' : World) : Prop := Keep [3, 4, 5] B p w w'
abbrev HeldR (w : World) (p b : Nat) (o : Obj) : Prop := Held [3, 4, 5] w p b o
section
variable {B p : Nat} {w w' w1 : World} {S : TS} {n : Nat} {o : Bool} {vA vL vC vN : Value} {L : List Int}
end
end Go.Proofs.Ytbphlkaihfbgeaa
/-
  Operations of the document on its Mem: an access, a local got.
-/
namespace Go.Proofs.Ytbphlkaihfbgeaa
open Go.RowKit Kv
section
variable {α β : Type} {B p : Nat} {w0 w : World} {o : Bool} {S : TS} {R : Ending → World → Prop}
end
end Go.Proofs.Ytbphlkaihfbgeaa
/-
  Operations of the document on its Mem: a read, a write.
-/
namespace Go.Proofs.Ytbphlkaihfbgeaa
open Go.RowKit Kv
section
variable {α : Type} {B p : Nat} {w0 : World} {o : Bool} {S : TS} {R : Ending → World → Prop} {enc : α → Value}
theorem ref_gt (l : Int) (o : Bool) (S : TS) : Ref (gt l) o S (S.got l) o S := by
  cases o with
  | true => exact .over _ _
  | false => exact .done rfl
theorem ref_st (i v : Int) (S : TS) : Ref (st i v) false S () false (S.upd i v) := .done rfl
end
end Go.Proofs.Ytbphlkaihfbgeaa
/-
  Operations of the document on its Mem: a local set.
-/
namespace Go.Proofs.Ytbphlkaihfbgeaa
open Go.RowKit Kv
def lenAt (w : World) (p : Nat) : Nat := match w.cell? ⟨p, 5, none⟩ with
  | some (.slice _ n _) => n
  | _ => 0
theorem lenAt_of {w : World} {p n c : Nat} {A : Option Addr} (h : w.cell? ⟨p, 5, none⟩ = some (.slice A n c)) : lenAt w p = n := by unfold lenAt; rw [h]
theorem ref_st_out {i : Int} (h : i < 0 ∨ 32768 ≤ i) (v : Int) (o : Bool) (S : TS) : Ref (st i v) o S () o S := by
  cases o with
  | true => exact .over _ _
  | false => exact .done (by show (some (), S.upd i v) = _; rw [TS.upd_out h])
theorem append_int_at {ops : Array Oper} {rest : List Oper} {o : Oper} {a : Act} {Q : Exit → Act → World → Prop} {w : World} (hgd : o.guard = none) (s x : Operand)
    (ho : o.op = .call { callee := .builtin .append, args := #[s, x], argTypes := #[28, 28] })
    (base : Nat) (v : Value) (l : List Int) (y : Int) (hown : w.ownsRow base 3 1 v l.length (l.map (Value.int .i64))) (hs : a.eval s = v) (hx : a.eval x = .slice (some ⟨w.heap.size, 0, none⟩) 1 1)
    (hlen : l.length < 1000000000000) (hbase : base ≤ w.heap.size)
    (h : ∀ g cap w', w'.ownsRow base 3 1 (.slice (some ⟨g, 0, none⟩) (l.length + 1) cap) (l.length + 1) (l.map (Value.int .i64) ++ [Value.int .i64 y]) → w.grownBy w' v.ownBlock → (v.ownBlock = some g ∨ w.heap.size ≤ g) → wpList Try.prog ops Q rest (a.put o.dst (.slice (some ⟨g, 0, none⟩) (l.length + 1) cap)) w') :
    wpList Try.prog ops Q (o :: rest) a (w.alloc (.cells #[.int .i64 y] 3)) := by
  obtain ⟨i0, hi, hz0, hz1, hz2⟩ := info_parts info_int
  refine wpList_append_own_at _ hgd s x 28 ho base 3 i0 (.int .i64 0) 1 8 Try.underlying28 hi hz0 hz1 hz2 rfl (by decide) v l.length _ hs (World.ownsRow.alloc hown _) ⟨w.heap.size, 0, none⟩ 1 1 [.int .i64 y] hx rfl (cell_one_new _ _ _) (by simp [Value.oneCell']) (by unfold maxLen; omega) (by omega) (by simp; omega) fun v' w' h1 h2 _ h4 => ?_
  rcases h1.2 with ⟨rfl, e⟩ | ⟨g, cap, cur, rfl, _⟩
  · omega
  · refine h g cap w' h1 (World.grownBy.trans (World.grownBy_alloc w _ _) h2) ?_
    rcases h4 with e | e
    · exact .inl e.symm
    · simp only [Value.ownBlock, Option.some.injEq, World.size_alloc] at e
      exact .inr (by omega)
end Go.Proofs.Ytbphlkaihfbgeaa
/-
  Lists of the document's tape: numbers made tame, noughts at the end cut off.
-/
namespace Kv
/-- Numbers from 0 to a greatest one. -/
def tameL (L : List Int) (top : Int) : List Int := (L.take 3000).map fun x => wrapI x top
/-- A list without noughts at its end. -/
def shortN (L : List Int) : Nat → Nat
  | 0 => 0
  | n + 1 => if L.getD n 0 = 0 then shortN L n else n + 1
def shortL (L : List Int) : List Int := L.take (shortN L L.length)
theorem shortN_le (L : List Int) : ∀ n, shortN L n ≤ n
  | 0 => Nat.le_refl _
  | n + 1 => by
    unfold shortN
    split
    · exact Nat.le_succ_of_le (shortN_le L n)
    · exact Nat.le_refl _
end Kv
namespace Go.Proofs.Ytbphlkaihfbgeaa
open Go.RowKit Kv
set_option maxRecDepth 100000 in
theorem tame_r (v : Value) (L : List Int) (top : Int) (w : World) (h : Ints w v L) :
    Calls Try.prog 33 #[v, .int .i64 top] w fun e w' => ∃ v', e = .returned v' ∧ IntRow w' w.heap.size v' (tameL L top) ∧ Ext w w' := by
  obtain ⟨A, c, rfl, q1, q2⟩ := h.slice
  go_enter Try.func33, Try.ntmps33
  go_wp2_with fail
  go_loopw [5, 6] (fun v i wr => ∃ j : Nat, i = .int .i64 j ∧ j ≤ L.length ∧ j ≤ 3000 ∧ IntRow wr w.heap.size v ((L.take j).map fun x => wrapI x top) ∧ Ext w wr) (fun _ i _ => 3000 - (intOf i).toNat)
  case atStart => exact ⟨0, rfl, by omega, by omega, IntRow.nil _ _, Ext.refl _⟩
  case round =>
    obtain ⟨j, rfl, hj, hj2, hown, hE⟩ := hrel
    have hsz := hE.size
    have hlt1 : ((L.take j).map fun x => wrapI x top).length < 1000000000000 := by simp; omega
    by_cases hl : j < L.length ∧ j < 3000
    · obtain ⟨hl1, hl2⟩ := hl
      obtain ⟨b, off, rfl, hb, hcell⟩ := (h.ext hE).at_ hl1
      have hs : ((L.take (j + 1)).map fun x => wrapI x top) = ((L.take j).map fun x => wrapI x top) ++ [wrapI (L.getD j 0) top] := by
        rw [List.take_succ_eq_append_getElem hl1, List.map_append]
        simp [List.getD, hl1]
      have H1 := Lib.hid hs
      clear hs
      generalize L.getD j 0 = E at *
      have hEh := Lib.hid hE
      clear hE
      generalize hM : ((L.take j).map fun x => wrapI x top) = M at *
      clear hM
      have hh := Lib.hid h
      clear h
      go_wp2_with (first | (go_at_call 88; refine (wrap_r _ _ _).mono ?_; rintro e w' ⟨rfl, rfl⟩) | (at_builtin; refine append_int rfl _ _ rfl w.heap.size _ M (wrapI E top) hown rfl rfl hlt1 hsz ?_))
      intro v' w1 hown' hgrow
      have hE' := hEh.out.appended hown hgrow
      rw [← H1.out] at hown'
      clear hown hgrow
      go_wp2_with fail
      go_roundw
      case rel => exact ⟨j + 1, by go_num, by omega, by omega, hown', hE'⟩
      case measure => simp [intOf]; omega
    · have hf : ((L.take j).map fun x => wrapI x top) = tameL L top := by
        unfold tameL
        congr 1
        by_cases e : j < L.length
        · rw [show j = 3000 by omega]
        · rw [List.take_of_length_le (by omega), List.take_of_length_le (by omega)]
      rw [hf] at hown
      clear hf hlt1
      by_cases e : j < L.length
      · have e3 : ¬ j < 3000 := fun e3 => hl ⟨e, e3⟩
        clear hl h
        go_wp2_with fail
        go_ret
        exact ⟨_, rfl, hown, hE⟩
      · clear hl h
        go_wp2_with fail
        go_ret
        exact ⟨_, rfl, hown, hE⟩
theorem Ints.take {w : World} {A : Option Addr} {c : Nat} {L : List Int} (h : Ints w (.slice A L.length c) L) (m : Nat) (hm : m ≤ L.length) : Ints w (.slice A m c) (L.take m) := by
  obtain ⟨A', c', he, h1, h2, h3⟩ := h
  injection he with e1 e2 e3
  subst e1 e3
  have hl : (L.take m).length = m := by rw [List.length_take]; omega
  refine ⟨A, c, by rw [hl], by omega, h2, fun hne => ?_⟩
  obtain ⟨b, off, rfl, hb, hc⟩ := h3 (fun e => hne (by rw [e]; simp))
  refine ⟨b, off, rfl, hb, fun i x hi => hc i x ?_⟩
  rw [List.getElem?_take] at hi
  split at hi
  · exact hi
  · cases hi
theorem shortL_ints {w : World} {A : Option Addr} {c : Nat} {L : List Int} (h : Ints w (.slice A L.length c) L) : Ints w (.slice A (shortN L L.length) c) (shortL L) := h.take _ (shortN_le _ _)
end Go.Proofs.Ytbphlkaihfbgeaa
/-
  A list cloned.
-/
namespace Go.Proofs.Ytbphlkaihfbgeaa
open Go.RowKit Kv
set_option maxRecDepth 100000 in
/-- All of a list behind an empty row. -/
theorem append_all {ops : Array Oper} {rest : List Oper} {o : Oper} {a : Act} {Q : Exit → Act → World → Prop} {w : World} (hgd : o.guard = none) (s x : Operand)
    (ho : o.op = .call { callee := .builtin .append, args := #[s, x], argTypes := #[28, 28] })
    (ad : Addr) (c : Nat) (L : List Int) (hL : Ints w (.slice (some ad) L.length c) L) (hs : a.eval s = .slice (some ⟨w.heap.size, 0, none⟩) 0 0) (hx : a.eval x = .slice (some ad) L.length c)
    (hlen : L.length < 1000000)
    (h : ∀ v' w', IntRow w' w.heap.size v' L → Ext w w' → wpList Try.prog ops Q rest (a.put o.dst v') w') :
    wpList Try.prog ops Q (o :: rest) a (w.alloc (.cells #[] 3)) := by
  obtain ⟨i0, hi, hz0, hz1, hz2⟩ := info_parts info_int
  have hown : (w.alloc (.cells #[] 3)).ownsRow w.heap.size 3 1 (.slice (some ⟨w.heap.size, 0, none⟩) 0 0) 0 [] :=
    ⟨rfl, .inr ⟨w.heap.size, 0, #[], rfl, Nat.le_refl _, heap_alloc_new _ _, Nat.le_refl _, Nat.zero_le _, rfl, rfl⟩⟩
  refine wpList_append_own_at _ hgd s x 28 ho w.heap.size 3 i0 (.int .i64 0) 1 8 Try.underlying28 hi hz0 hz1 hz2 rfl (by decide) _ 0 [] hs hown ad L.length c (L.map (Value.int .i64)) hx (by simp) ?_ (by simp [Value.oneCell']) (by unfold maxLen; omega) (by omega) (by simp) fun v' w' h1 h2 _ _ => ?_
  · intro j u hu
    obtain ⟨A', c', he, _, _, h3⟩ := hL.ext ((Ext.refl w).alloc (.cells #[] 3))
    rw [List.getElem?_map] at hu
    cases hj : L[j]? with
    | none => rw [hj] at hu; cases hu
    | some y =>
      rw [hj] at hu
      obtain ⟨b, off, rfl, _, hc⟩ := h3 (fun e => by rw [e] at hj; cases hj)
      injection he with e1 e2 e3
      injection e1 with e1
      subst e1
      rw [Addr.add_lit]
      rw [hc j y hj]
      simpa using hu
  · rw [List.nil_append, Nat.zero_add] at h1
    exact h v' w' h1 (Below.grown ((Ext.refl w).alloc (.cells #[] 3)) h2 (by simp) (fun k hk => by simp [Value.ownBlock] at hk; omega))
set_option maxRecDepth 100000 in
theorem clone_x (a : Addr) (c : Nat) (L : List Int) (w : World) (h : Ints w (.slice (some a) L.length c) L) (hl : L.length < 1000000) :
    Calls Try.prog 59 #[.slice (some a) L.length c] w fun e w' => ∃ v', e = .returned v' ∧ IntRow w' w.heap.size v' L ∧ Ext w w' := by
  have hcmp : ∀ (n : Nat) (w : World), (binOp .eql 28 (.slice (some a) n c) (.slice none 0 0)).run Try.prog w = .ok (.bool false) w := fun _ _ => rfl
  go_enter Try.func59, Try.ntmps59
  go_wp2_with (at_builtin; refine append_all rfl _ _ rfl a c L h rfl rfl hl ?_)
  intro v' w' h1 h2
  go_wp2_with fail
  go_ret
  exact ⟨v', rfl, h1, h2⟩
set_option maxRecDepth 100000 in
theorem clone_nil (c : Nat) (w : World) : Calls Try.prog 59 #[.slice none 0 c] w fun e w' => e = .returned (.slice none 0 0) ∧ w = w' := by
  have hcmp : ∀ (n : Nat) (w : World), (binOp .eql 28 (.slice none n c) (.slice none 0 0)).run Try.prog w = .ok (.bool true) w := fun _ _ => rfl
  go_enter Try.func59, Try.ntmps59
  go_wp2_with fail
  go_ret
  exact ⟨rfl, rfl⟩
theorem clone_any (A : Option Addr) (c : Nat) (L : List Int) (w : World) (h : Ints w (.slice A L.length c) L) (hl : L.length < 1000000) :
    Calls Try.prog 59 #[.slice A L.length c] w fun e w' => ∃ v', e = .returned v' ∧ IntRow w' w.heap.size v' L ∧ Ext w w' := by
  cases A with
  | some a => exact clone_x a c L w h hl
  | none =>
    have hL : L = [] := by
      obtain ⟨A', c', he, _, _, h3⟩ := h
      by_cases e : L = []
      · exact e
      · obtain ⟨b, off, rfl, _⟩ := h3 e
        cases he
    subst hL
    refine (clone_nil c w).mono ?_
    rintro e w' ⟨rfl, rfl⟩
    exact ⟨_, rfl, IntRow.nil _ _, Ext.refl _⟩
set_option maxRecDepth 100000 in
theorem tshort_p (A : Option Addr) (c : Nat) (L : List Int) (w : World) (h : Ints w (.slice A L.length c) L) (q1 : L.length ≤ c) (_q2 : c ≤ 9223372036854775807) (_q3 : L.length < 1000000) :
    Calls Try.prog 61 #[.slice A L.length c] w fun e w' => ∃ v', e = .returned v' ∧ IntRow w' w.heap.size v' (shortL L) ∧ Ext w w' := by
  go_enter Try.func61, Try.ntmps61
  go_wp2_with fail
  go_loopw [3] (fun v wr => ∃ n : Nat, v = .int .i64 n ∧ n ≤ L.length ∧ Hid (shortN L n = shortN L L.length) ∧ w = wr) (fun v _ => (intOf v).toNat)
  case atStart => exact ⟨L.length, rfl, by omega, rfl, rfl⟩
  case round =>
    obtain ⟨n, rfl, hn, hs, rfl⟩ := hrel
    have hlen : ∀ m, m ≤ L.length → (L.take m).length = m := fun m hm => by rw [List.length_take]; omega
    cases n with
    | zero =>
      have hf : L.take 0 = shortL L := by unfold shortL; rw [← hs.out]; rfl
      have hT := clone_any A c (L.take 0) w (by have := h.take 0 (by omega); rw [hlen 0 (by omega)]; exact this) (by simp)
      rw [hlen 0 (by omega), hf] at hT
      clear hs h hf hlen
      go_wp2_with fail
      refine hT.mono ?_
      rintro e w1 ⟨v', rfl, h1, h2⟩
      go_wp2_with fail
      go_ret
      exact ⟨v', rfl, h1, h2⟩
    | succ n =>
      obtain ⟨b, off, rfl, hb, hcell⟩ := h.at_ (show n < L.length by omega)
      by_cases e : L.getD n 0 = 0
      · have hs2 : Hid (shortN L n = shortN L L.length) := Lib.hid (by rw [← hs.out]; show _ = (if L.getD n 0 = 0 then shortN L n else n + 1); rw [if_pos e])
        rw [e] at hcell
        clear hs e h hlen
        go_wp2_with fail
        exact ⟨⟨n, rfl, by omega, hs2, by trivial⟩, by simp [intOf]⟩
      · have e3 := Lib.hid (show shortN L L.length = n + 1 from by rw [← hs.out]; show (if L.getD n 0 = 0 then shortN L n else n + 1) = _; rw [if_neg e])
        have hf : L.take (n + 1) = shortL L := by unfold shortL; rw [e3.out]
        have hT := clone_any (some ⟨b, off, none⟩) c (L.take (n + 1)) w (by have := h.take (n + 1) (by omega); rw [hlen (n + 1) (by omega)]; exact this) (by rw [hlen (n + 1) (by omega)]; omega)
        rw [hlen (n + 1) (by omega), hf] at hT
        have e2 : (L.getD n 0 == 0) = false := by rw [beq_eq_false_iff_ne]; exact e
        generalize L.getD n 0 = E at *
        clear hs e h hf hlen
        go_wp2_with fail
        refine hT.mono ?_
        rintro e w1 ⟨v', rfl, h1, h2⟩
        go_wp2_with fail
        go_ret
        exact ⟨v', rfl, h1, h2⟩
end Go.Proofs.Ytbphlkaihfbgeaa
/-
  Registers of the document: an atomic bit written and read.
-/
namespace Go.Proofs.Ytbphlkaihfbgeaa
open Go.RowKit Kv
end Go.Proofs.Ytbphlkaihfbgeaa
/-
  Registers of the document: a number out of four slots.
-/
namespace Go.Proofs.Ytbphlkaihfbgeaa
open Go.RowKit Kv
theorem other_bit (y : Int) : otherM y = 1 - bitM y := by unfold otherM bitM; split <;> rfl
end Go.Proofs.Ytbphlkaihfbgeaa
/-
  Registers of the document: who reads a table, and which numbers it is made of.
-/
namespace Kv
/-- The readers among the first so many threads. -/
def rdrs (wr : Int) : Nat → List Int
  | 0 => []
  | j + 1 => if (j : Int) = wr then rdrs wr j else rdrs wr j ++ [(j : Int)]
theorem rdrs_len (wr : Nat) : ∀ j : Nat, (rdrs wr j).length = if wr < j then j - 1 else j
  | 0 => by simp [rdrs]
  | j + 1 => by
    have h := rdrs_len wr j
    unfold rdrs
    by_cases e : j = wr
    · rw [if_pos (by omega), h, if_neg (by omega), if_pos (by omega)]; omega
    · rw [if_neg (by omega), List.length_append, h]
      simp only [List.length_singleton]
      by_cases e2 : wr < j
      · rw [if_pos e2, if_pos (by omega)]; omega
      · rw [if_neg e2, if_neg (by omega)]
theorem rdrs_at (wr : Nat) : ∀ j i : Nat, i < (rdrs wr j).length → (rdrs wr j).getD i 0 = if i < wr then (i : Int) else i + 1
  | 0, i, h => by simp [rdrs] at h
  | j + 1, i, h => by
    have hl := rdrs_len wr j
    unfold rdrs at h ⊢
    by_cases e : j = wr
    · rw [if_pos (by omega)] at h ⊢
      exact rdrs_at wr j i h
    · rw [if_neg (by omega)] at h ⊢
      rw [List.length_append, List.length_singleton] at h
      by_cases e2 : i < (rdrs wr j).length
      · rw [← rdrs_at wr j i e2]
        simp [List.getD, List.getElem?_append, e2]
      · obtain rfl : i = (rdrs wr j).length := by omega
        simp only [List.getD_eq_getElem?_getD, List.getElem?_append, Nat.lt_irrefl, if_false, Nat.sub_self]
        show (j : Int) = _
        rw [hl]
        by_cases e3 : wr < j
        · rw [if_pos e3, if_neg (by omega)]; omega
        · rw [if_neg e3, if_pos (by omega)]
end Kv
namespace Go.Proofs.Ytbphlkaihfbgeaa
open Go.RowKit Kv
/-- A block as it lies. -/
def Blk (w : World) (b : Nat) (o : Obj) : Prop := w.heap[b]? = some o
theorem Blk.lt {w : World} {b : Nat} {o : Obj} (h : Blk w b o) : b < w.heap.size := (Array.getElem?_eq_some_iff.1 h).1
theorem Blk.new (w : World) (o : Obj) : Blk (w.alloc o) w.heap.size o := heap_alloc_new w o
theorem Blk.ext {w w' : World} {b : Nat} {o : Obj} (h : Blk w b o) (hx : Ext w w') : Blk w' b o := (Below.block hx b (Array.getElem?_eq_some_iff.1 h).1).trans h
theorem Blk.alloc {w : World} {b : Nat} {o : Obj} (h : Blk w b o) (o' : Obj) : Blk (w.alloc o') b o := h.ext ((Ext.refl w).alloc o')
theorem Blk.drew {w : World} {b : Nat} {o : Obj} (h : Blk w b o) : Blk w.drew b o := h
theorem Blk.cells {w : World} {b : Nat} {cs : Array Value} {t : TypeId} {fz : Nat × Nat} (h : Blk w b (.cells cs t fz)) (i : Nat) : w.cell? ⟨b, i, none⟩ = cs[i]? := cell_of_heap h i
theorem rn_r (r : Reg) (w : World) (h1 : 1 ≤ r.n) (h2 : r.n ≤ 8) : Calls Try.prog 148 #[encR r] w fun e w' => e = .returned (.int .i64 r.n) ∧ Ext w w' := by
  obtain ⟨kind, base, loc, n, wr, rd, top⟩ := r
  simp only at h1 h2
  have hc : clamp n 8 = n := by unfold clamp within; omega
  have hx := Lib.hid ((Ext.refl w).alloc (.cells #[.int .i64 kind, .int .i64 base, .int .i64 loc, .int .i64 n, .int .i64 wr, .int .i64 rd, .int .i64 top] 56))
  unfold encR
  go_enter Try.func148, Try.ntmps148
  go_wp2_with fail
  refine (clamp_r _ _ _).mono ?_
  rintro e w' ⟨rfl, rfl⟩
  rw [hc]
  go_wp2_with fail
  go_ret
  exact ⟨rfl, hx.out⟩
end Go.Proofs.Ytbphlkaihfbgeaa
/-
  What comes out of a played operation, on both sides (plain), and the document's Out.
-/
namespace Kv
theorem shortN_zero (L : List Int) : ∀ n i, shortN L n ≤ i → i < n → L.getD i 0 = 0
  | 0, i, _, h => absurd h (Nat.not_lt_zero i)
  | n + 1, i, h1, h2 => by
    unfold shortN at h1
    split at h1
    · rename_i e
      by_cases hi : i = n
      · rw [hi]; exact e
      · exact shortN_zero L n i h1 (by omega)
    · omega
theorem shortN_last (L : List Int) : ∀ n, shortN L n = 0 ∨ L.getD (shortN L n - 1) 0 ≠ 0
  | 0 => .inl rfl
  | n + 1 => by
    unfold shortN
    split
    · exact shortN_last L n
    · rename_i e; exact .inr e
theorem shortL_zero (L : List Int) (i : Nat) (h : shortN L L.length ≤ i) : L.getD i 0 = 0 := by
  by_cases hi : i < L.length
  · exact shortN_zero L _ i h hi
  · simp [List.getD, List.getElem?_eq_none (show L.length ≤ i by omega)]
theorem shortN_eq {L L' : List Int} (h : ∀ i, L.getD i 0 = L'.getD i 0) : shortN L L.length = shortN L' L'.length := by
  have a := shortN_last L L.length
  have b := shortN_last L' L'.length
  have a2 := shortL_zero L
  have b2 := shortL_zero L'
  generalize shortN L L.length = N at *
  generalize shortN L' L'.length = N' at *
  rcases Nat.lt_trichotomy N N' with e | e | e
  · rcases b with b | b
    · omega
    · exact absurd ((h _).symm.trans (a2 (N' - 1) (by omega))) b
  · exact e
  · rcases a with a | a
    · omega
    · exact absurd ((h _).trans (b2 (N - 1) (by omega))) a
/-- Lists of the same locals are the same, cut short. -/
theorem shortL_eq {L L' : List Int} (h : ∀ i, L.getD i 0 = L'.getD i 0) : shortL L = shortL L' := by
  have e := shortN_eq h
  have l1 := shortN_le L L.length
  have l2 := shortN_le L' L'.length
  unfold shortL
  apply List.ext_getElem?
  intro i
  rw [List.getElem?_take, List.getElem?_take, e]
  split
  · rename_i hi
    have hh := h i
    rw [List.getD_eq_getElem?_getD, List.getD_eq_getElem?_getD] at hh
    rw [List.getElem?_eq_getElem (show i < L.length by omega), List.getElem?_eq_getElem (show i < L'.length by omega)] at hh ⊢
    simpa using hh
  · rfl
/-- What the document's way comes to is what the program's comes to. -/
theorem Ref.outcome {α : Type} {p : Prog α} {S S' : TS} {a : α} {o : Bool} (h : Ref p false S a o S') : p.run S = (if o then none else some a, S') := by
  cases h with
  | done h => exact h
  | stop _ h => exact h
end Kv
namespace Go.Proofs.Ytbphlkaihfbgeaa
open Go.RowKit Kv
end Go.Proofs.Ytbphlkaihfbgeaa
/-
  What comes out of a played operation, as a value that can be read: its accesses, notes and locals.
-/
namespace Go.Proofs.Ytbphlkaihfbgeaa
open Go.RowKit Kv
/-- A row of values from the head of a block on. -/
def Vals (w : World) (A : Option Addr) (vals : List Value) : Prop := vals ≠ [] → ∃ b, A = some ⟨b, 0, none⟩ ∧ b < w.heap.size ∧ ∀ i u, vals[i]? = some u → w.cell? ⟨b, i, none⟩ = some u
theorem Vals.ext {w w' : World} {A : Option Addr} {vals : List Value} (h : Vals w A vals) (hx : Ext w w') : Vals w' A vals := by
  intro hne
  obtain ⟨b, rfl, hb, hc⟩ := h hne
  exact ⟨b, rfl, Nat.lt_of_lt_of_le hb hx.size, fun i u hu => (hx.cell (p := ⟨b, i, none⟩) hb).trans (hc i u hu)⟩
/-- A row that is owned can be read. -/
theorem vals_row {w : World} {B e size n : Nat} {v : Value} {xs : List Value} (h : w.ownsRow B e size v n xs) : ∃ A c, v = .slice A n c ∧ n ≤ c ∧ c ≤ 9223372036854775807 ∧ Vals w A xs := by
  have h' := h
  obtain ⟨hl, h2⟩ := h
  rcases h2 with ⟨rfl, h0⟩ | ⟨g, cap, cur, rfl, hg, hh, hn, hm, hs, ht⟩
  · subst h0
    refine ⟨none, 0, rfl, Nat.le_refl _, by omega, fun hne => absurd ?_ hne⟩
    simpa using hl
  · refine ⟨_, _, rfl, hn, by unfold maxLen at hm; exact hm, fun _ => ⟨g, rfl, (Array.getElem?_eq_some_iff.1 hh).1, fun i u hi => ?_⟩⟩
    have hc := World.ownsRow.cells h' (g := g) rfl i u hi
    rw [Addr.add_lit, Nat.zero_add] at hc
    exact hc
theorem accVals_len (l : List Acc) : (accVals l).length = 3 * l.length := by
  induction l with
  | nil => rfl
  | cons a l ih => rw [show accVals (a :: l) = [.int .i64 a.kind, .int .i64 a.cell, .int .i64 a.val] ++ accVals l from rfl, List.length_append, ih]; simp; omega
theorem ntVals_len (l : List Nt) : (ntVals l).length = 2 * l.length := by
  induction l with
  | nil => rfl
  | cons a l ih => rw [show ntVals (a :: l) = [.int .i64 a.kind, .int .i64 a.pos] ++ ntVals l from rfl, List.length_append, ih]; simp; omega
theorem accVals_at : ∀ (l : List Acc) (i : Nat) (a : Acc), l[i]? = some a → (accVals l)[3 * i]? = some (.int .i64 a.kind) ∧ (accVals l)[3 * i + 1]? = some (.int .i64 a.cell) ∧ (accVals l)[3 * i + 2]? = some (.int .i64 a.val)
  | [], i, a, h => by simp at h
  | x :: l, 0, a, h => by
    obtain rfl : x = a := by simpa using h
    exact ⟨rfl, rfl, rfl⟩
  | x :: l, i + 1, a, h => by
    have := accVals_at l i a (by simpa using h)
    rw [show accVals (x :: l) = [.int .i64 x.kind, .int .i64 x.cell, .int .i64 x.val] ++ accVals l from rfl]
    refine ⟨?_, ?_, ?_⟩
    · rw [List.getElem?_append_right (by simp; omega)]; simpa [show 3 * (i + 1) - 3 = 3 * i by omega] using this.1
    · rw [List.getElem?_append_right (by simp; omega)]; simpa [show 3 * (i + 1) + 1 - 3 = 3 * i + 1 by omega] using this.2.1
    · rw [List.getElem?_append_right (by simp; omega)]; simpa [show 3 * (i + 1) + 2 - 3 = 3 * i + 2 by omega] using this.2.2
theorem ntVals_at : ∀ (l : List Nt) (i : Nat) (a : Nt), l[i]? = some a → (ntVals l)[2 * i]? = some (.int .i64 a.kind) ∧ (ntVals l)[2 * i + 1]? = some (.int .i64 a.pos)
  | [], i, a, h => by simp at h
  | x :: l, 0, a, h => by
    obtain rfl : x = a := by simpa using h
    exact ⟨rfl, rfl⟩
  | x :: l, i + 1, a, h => by
    have := ntVals_at l i a (by simpa using h)
    rw [show ntVals (x :: l) = [.int .i64 x.kind, .int .i64 x.pos] ++ ntVals l from rfl]
    refine ⟨?_, ?_⟩
    · rw [List.getElem?_append_right (by simp; omega)]; simpa [show 2 * (i + 1) - 2 = 2 * i by omega] using this.1
    · rw [List.getElem?_append_right (by simp; omega)]; simpa [show 2 * (i + 1) + 1 - 2 = 2 * i + 1 by omega] using this.2
/-- Accesses that can be read at an address. -/
def AccAt (w : World) (A : Option Addr) (l : List Acc) : Prop := Vals w A (accVals l)
def NtAt (w : World) (A : Option Addr) (l : List Nt) : Prop := Vals w A (ntVals l)
theorem AccAt.at_ {w : World} {A : Option Addr} {l : List Acc} (h : AccAt w A l) {i : Nat} {a : Acc} (hi : l[i]? = some a) :
    ∃ b, A = some ⟨b, 0, none⟩ ∧ b < w.heap.size ∧ w.cell? ⟨b, i * 3, none⟩ = some (.int .i64 a.kind) ∧ w.cell? ⟨b, i * 3 + 1, none⟩ = some (.int .i64 a.cell) ∧ w.cell? ⟨b, i * 3 + 2, none⟩ = some (.int .i64 a.val) := by
  obtain ⟨h0, h1, h2⟩ := accVals_at l i a hi
  obtain ⟨b, rfl, hb, hc⟩ := h (fun e => by rw [e] at h0; simp at h0)
  rw [Nat.mul_comm i 3]
  exact ⟨b, rfl, hb, hc _ _ h0, hc _ _ h1, hc _ _ h2⟩
theorem NtAt.at_ {w : World} {A : Option Addr} {l : List Nt} (h : NtAt w A l) {i : Nat} {a : Nt} (hi : l[i]? = some a) :
    ∃ b, A = some ⟨b, 0, none⟩ ∧ b < w.heap.size ∧ w.cell? ⟨b, i * 2, none⟩ = some (.int .i64 a.kind) ∧ w.cell? ⟨b, i * 2 + 1, none⟩ = some (.int .i64 a.pos) := by
  obtain ⟨h0, h1⟩ := ntVals_at l i a hi
  obtain ⟨b, rfl, hb, hc⟩ := h (fun e => by rw [e] at h0; simp at h0)
  rw [Nat.mul_comm i 2]
  exact ⟨b, rfl, hb, hc _ _ h0, hc _ _ h1⟩
/-- An Out: done or not, so many accesses, notes and locals. -/
structure OutIs (w : World) (d : Bool) (S : TS) (A : Option Addr) (c : Nat) (A' : Option Addr) (c' : Nat) (vs : Value) (L : List Int) : Prop where
  accs : AccAt w A S.acc
  nts : NtAt w A' S.nts
  locs : Ints w vs (shortL L)
  is : LocIs L S.loc
  len : L.length ≤ 32768
  accc : S.acc.length ≤ c ∧ c ≤ 9223372036854775807
  ntsc : S.nts.length ≤ c' ∧ c' ≤ 9223372036854775807
def outV (d : Bool) (S : TS) (A : Option Addr) (c : Nat) (A' : Option Addr) (c' : Nat) (vs : Value) : Value := .agg #[.bool d, .slice A S.acc.length c, .slice A' S.nts.length c', vs]
theorem OutIs.ext {w w' : World} {d : Bool} {S : TS} {A : Option Addr} {c : Nat} {A' : Option Addr} {c' : Nat} {vs : Value} {L : List Int} (h : OutIs w d S A c A' c' vs L) (hx : Ext w w') : OutIs w' d S A c A' c' vs L :=
  { h with accs := Vals.ext h.accs hx, nts := Vals.ext h.nts hx, locs := h.locs.ext hx }
/-- The value v is the Out of d and S. -/
def Outs (w : World) (v : Value) (d : Bool) (S : TS) : Prop := ∃ A c A' c' vs L, v = outV d S A c A' c' vs ∧ OutIs w d S A c A' c' vs L
theorem Outs.ext {w w' : World} {v : Value} {d : Bool} {S : TS} (h : Outs w v d S) (hx : Ext w w') : Outs w' v d S := by
  obtain ⟨A, c, A', c', vs, L, rfl, h⟩ := h
  exact ⟨A, c, A', c', vs, L, rfl, h.ext hx⟩
theorem outs_of {w : World} {B : Nat} {d : Bool} {S : TS} {vC vN vs : Value} {L : List Int} (h1 : w.ownsRow B 54 3 vC S.acc.length (accVals S.acc)) (h2 : w.ownsRow B 123 2 vN S.nts.length (ntVals S.nts)) (h3 : Ints w vs (shortL L)) (h4 : LocIs L S.loc) (h5 : L.length ≤ 32768) :
    Outs w (.agg #[.bool d, vC, vN, vs]) d S := by
  obtain ⟨A, c, rfl, q1, q2, q3⟩ := vals_row h1
  obtain ⟨A', c', rfl, r1, r2, r3⟩ := vals_row h2
  exact ⟨A, c, A', c', vs, L, rfl, q3, r3, h3, h4, h5, ⟨q1, q2⟩, ⟨r1, r2⟩⟩
end Go.Proofs.Ytbphlkaihfbgeaa
/-
  Worlds in which only one block of those that were there has turned: what a drawn region holds that calls and stores.
-/
namespace Go.Proofs.Ytbphlkaihfbgeaa
open Go.RowKit Kv
/-- From W on only block b has turned, which still has n cells. -/
structure Near (W : World) (b n : Nat) (t : TypeId) (w : World) : Prop where
  os : w.os = W.os
  tape : w.tape = W.tape
  output : w.output = W.output
  size : W.heap.size ≤ w.heap.size
  rest : ∀ k, k < W.heap.size → k ≠ b → w.heap[k]? = W.heap[k]?
  blk : ∃ cs, w.heap[b]? = some (.cells cs t (0, 0)) ∧ cs.size = n
section
variable {W w w' : World} {b n : Nat} {t : TypeId}
theorem Near.new {cs : Array Value} (h : W.heap[b]? = some (.cells cs t (0, 0))) (hn : cs.size = n) : Near W b n t W := ⟨rfl, rfl, rfl, Nat.le_refl _, fun _ _ _ => rfl, cs, h, hn⟩
theorem Near.ext (h : Near W b n t w) (hx : Ext w w') : Near W b n t w' := by
  obtain ⟨cs, h1, h2⟩ := h.blk
  exact ⟨hx.os.trans h.os, hx.tape.trans h.tape, hx.output.trans h.output, Nat.le_trans h.size hx.size, fun k hk hb => (Below.block hx k (Nat.lt_of_lt_of_le hk h.size)).trans (h.rest k hk hb), cs, (Below.block hx b (Array.getElem?_eq_some_iff.1 h1).1).trans h1, h2⟩
theorem Near.drew (h : Near W b n t w) : Near W b n t w.drew := h.ext (Ext.refl w).drew
theorem Near.set (h : Near W b n t w) (i : Nat) (u : Value) : Near W b n t (w.setCell ⟨b, i, none⟩ u) := by
  obtain ⟨cs, h1, h2⟩ := h.blk
  refine ⟨h.os, h.tape, h.output, by have := h.size; simpa using this, fun k hk hb => (heap_setCell_ne _ _ hb).trans (h.rest k hk hb), _, heap_setCell h1 u, by simpa using h2⟩
theorem Near.cell (h : Near W b n t w) {k i : Nat} (hk : k < W.heap.size) (hb : k ≠ b) : w.cell? ⟨k, i, none⟩ = W.cell? ⟨k, i, none⟩ := World.cell?_of_block (w := W) (a := ⟨k, i, none⟩) (h.rest k hk hb)
theorem Near.frozen (h : Near W b n t w) (i : Nat) : w.frozen? ⟨b, i, none⟩ = false := by
  obtain ⟨cs, h1, h2⟩ := h.blk
  exact frozen_of_heap h1 i
/-- Behind it nothing below B has turned, if the block is not below B. -/
theorem Near.below {B : Nat} {w0 : World} (h : Near W b n t w) (h0 : Below B w0 W) (hb : B ≤ b) (hB : B ≤ W.heap.size) : Below B w0 w :=
  h0.trans ⟨h.os, h.tape, h.output, h.size, fun k hk => h.rest k (by omega) (by omega)⟩
/-- What stands in a cell. -/
def cellD (w : World) (b i : Nat) : Value := (w.cell? ⟨b, i, none⟩).getD undef
theorem Near.four (h : Near W b 4 t w) : ∀ i, w.cell? ⟨b, i, none⟩ = (#[cellD w b 0, cellD w b 1, cellD w b 2, cellD w b 3] : Array Value)[i]? := by
  obtain ⟨cs, h1, h2⟩ := h.blk
  intro i
  have e := cell_of_heap h1
  unfold cellD
  rw [e, e, e, e, e]
  match i with
  | 0 => simp [h2]
  | 1 => simp [h2]
  | 2 => simp [h2]
  | 3 => simp [h2]
  | i + 4 => simp [h2]
theorem Near.five (h : Near W b 5 t w) : ∀ i, w.cell? ⟨b, i, none⟩ = (#[cellD w b 0, cellD w b 1, cellD w b 2, cellD w b 3, cellD w b 4] : Array Value)[i]? := by
  obtain ⟨cs, h1, h2⟩ := h.blk
  intro i
  have e := cell_of_heap h1
  unfold cellD
  rw [e, e, e, e, e, e]
  match i with
  | 0 => simp [h2]
  | 1 => simp [h2]
  | 2 => simp [h2]
  | 3 => simp [h2]
  | 4 => simp [h2]
  | i + 5 => simp [h2]
end
end Go.Proofs.Ytbphlkaihfbgeaa
/-
  The document's Mem made.
-/
namespace Go.Proofs.Ytbphlkaihfbgeaa
open Go.RowKit Kv
/-- Locals as they begin. -/
def locOf (L : List Int) (i : Nat) : Int := L.getD i 0
/-- The state in which an operation begins. -/
def TS0 (L ans : List Int) : TS := ⟨ans, [], [], locOf L⟩
end Go.Proofs.Ytbphlkaihfbgeaa
