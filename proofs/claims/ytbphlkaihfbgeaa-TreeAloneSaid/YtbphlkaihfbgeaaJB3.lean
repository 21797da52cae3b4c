/-
  An operation played: its deferred end, whether it came to its end or stopped; what comes of the play.
-/
import Derived.Test.YtbphlkaihfbgeaaJB2
import Derived.Defers
import Derived.Recover
import Derived.LaidEqlPtr
import Derived.Deep.RegionHeld3
import Derived.Laws.StructEq
import Derived.Deep.QuietTactic
import Derived.BigQuiet
/-
  An operation played: its deferred end, whether it came to its end or stopped; what comes of the play.
-/
namespace Go.Proofs.Ytbphlkaihfbgeaa
open Go.RowKit Kv
@[go_sem] theorem build_out (x : Bool) (A1 A2 A3 : Option Addr) (n1 n2 n3 c1 c2 c3 : Nat) (w : World) : (Instr.build 30 #[(0, .bool x), (1, .slice A1 n1 c1), (2, .slice A2 n2 c2), (3, .slice A3 n3 c3)]).run Try.prog w = .ok (.agg #[.bool x, .slice A1 n1 c1, .slice A2 n2 c2, .slice A3 n3 c3]) w := run_build w 30 _ _ (by kernel_rfl)
@[go_sem] theorem as_stop (v : Value) (w : World) : (Instr.typeAssert (.iface 81 v) 20 81 true).run Try.prog w = .ok (.tuple #[v, .bool true]) w := by kernel_rfl
@[go_sem] theorem ne_mem (a : Addr) (w : World) : (binOp .neq 33 (.pointer (some a)) (.pointer (some a))).run Try.prog w = .ok (.bool false) w := by
  have hs : (Try.prog.info? 78).isSome = true := by kernel_rfl
  obtain ⟨j, hj⟩ := Option.isSome_iff_exists.1 hs
  have h : ∀ d : Nat, (Op.equalIn (d + 1) 33 (.pointer (some a)) (.pointer (some a))).run Try.prog w = .ok true w := fun d => by
    simp [Op.equalIn, run_underlying Try.underlying33, sizeOf, typeInfo, hj, run_sameAddr_same]
  simp only [binOp]
  simp [Op.equal, Op.maxDepth, h 9999]
section
variable {B p b bo : Nat} {w w' W : World} {S : TS} {st : Int} {vA vL vC vN vs : Value} {L : List Int}
/-- A store into a block beside what the Mem owns. -/
theorem PMem.setO (h : PMem B w p S st vA vL vC vN L) (hn : ¬ ownR [2, 3, 4] w p b) (hb : B ≤ b) (i : Nat) (u : Value) : PMem B (w.setCell ⟨b, i, none⟩ u) p S st vA vL vC vN L := by
  have hp : p ≠ b := fun e => hn (.inl e.symm)
  refine { h with heap := (heap_setCell_ne _ _ hp).trans h.heap, ans := ints_set h.ans _ _ ?_, rowL := row_set h.rowL ?_, rowC := row_set h.rowC ?_, rowN := row_set h.rowN ?_ }
  · intro k hk e
    have := h.ansB k hk
    simp only at e
    omega
  · exact fun e => hn (ownR_at (i := 2) h.heap (by simp) rfl e)
  · exact fun e => hn (ownR_at (i := 3) h.heap (by simp) rfl e)
  · exact fun e => hn (ownR_at (i := 4) h.heap (by simp) rfl e)
theorem Held.setO {ix : List Nat} {k : Nat} {o : Obj} (h : Held ix w p k o) (hk : k ≠ b) (hn : ¬ ownR ix w p b) (i : Nat) (u : Value) : Held ix (w.setCell ⟨b, i, none⟩ u) p k o :=
  ⟨(heap_setCell_ne _ _ hk).trans h.1, fun h' => h.2 ((ownR_same (heap_setCell_ne _ _ (fun e => hn (.inl e.symm))) k).1 h')⟩
/-- The Out laid behind all. -/
theorem end_out {d x0 : Bool} {x1 x2 x3 : Value} (HM : PMem B W p S st vA vL vC vN L) (ho : W.heap[bo]? = some (.cells #[.bool x0, x1, x2, x3] 30 (0, 0))) (h2 : Ext W w') (h1 : IntRow w' W.heap.size vs (shortL L)) :
    ((((w'.setCell ⟨bo, 0, none⟩ (.bool d)).setCell ⟨bo, 1, none⟩ vC).setCell ⟨bo, 2, none⟩ vN).setCell ⟨bo, 3, none⟩ vs).heap[bo]? = some (.cells #[.bool d, vC, vN, vs] 30 (0, 0)) ∧
      Outs ((((w'.setCell ⟨bo, 0, none⟩ (.bool d)).setCell ⟨bo, 1, none⟩ vC).setCell ⟨bo, 2, none⟩ vN).setCell ⟨bo, 3, none⟩ vs) (.agg #[.bool d, vC, vN, vs]) d S := by
  have hlt := (Array.getElem?_eq_some_iff.1 ho).1
  have e0 := (Below.block h2 bo hlt).trans ho
  have rC := row_ext HM.rowC h2
  have rN := row_ext HM.rowN h2
  have nC := row_not rC e0 (by decide)
  have nN := row_not rN e0 (by decide)
  have hv : ∀ k, vs.ownBlock = some k → k ≠ bo := fun k hk => by have := (h1.lt k hk).1; omega
  have e4 := heap_setCell (i := 3) (heap_setCell (i := 2) (heap_setCell (i := 1) (heap_setCell (i := 0) e0 (.bool d)) vC) vN) vs
  refine ⟨e4, outs_of (L := L) (row_set (row_set (row_set (row_set rC nC) nC) nC) nC) (row_set (row_set (row_set (row_set rN nN) nN) nN) nN) (ints_set (ints_set (ints_set (ints_set h1.ints _ _ hv) _ _ hv) _ _ hv) _ _ hv) HM.loc HM.locN⟩
end

/-- What the deferred end leaves. -/
def EndAt (B : Nat) (w w' : World) (bg bo : Nat) (v : Value) (d : Bool) (S : TS) : Prop :=
  w'.heap[bg]? = some (.cells #[v] 3 (0, 0)) ∧ (∃ vC vN vs, w'.heap[bo]? = some (.cells #[.bool d, vC, vN, vs] 30 (0, 0)) ∧ Outs w' (.agg #[.bool d, vC, vN, vs]) d S) ∧ Below B w w'
set_option maxRecDepth 100000 in
set_option maxHeartbeats 1000000 in
theorem end_ok (B p : Nat) (S : TS) (bm bg bo : Nat) (v : Value) (w : World) (h : Plays B w p S) (hm : HeldP w p bm (.cells #[.pointer (some ⟨p, 0, none⟩)] 33 (0, 0))) (hg : HeldP w p bg (.cells #[v] 3 (0, 0)))
    (ho : HeldP w p bo (.cells #[.bool false, .slice none 0 0, .slice none 0 0, .slice none 0 0] 30 (0, 0))) (hB2 : B ≤ bo) :
    CallsD Try.prog 65 #[.pointer (some ⟨bm, 0, none⟩), .pointer (some ⟨bg, 0, none⟩), .pointer (some ⟨bo, 0, none⟩)] .returning w fun e u' w' => e = .returned (.tuple #[]) ∧ u' = .returning ∧ EndAt B w w' bg bo v true S := by
  obtain ⟨h1, vA, vL, vC, vN, L, h⟩ := h
  have hc := cell_of_heap h.heap
  have hfz := frozen_of_heap h.heap
  have cm := hm.cells
  refine callsD_of_wpS Try.func65 rfl fun c₀ cs hu => ?_
  simp only [Try.ntmps65, List.size_toArray, List.length_cons, List.length_nil, Nat.reduceAdd, Nat.reduceSub, Array.replicate_succ, Array.replicate_zero, List.push_toArray, List.append_toArray, List.nil_append, List.cons_append]
  apply wpS_seq
  refine wpS_of_wp ?_
  go_wp2_with fail
  simp only [Exit.thenS]
  apply wpS_seq
  refine wpS_of_wp ?_
  go_wp2_with fail
  simp only [Exit.thenS]
  obtain ⟨HM, HK⟩ := h.state 0
  have hmh := Lib.hid (hm.keep HK)
  have hgh := Lib.hid (hg.keep HK).1
  have hoh := Lib.hid (ho.keep HK)
  have hq := cell_of_heap HM.heap
  have cm2 := hmh.out.cells
  have HMh := Lib.hid HM
  have hbel := Lib.hid HK.below
  clear HM HK hc hfz cm hm hg ho h
  generalize w.setCell ⟨p, 0, none⟩ (.int .i64 0) = W at *
  apply wpS_seq
  apply wpS_seq
  apply wpS_region
  simp [wpOpsS, go_sem, recoverD, hu, Exit.thenS]
  refine wpS_of_wp ?_
  go_wp2_with fail
  simp only [Exit.thenS]
  refine wpS_of_wp ?_
  go_wp2_with fail
  have hI : Ints W vL L := IntRow.ints HMh.out.rowL
  obtain ⟨Al, cl, rfl, q1, q2⟩ := hI.slice
  have hIh := Lib.hid hI
  obtain ⟨Ac, cc, rfl, -, -, -⟩ := vals_row HMh.out.rowC
  obtain ⟨An, cn, rfl, -, -, -⟩ := vals_row HMh.out.rowN
  have hlen := HMh.out.locN
  have hplt := HMh.out.lt
  have hmlt := hmh.out.lt
  clear hI
  have hpo : p ≠ bo := fun e => hoh.out.2 (.inl e.symm)
  have hmo : bm ≠ bo := fun e => by
    have h1 := hmh.out.1
    rw [e, hoh.out.1] at h1
    injection h1 with h1
    injection h1 with _ h2
    cases h2
  have hlo : (Value.slice Al L.length cl).ownBlock ≠ some bo := row_not HMh.out.rowL hoh.out.1 (by decide)
  have hS : ∀ w', Near W bo 4 30 w' → ((∀ i, w'.cell? ⟨p, i, none⟩ = (#[.int .i64 0, vA, .slice Al L.length cl, .slice Ac S.acc.length cc, .slice An S.nts.length cn] : Array Value)[i]?) ∧ (∀ i, w'.cell? ⟨bm, i, none⟩ = (#[.pointer (some ⟨p, 0, none⟩)] : Array Value)[i]?) ∧ (∀ i, w'.cell? ⟨bo, i, none⟩ = (#[cellD w' bo 0, cellD w' bo 1, cellD w' bo 2, cellD w' bo 3] : Array Value)[i]?) ∧ (∀ i, w'.frozen? ⟨bo, i, none⟩ = false) ∧ Near W bo 4 30 w') := fun w' hx =>
    ⟨fun i => (hx.cell hplt hpo).trans (hq i), fun i => (hx.cell hmlt hmo).trans (cm2 i), hx.four, hx.frozen, hx⟩
  have hN : Near W bo 4 30 W := Near.new hoh.out.1 rfl
  go_region_held2 (fun w' => (∀ i, w'.cell? ⟨p, i, none⟩ = (#[.int .i64 0, vA, .slice Al L.length cl, .slice Ac S.acc.length cc, .slice An S.nts.length cn] : Array Value)[i]?) ∧ (∀ i, w'.cell? ⟨bm, i, none⟩ = (#[.pointer (some ⟨p, 0, none⟩)] : Array Value)[i]?) ∧ (∀ i, w'.cell? ⟨bo, i, none⟩ = (#[cellD w' bo 0, cellD w' bo 1, cellD w' bo 2, cellD w' bo 3] : Array Value)[i]?) ∧ (∀ i, w'.frozen? ⟨bo, i, none⟩ = false) ∧ Near W bo 4 30 w') (first | exact hS _ hN.drew | (refine hS _ ?_; (repeat refine Near.set ?_ _ _); exact hN.drew.ext h2))
    (first
      | (go_at_call 61
         refine (tshort_p Al cl L _ (hIh.out.ext (Ext.refl W).drew) q1 q2 (by omega)).mono ?_
         rintro e w' ⟨v', rfl, h1, h2⟩
         obtain ⟨As, cs, rfl, hs1, hs2⟩ := h1.ints.slice))
  obtain ⟨f1, f2⟩ := end_out (d := true) HMh.out hoh.out.1 ((Ext.refl W).drew.trans h2) h1
  have fg : bg ≠ bo := fun e => by
    have h1 := hgh.out
    rw [e, hoh.out.1] at h1
    injection h1 with h1
    injection h1 with _ h2
    cases h2
  refine ⟨rfl, FrameMode.returning, (by cases c₀; simp only at hu; subst hu; rfl), .tuple #[], (by simp [results, Try.results65, go_sem]), rfl, rfl, ?_, ⟨_, _, _, f1, f2⟩, ?_⟩
  · rw [heap_setCell_ne _ _ fg, heap_setCell_ne _ _ fg, heap_setCell_ne _ _ fg, heap_setCell_ne _ _ fg]
    exact (Below.block ((Ext.refl W).drew.trans h2) bg (Array.getElem?_eq_some_iff.1 hgh.out).1).trans hgh.out
  · exact ((((hN.drew.ext h2).set _ _).set _ _).set _ _ |>.set _ _).below hbel.out hB2 (by have := HMh.out.ge; omega)
set_option maxRecDepth 100000 in
set_option maxHeartbeats 1000000 in
theorem end_stop (B p : Nat) (S : TS) (bm bg bo : Nat) (v : Value) (older : List PanicEntry) (w : World) (h : Stops B w p S) (hm : HeldP w p bm (.cells #[.pointer (some ⟨p, 0, none⟩)] 33 (0, 0))) (hg : HeldP w p bg (.cells #[v] 3 (0, 0)))
    (ho : HeldP w p bo (.cells #[.bool false, .slice none 0 0, .slice none 0 0, .slice none 0 0] 30 (0, 0))) (hB1 : B ≤ bg) (hB2 : B ≤ bo) :
    CallsD Try.prog 65 #[.pointer (some ⟨bm, 0, none⟩), .pointer (some ⟨bg, 0, none⟩), .pointer (some ⟨bo, 0, none⟩)] (.panicking ({ v := .iface 81 (.agg #[.pointer (some ⟨p, 0, none⟩)]), recovered := false } :: older)) w fun e u' w' =>
      e = .returned (.tuple #[]) ∧ u' = .panicking ({ v := .iface 81 (.agg #[.pointer (some ⟨p, 0, none⟩)]), recovered := true } :: older) ∧ EndAt B w w' bg bo (.int .i64 0) false S := by
  obtain ⟨vA, vL, vC, vN, L, h⟩ := h
  have hc := cell_of_heap h.heap
  have hfz := frozen_of_heap h.heap
  have cm := hm.cells
  refine callsD_of_wpS Try.func65 rfl fun c₀ cs hu => ?_
  simp only [Try.ntmps65, List.size_toArray, List.length_cons, List.length_nil, Nat.reduceAdd, Nat.reduceSub, Array.replicate_succ, Array.replicate_zero, List.push_toArray, List.append_toArray, List.nil_append, List.cons_append]
  apply wpS_seq
  refine wpS_of_wp ?_
  go_wp2_with fail
  simp only [Exit.thenS]
  apply wpS_seq
  refine wpS_of_wp ?_
  go_wp2_with fail
  simp only [Exit.thenS]
  obtain ⟨HM, HK⟩ := h.state 0
  have hm2 := hm.keep HK
  have hg2 := hg.keep HK
  have ho2 := ho.keep HK
  clear hc hfz cm hm hg ho h
  generalize w.setCell ⟨p, 0, none⟩ (.int .i64 0) = W0 at *
  have hX := (Ext.refl W0).alloc (.cells #[.agg #[.pointer (some ⟨p, 0, none⟩)]] 81)
  have hq0 := cell_of_heap HM.heap
  have cm0 := hm2.cells
  have hqa : Hid (∀ O, ∀ i, (W0.alloc O).cell? ⟨bm, i, none⟩ = (#[.pointer (some ⟨p, 0, none⟩)] : Array Value)[i]?) := Lib.hid fun O i => (((Ext.refl W0).alloc O).cell (p := ⟨bm, i, none⟩) hm2.lt).trans (hm2.cells i)
  have cma := hqa.out
  have fga := frozen_of_heap hg2.1
  have cg0 := hg2.cells
  have W0lt := hg2.lt
  have fgb : Hid (∀ O i, (W0.alloc O).frozen? ⟨bg, i, none⟩ = false) := Lib.hid fun O i => frozen_of_heap ((Below.block ((Ext.refl W0).alloc O) bg hg2.lt).trans hg2.1) i
  have cgb : Hid (∀ O i, (W0.alloc O).cell? ⟨bg, i, none⟩ = (#[v] : Array Value)[i]?) := Lib.hid fun O i => (((Ext.refl W0).alloc O).cell (p := ⟨bg, i, none⟩) hg2.lt).trans (hg2.cells i)
  have fgb' := fgb.out
  have cgb' := cgb.out
  have HMh0 := Lib.hid HM
  have HKh := Lib.hid HK
  have hmh0 := Lib.hid hm2
  have hgh0 := Lib.hid hg2
  have hoh0 := Lib.hid ho2
  clear HM HK hm2 hg2 ho2
  apply wpS_seq
  apply wpS_seq
  apply wpS_region
  simp [wpOpsS, go_sem, recoverD, hu, Exit.thenS]
  refine wpS_of_wp ?_
  go_wp2_with fail
  simp only [Exit.thenS]
  refine wpS_of_wp ?_
  go_wp2_with fail
  have hgp := hgh0.out.2
  have hmg : bm ≠ bg := fun e => by
    have h1 := hmh0.out.1
    rw [e, hgh0.out.1] at h1
    injection h1 with h1
    injection h1 with _ h2
    cases h2
  have hog : bo ≠ bg := fun e => by
    have h1 := hoh0.out.1
    rw [e, hgh0.out.1] at h1
    injection h1 with h1
    injection h1 with _ h2
    cases h2
  have HM1 := HMh0.out.setO hgp hB1 0 (.int .i64 0)
  have hm1 := hmh0.out.setO hmg hgp 0 (.int .i64 0)
  have ho1 := hoh0.out.setO hog hgp 0 (.int .i64 0)
  have hg1 := heap_setCell (i := 0) hgh0.out.1 (.int .i64 0)
  have hb1 : Below B w (W0.setCell ⟨bg, 0, none⟩ (.int .i64 0)) := Below.setCell HKh.out.below (by show B ≤ bg; exact hB1) _
  have HMh := Lib.hid (HM1.ext ((Ext.refl _).alloc (.cells #[.pointer (some ⟨p, 0, none⟩)] 81)))
  have hmh := Lib.hid (hm1.alloc (.cells #[.pointer (some ⟨p, 0, none⟩)] 81) HM1.lt)
  have hoh := Lib.hid (ho1.alloc (.cells #[.pointer (some ⟨p, 0, none⟩)] 81) HM1.lt)
  have hgh := Lib.hid ((Below.block ((Ext.refl _).alloc (.cells #[.pointer (some ⟨p, 0, none⟩)] 81)) bg (Array.getElem?_eq_some_iff.1 hg1).1).trans hg1)
  have hbel := Lib.hid (Below.alloc hb1 (by have := HM1.ge; have := HM1.lt; omega) (.cells #[.pointer (some ⟨p, 0, none⟩)] 81))
  clear hX hq0 cm0 hqa cma fga cg0 fgb cgb fgb' cgb' HMh0 hmh0 hgh0 hoh0 HKh HM1 hm1 ho1 hg1 hb1 hgp W0lt
  generalize (World.alloc (W0.setCell ⟨bg, 0, none⟩ (.int .i64 0)) (.cells #[.pointer (some ⟨p, 0, none⟩)] 81)) = W at *
  have hq := cell_of_heap HMh.out.heap
  have cm2 := hmh.out.cells
  have hI : Ints W vL L := IntRow.ints HMh.out.rowL
  obtain ⟨Al, cl, rfl, q1, q2⟩ := hI.slice
  have hIh := Lib.hid hI
  obtain ⟨Ac, cc, rfl, -, -, -⟩ := vals_row HMh.out.rowC
  obtain ⟨An, cn, rfl, -, -, -⟩ := vals_row HMh.out.rowN
  have hlen := HMh.out.locN
  have hplt := HMh.out.lt
  have hmlt := hmh.out.lt
  clear hI
  have hpo : p ≠ bo := fun e => hoh.out.2 (.inl e.symm)
  have hmo : bm ≠ bo := fun e => by
    have h1 := hmh.out.1
    rw [e, hoh.out.1] at h1
    injection h1 with h1
    injection h1 with _ h2
    cases h2
  have hlo : (Value.slice Al L.length cl).ownBlock ≠ some bo := row_not HMh.out.rowL hoh.out.1 (by decide)
  have hS : ∀ w', Near W bo 4 30 w' → ((∀ i, w'.cell? ⟨p, i, none⟩ = (#[.int .i64 0, vA, .slice Al L.length cl, .slice Ac S.acc.length cc, .slice An S.nts.length cn] : Array Value)[i]?) ∧ (∀ i, w'.cell? ⟨bm, i, none⟩ = (#[.pointer (some ⟨p, 0, none⟩)] : Array Value)[i]?) ∧ (∀ i, w'.cell? ⟨bo, i, none⟩ = (#[cellD w' bo 0, cellD w' bo 1, cellD w' bo 2, cellD w' bo 3] : Array Value)[i]?) ∧ (∀ i, w'.frozen? ⟨bo, i, none⟩ = false) ∧ Near W bo 4 30 w') := fun w' hx =>
    ⟨fun i => (hx.cell hplt hpo).trans (hq i), fun i => (hx.cell hmlt hmo).trans (cm2 i), hx.four, hx.frozen, hx⟩
  have hN : Near W bo 4 30 W := Near.new hoh.out.1 rfl
  go_region_held2 (fun w' => (∀ i, w'.cell? ⟨p, i, none⟩ = (#[.int .i64 0, vA, .slice Al L.length cl, .slice Ac S.acc.length cc, .slice An S.nts.length cn] : Array Value)[i]?) ∧ (∀ i, w'.cell? ⟨bm, i, none⟩ = (#[.pointer (some ⟨p, 0, none⟩)] : Array Value)[i]?) ∧ (∀ i, w'.cell? ⟨bo, i, none⟩ = (#[cellD w' bo 0, cellD w' bo 1, cellD w' bo 2, cellD w' bo 3] : Array Value)[i]?) ∧ (∀ i, w'.frozen? ⟨bo, i, none⟩ = false) ∧ Near W bo 4 30 w') (first | exact hS _ hN.drew | (refine hS _ ?_; (repeat refine Near.set ?_ _ _); exact hN.drew.ext h2))
    (first
      | (go_at_call 61
         refine (tshort_p Al cl L _ (hIh.out.ext (Ext.refl W).drew) q1 q2 (by omega)).mono ?_
         rintro e w' ⟨v', rfl, h1, h2⟩
         obtain ⟨As, cs, rfl, hs1, hs2⟩ := h1.ints.slice))
  obtain ⟨f1, f2⟩ := end_out (d := false) HMh.out hoh.out.1 ((Ext.refl W).drew.trans h2) h1
  have fg : bg ≠ bo := fun e => by
    have h1 := hgh.out
    rw [e, hoh.out.1] at h1
    injection h1 with h1
    injection h1 with _ h2
    cases h2
  refine ⟨rfl, FrameMode.panicking ({ v := .iface 81 (.agg #[.pointer (some ⟨p, 0, none⟩)]), recovered := true } :: older), (by cases c₀; simp only at hu; subst hu; rfl), .tuple #[], (by simp [results, Try.results65, go_sem]), rfl, rfl, ?_, ⟨_, _, _, f1, f2⟩, ?_⟩
  · rw [heap_setCell_ne _ _ fg, heap_setCell_ne _ _ fg, heap_setCell_ne _ _ fg, heap_setCell_ne _ _ fg]
    exact (Below.block ((Ext.refl W).drew.trans h2) bg (Array.getElem?_eq_some_iff.1 hgh.out).1).trans hgh.out
  · exact ((((hN.drew.ext h2).set _ _).set _ _).set _ _ |>.set _ _).below hbel.out hB2 (by have := HMh.out.ge; omega)
end Go.Proofs.Ytbphlkaihfbgeaa
/-
  Playing an operation: the whole of it.
-/
namespace Go.Proofs.Ytbphlkaihfbgeaa
open Go.RowKit Kv
theorem row_base {w : World} {B B' e size n : Nat} {v : Value} {xs : List Value} (h : w.ownsRow B' e size v n xs) (hB : B ≤ B') : w.ownsRow B e size v n xs := by
  obtain ⟨h1, h2⟩ := h
  rcases h2 with h2 | ⟨g, cap, cur, rfl, hg, r⟩
  · exact ⟨h1, .inl h2⟩
  · exact ⟨h1, .inr ⟨g, cap, cur, rfl, Nat.le_trans hB hg, r⟩⟩
theorem four_boxes (w : World) (o1 o2 o3 o4 : Obj) : Ext w ((((w.alloc o1).alloc o2).alloc o3).alloc o4) ∧ ((((w.alloc o1).alloc o2).alloc o3).alloc o4).heap[w.heap.size]? = some o1 ∧ ((((w.alloc o1).alloc o2).alloc o3).alloc o4).heap[w.heap.size + 1]? = some o2 ∧
    ((((w.alloc o1).alloc o2).alloc o3).alloc o4).heap[w.heap.size + 1 + 1]? = some o3 ∧ ((((w.alloc o1).alloc o2).alloc o3).alloc o4).heap[w.heap.size + 1 + 1 + 1]? = some o4 := by
  refine ⟨((((Ext.refl w).alloc o1).alloc o2).alloc o3).alloc o4, ?_, ?_, ?_, ?_⟩
  · exact (Below.block ((((Ext.refl (w.alloc o1)).alloc o2).alloc o3).alloc o4) _ (by simp)).trans (heap_alloc_new w o1)
  · have := heap_alloc_new (w.alloc o1) o2
    rw [World.size_alloc] at this
    exact (Below.block (((Ext.refl ((w.alloc o1).alloc o2)).alloc o3).alloc o4) _ (by simp)).trans this
  · have := heap_alloc_new ((w.alloc o1).alloc o2) o3
    rw [World.size_alloc, World.size_alloc] at this
    exact (Below.block ((Ext.refl (((w.alloc o1).alloc o2).alloc o3)).alloc o4) _ (by simp)).trans this
  · have := heap_alloc_new (((w.alloc o1).alloc o2).alloc o3) o4
    rw [World.size_alloc, World.size_alloc, World.size_alloc] at this
    exact this
/-- Worlds with the same blocks. -/
structure SameW (w w' : World) : Prop where
  os : w'.os = w.os
  tape : w'.tape = w.tape
  output : w'.output = w.output
  size : w'.heap.size = w.heap.size
  blocks : ∀ k : Nat, w'.heap[k]? = w.heap[k]?
theorem SameW.drew (w : World) : SameW w w.drew := ⟨rfl, rfl, rfl, rfl, fun _ => rfl⟩
theorem SameW.drew2 {w w' : World} (h : SameW w w') : SameW w w'.drew := ⟨h.os, h.tape, h.output, h.size, h.blocks⟩
theorem SameW.refl (w : World) : SameW w w := ⟨rfl, rfl, rfl, rfl, fun _ => rfl⟩
theorem SameW.ext {w w' : World} (h : SameW w w') : Ext w w' := ⟨h.os, h.tape, h.output, Nat.le_of_eq h.size.symm, fun k _ => h.blocks k⟩
theorem SameW.set {w w' : World} {b : Nat} {cs : Array Value} {t : TypeId} (h : SameW w w') (g : w.heap[b]? = some (.cells cs t (0, 0))) {i : Nat} {v : Value} (hv : cs[i]? = some v) : SameW w (w'.setCell ⟨b, i, none⟩ v) := by
  refine ⟨h.os, h.tape, h.output, by rw [← h.size]; simp, fun k => ?_⟩
  by_cases e : k = b
  · subst e
    rw [heap_setCell ((h.blocks k).trans g) v, g]
    congr 2
    apply Array.ext_getElem?
    intro j
    rw [Array.getElem?_setIfInBounds]
    split
    · rename_i e
      subst e
      rw [hv]
      split
      · rfl
      · rename_i h2
        rw [Array.getElem?_eq_none (by omega)] at hv
        cases hv
    · rfl
  · rw [heap_setCell_ne _ _ e]
    exact h.blocks k
/-- A play begins. -/
theorem play_start {w W w' : World} {p : Nat} {Aa : Option Addr} {ca : Nat} {ans L : List Int} {v' : Value} (hx : Ext w W) (hp : w.heap.size ≤ p) (g : W.heap[p]? = some (.cells #[.int .i64 1, .slice Aa ans.length ca, .slice none 0 0, .slice none 0 0, .slice none 0 0] 78 (0, 0)))
    (h2 : Ext W w') (h1 : IntRow w' W.heap.size v' L) (hl : L.length ≤ 32768) (ha : Ints w (.slice Aa ans.length ca) ans) (hn : ans.length ≤ maxAns) (hb : ∀ b, (Value.slice Aa ans.length ca).ownBlock = some b → b < w.heap.size) :
    Plays w.heap.size (w'.setCell ⟨p, 2, none⟩ v') p (TS0 L ans) ∧ (∀ b o, W.heap[b]? = some o → b ≠ p → HeldP (w'.setCell ⟨p, 2, none⟩ v') p b o) ∧ Ext w (w'.setCell ⟨p, 2, none⟩ v') := by
  have hlt := (Array.getElem?_eq_some_iff.1 g).1
  have g' := heap_setCell (i := 2) ((Below.block h2 p hlt).trans g) v'
  have hv : ∀ k, v'.ownBlock = some k → W.heap.size ≤ k := fun k hk => (h1.lt k hk).1
  have ha' := (ha.ext hx).ext h2
  refine ⟨⟨Nat.zero_le _, .slice Aa ans.length ca, v', .slice none 0 0, .slice none 0 0, L, { ge := hp, heap := g', ans := ints_set ha' _ _ ?_, ansB := hb, rowL := row_base (row_set h1 ?_) hx.size, rowC := World.ownsRow_nil _ _ _ _, rowN := World.ownsRow_nil _ _ _ _, loc := fun _ => rfl, locN := hl, accN := Nat.zero_le _, ansN := hn, ntsN := Nat.zero_le _ }⟩, ?_, (hx.trans h2).setCell hp _⟩
  · intro k hk e
    have := hb k hk
    simp only at e
    omega
  · intro e
    have := hv p e
    omega
  · intro b o hb ho
    have hbl := (Array.getElem?_eq_some_iff.1 hb).1
    refine ⟨(heap_setCell_ne _ _ ho).trans ((Below.block h2 b hbl).trans hb), fun h' => ?_⟩
    rcases h' with e | ⟨i, hi, v, hv1, hv2⟩
    · exact ho e
    · rw [cell_of_heap g'] at hv1
      simp only [List.mem_cons, List.not_mem_nil, or_false] at hi
      rcases hi with rfl | rfl | rfl
      · obtain rfl : v' = v := by simpa using hv1
        have := hv b hv2
        omega
      · obtain rfl : Value.slice none 0 0 = v := by simpa using hv1
        simp [Value.ownBlock] at hv2
      · obtain rfl : Value.slice none 0 0 = v := by simpa using hv1
        simp [Value.ownBlock] at hv2
set_option maxRecDepth 100000 in
set_option maxHeartbeats 1000000 in
theorem play_int (f : FuncId) (cap : Array Value) (T : Prog Int) (Al : Option Addr) (cl : Nat) (L : List Int) (Aa : Option Addr) (ca : Nat) (ans : List Int) (w : World) (h : Ints w (.slice Al L.length cl) L) (hl : L.length ≤ 32768) (ha : Ints w (.slice Aa ans.length ca) ans) (hn : ans.length ≤ maxAns)
    (hb : ∀ b, (Value.slice Aa ans.length ca).ownBlock = some b → b < w.heap.size)
    (hcf : ∀ (args : Array Value) (w : World), (callFunc f args).run Try.prog w = .ok (.enter f args) w)
    (hdo : ∀ w1 p, Ext w w1 → Plays w.heap.size w1 p (TS0 L ans) → Calls Try.prog f (#[.pointer (some ⟨p, 0, none⟩)] ++ cap) w1 (Post encI w.heap.size p w1 (T.run (TS0 L ans)))) :
    Calls Try.prog 15 #[.func (.func f) #[] cap, .slice Al L.length cl, .slice Aa ans.length ca] w fun e w' => ∃ v, e = .returned (.tuple #[.int .i64 ((T.run (TS0 L ans)).1.getD 0), v]) ∧ Outs w' v (T.run (TS0 L ans)).1.isSome (T.run (TS0 L ans)).2 ∧ Ext w w' := by
  obtain ⟨q1, q2⟩ : L.length ≤ cl ∧ cl ≤ 9223372036854775807 := by
    obtain ⟨A', c', he, q1, q2, _⟩ := h
    injection he with e1 e2 e3
    subst e3
    exact ⟨q1, q2⟩
  generalize hR : (fun e w' => ∃ v, e = Ending.returned (.tuple #[.int .i64 ((T.run (TS0 L ans)).1.getD 0), v]) ∧ Outs w' v (T.run (TS0 L ans)).1.isSome (T.run (TS0 L ans)).2 ∧ Ext w w') = R
  have hfin : ∀ v w', Outs w' v (T.run (TS0 L ans)).1.isSome (T.run (TS0 L ans)).2 → Ext w w' → R (.returned (.tuple #[.int .i64 ((T.run (TS0 L ans)).1.getD 0), v])) w' := fun v w' h1 h2 => hR ▸ ⟨v, rfl, h1, h2⟩
  clear hR
  have hmf : ∀ (fn : Fn) (first cap : Array Value) (w : World), (Instr.makeFunc fn first cap).run Try.prog w = .ok (.func fn first cap) w := fun _ _ _ _ => rfl
  go_enter_defers Try.func15, Try.ntmps15
  go_wp2_with fail
  obtain ⟨hx, g1, g2, g3, g4⟩ := four_boxes w (.cells #[.int .i64 0] 3) (.cells #[.bool false, .slice none 0 0, .slice none 0 0, .slice none 0 0] 30) (.cells #[.int .i64 1, .slice Aa ans.length ca, .slice none 0 0, .slice none 0 0, .slice none 0 0] 78) (.cells #[.pointer (some ⟨w.heap.size + 1 + 1, 0, none⟩)] 33)
  generalize hW : World.alloc (World.alloc (World.alloc (World.alloc w _) _) _) _ = W at *
  clear hW
  have hI := h.ext hx
  have cm := cell_of_heap g4
  have hN : Near W (w.heap.size + 1 + 1) 5 78 W := Near.new g3 rfl
  have hmlt := (Array.getElem?_eq_some_iff.1 g4).1
  have hmin : min (L.length : Int) 32768 = (L.length : Int) := by omega
  have hS : ∀ w', Near W (w.heap.size + 1 + 1) 5 78 w' → ((∀ i, w'.cell? ⟨w.heap.size + 1 + 1 + 1, i, none⟩ = (#[.pointer (some ⟨w.heap.size + 1 + 1, 0, none⟩)] : Array Value)[i]?) ∧ (∀ i, w'.cell? ⟨w.heap.size + 1 + 1, i, none⟩ = (#[cellD w' (w.heap.size + 1 + 1) 0, cellD w' (w.heap.size + 1 + 1) 1, cellD w' (w.heap.size + 1 + 1) 2, cellD w' (w.heap.size + 1 + 1) 3, cellD w' (w.heap.size + 1 + 1) 4] : Array Value)[i]?) ∧ (∀ i, w'.frozen? ⟨w.heap.size + 1 + 1, i, none⟩ = false)) := fun w' hx =>
    ⟨fun i => (hx.cell hmlt (by omega)).trans (cm i), hx.five, hx.frozen⟩
  go_region_held3 (fun w' => (∀ i, w'.cell? ⟨w.heap.size + 1 + 1 + 1, i, none⟩ = (#[.pointer (some ⟨w.heap.size + 1 + 1, 0, none⟩)] : Array Value)[i]?) ∧ (∀ i, w'.cell? ⟨w.heap.size + 1 + 1, i, none⟩ = (#[cellD w' (w.heap.size + 1 + 1) 0, cellD w' (w.heap.size + 1 + 1) 1, cellD w' (w.heap.size + 1 + 1) 2, cellD w' (w.heap.size + 1 + 1) 3, cellD w' (w.heap.size + 1 + 1) 4] : Array Value)[i]?) ∧ (∀ i, w'.frozen? ⟨w.heap.size + 1 + 1, i, none⟩ = false)) (first | exact hS _ hN.drew | (refine hS _ ?_; (repeat refine Near.set ?_ _ _); exact hN.drew.ext h2))
    (first
      | (go_at_call 59
         refine (clone_any Al cl L _ (hI.ext (Ext.refl W).drew) (by omega)).mono ?_
         rintro e w' ⟨v', rfl, h1, h2⟩
         obtain ⟨As, cs, rfl, hs1, hs2⟩ := h1.ints.slice))
  obtain ⟨hP, hH, hE⟩ := play_start (p := w.heap.size + 1 + 1) hx (by omega) g3 ((Ext.refl W).drew.trans h2) h1 hl ha hn hb
  have hbg := hH _ _ g1 (by omega)
  have hbo := hH _ _ g2 (by omega)
  have hbm := hH _ _ g4 (by omega)
  clear hH g1 g2 g3 g4 hS hN h1 h2 hI cm hmin hmlt
  rename_i hh
  clear hh
  have hT := hdo _ _ hE hP
  clear hdo
  generalize World.setCell _ _ _ = W2 at *
  have cbm := hbm.cells
  have hnf : (binOp .neq 39 (.func (.func f) #[] cap) .nilFunc).run Try.prog W2 = .ok (.bool true) W2 := by kernel_rfl
  go_wp2_with fail
  generalize hr : T.run (TS0 L ans) = r at hT hfin
  obtain ⟨o, S⟩ := r
  clear hr
  cases o with
  | some a =>
    refine hT.mono ?_
    rintro e w3 ⟨rfl, hP3, hK3⟩
    have hbg3 := hbg.keep hK3
    have hbo3 := hbo.keep hK3
    have hbm3 := hbm.keep hK3
    have hE3 : Ext w w3 := Below.trans hE hK3.below
    clear hbg hbo hbm hE hK3 hT hP cbm hnf
    have cbg := hbg3.cells
    have fbg := frozen_of_heap hbg3.1
    have cbo := hbo3.cells
    have fbo := frozen_of_heap hbo3.1
    go_wp2_with fail
    have fgo : w.heap.size ≠ w.heap.size + 1 := by omega
    have hg4 := heap_setCell (i := 0) hbg3.1 (.int .i64 a)
    have hP4 : Plays w.heap.size (w3.setCell ⟨w.heap.size, 0, none⟩ (.int .i64 a)) (w.heap.size + 1 + 1) S := by
      obtain ⟨q, vA, vL, vC, vN, L', hM⟩ := hP3
      exact ⟨q, vA, vL, vC, vN, L', hM.setO hbg3.2 (Nat.le_refl _) _ _⟩
    have hbm4 := hbm3.setO (b := w.heap.size) (by omega) hbg3.2 0 (.int .i64 a)
    have hbo4 := hbo3.setO (b := w.heap.size) (by omega) hbg3.2 0 (.int .i64 a)
    have hbg4 : HeldP (w3.setCell ⟨w.heap.size, 0, none⟩ (.int .i64 a)) (w.heap.size + 1 + 1) w.heap.size (.cells #[.int .i64 a] 3 (0, 0)) := ⟨hg4, fun h' => hbg3.2 ((ownR_same (heap_setCell_ne _ _ (by omega)) _).1 h')⟩
    have hE4 : Ext w (w3.setCell ⟨w.heap.size, 0, none⟩ (.int .i64 a)) := hE3.setCell (Nat.le_refl _) _
    clear hP3 hbg3 hbo3 hbm3 hE3 cbg fbg cbo fbo hg4
    generalize World.setCell _ _ _ = w4 at *
    generalize hbq : w.heap.size + 1 = bo at hbm4 hbo4 hP4 ⊢
    have fgo1 : w.heap.size ≠ bo := by omega
    have fgo2 : bo ≠ w.heap.size := by omega
    clear fgo
    have cbg := hbg4.cells
    have fbg := frozen_of_heap hbg4.1
    have cbo := hbo4.cells
    have fbo := frozen_of_heap hbo4.1
    go_region
    all_goals
      generalize hW5 : World.drew _ = W5
      have hsm : SameW w4 W5 := by
        rw [← hW5]
        repeat first | with_reducible exact SameW.refl _ | with_reducible refine SameW.drew2 ?_ | refine SameW.set ?_ hbg4.1 rfl | refine SameW.set ?_ hbo4.1 rfl
      clear hW5 cbg fbg cbo fbo
      have hP5 := hP4.ext hsm.ext
      have hbm5 := hbm4.ext hsm.ext hP4.lt
      have hbg5 := hbg4.ext hsm.ext (by rw [hbq]; exact hP4.lt)
      have hbo5 := hbo4.ext hsm.ext hP4.lt
      have hE5 : Ext w W5 := hE4.trans hsm.ext
      clear hP4 hbm4 hbg4 hbo4 hE4 hsm
      go_wp2_with fail
      refine leaves_cons (f := 65) (args := #[.pointer (some ⟨bo + 1 + 1, 0, none⟩), .pointer (some ⟨w.heap.size, 0, none⟩), .pointer (some ⟨bo, 0, none⟩)]) (by simp) (by simp [go_sem]) ?_
      refine (end_ok w.heap.size _ S _ _ _ _ _ hP5 hbm5 (by rw [← hbq]; exact hbg5) hbo5 (by omega)).mono ?_
      rintro e u' w4 ⟨rfl, rfl, hg, ⟨vC, vN, vs, ho, hO⟩, hB⟩
      have cg := cell_of_heap hg
      have co := cell_of_heap ho
      have cg0 := cg 0
      have co0 := co 0
      have co1 := co 1
      have co2 := co 2
      have co3 := co 3
      refine ⟨.tuple #[.int .i64 a, .agg #[.bool true, vC, vN, vs]], ?_, hfin _ _ hO (Below.trans hE5 hB)⟩
      simp [results, Try.results15, go_sem, cg0, co0, co1, co2, co3]
  | none =>
    refine hT.mono ?_
    rintro e w3 ⟨rfl, hP3, hK3⟩
    have hbg3 := hbg.keep hK3
    have hbo3 := hbo.keep hK3
    have hbm3 := hbm.keep hK3
    have hE3 : Ext w w3 := Below.trans hE hK3.below
    clear hbg hbo hbm hE hK3 hT hP cbm hnf
    refine leaves_cons (f := 65) (args := #[.pointer (some ⟨w.heap.size + 1 + 1 + 1, 0, none⟩), .pointer (some ⟨w.heap.size, 0, none⟩), .pointer (some ⟨w.heap.size + 1, 0, none⟩)]) (by simp) (by simp [go_sem]) ?_
    refine (end_stop w.heap.size _ S _ _ _ _ [] _ hP3 hbm3 hbg3 hbo3 (Nat.le_refl _) (by omega)).mono ?_
    rintro e u' w4 ⟨rfl, rfl, hg, ⟨vC, vN, vs, ho, hO⟩, hB⟩
    have cg := cell_of_heap hg
    have co := cell_of_heap ho
    have cg0 := cg 0
    have co0 := co 0
    have co1 := co 1
    have co2 := co 2
    have co3 := co 3
    refine ⟨.tuple #[.int .i64 0, .agg #[.bool false, vC, vN, vs]], ?_, hfin _ _ hO (Below.trans hE3 hB)⟩
    simp [results, Try.results15, go_sem, cg0, co0, co1, co2, co3]
    trace_state
end Go.Proofs.Ytbphlkaihfbgeaa
/-
  An operation played whose result is an error's number: its deferred end.
-/
namespace Go.Proofs.Ytbphlkaihfbgeaa
open Go.RowKit Kv

/-- What the deferred end leaves. -/
def EndAtE (B : Nat) (w w' : World) (bg bo : Nat) (v : Value) (d : Bool) (S : TS) : Prop :=
  w'.heap[bg]? = some (.cells #[v] 25 (0, 0)) ∧ (∃ vC vN vs, w'.heap[bo]? = some (.cells #[.bool d, vC, vN, vs] 30 (0, 0)) ∧ Outs w' (.agg #[.bool d, vC, vN, vs]) d S) ∧ Below B w w'
set_option maxRecDepth 100000 in
set_option maxHeartbeats 1000000 in
theorem end_okE (B p : Nat) (S : TS) (bm bg bo : Nat) (v : Value) (w : World) (h : Plays B w p S) (hm : HeldP w p bm (.cells #[.pointer (some ⟨p, 0, none⟩)] 33 (0, 0))) (hg : HeldP w p bg (.cells #[v] 25 (0, 0)))
    (ho : HeldP w p bo (.cells #[.bool false, .slice none 0 0, .slice none 0 0, .slice none 0 0] 30 (0, 0))) (hB2 : B ≤ bo) :
    CallsD Try.prog 60 #[.pointer (some ⟨bm, 0, none⟩), .pointer (some ⟨bg, 0, none⟩), .pointer (some ⟨bo, 0, none⟩)] .returning w fun e u' w' => e = .returned (.tuple #[]) ∧ u' = .returning ∧ EndAtE B w w' bg bo v true S := by
  obtain ⟨h1, vA, vL, vC, vN, L, h⟩ := h
  have hc := cell_of_heap h.heap
  have hfz := frozen_of_heap h.heap
  have cm := hm.cells
  refine callsD_of_wpS Try.func60 rfl fun c₀ cs hu => ?_
  simp only [Try.ntmps60, List.size_toArray, List.length_cons, List.length_nil, Nat.reduceAdd, Nat.reduceSub, Array.replicate_succ, Array.replicate_zero, List.push_toArray, List.append_toArray, List.nil_append, List.cons_append]
  apply wpS_seq
  refine wpS_of_wp ?_
  go_wp2_with fail
  simp only [Exit.thenS]
  apply wpS_seq
  refine wpS_of_wp ?_
  go_wp2_with fail
  simp only [Exit.thenS]
  obtain ⟨HM, HK⟩ := h.state 0
  have hmh := Lib.hid (hm.keep HK)
  have hgh := Lib.hid (hg.keep HK).1
  have hoh := Lib.hid (ho.keep HK)
  have hq := cell_of_heap HM.heap
  have cm2 := hmh.out.cells
  have HMh := Lib.hid HM
  have hbel := Lib.hid HK.below
  clear HM HK hc hfz cm hm hg ho h
  generalize w.setCell ⟨p, 0, none⟩ (.int .i64 0) = W at *
  apply wpS_seq
  apply wpS_seq
  apply wpS_region
  simp [wpOpsS, go_sem, recoverD, hu, Exit.thenS]
  refine wpS_of_wp ?_
  go_wp2_with fail
  simp only [Exit.thenS]
  refine wpS_of_wp ?_
  go_wp2_with fail
  have hI : Ints W vL L := IntRow.ints HMh.out.rowL
  obtain ⟨Al, cl, rfl, q1, q2⟩ := hI.slice
  have hIh := Lib.hid hI
  obtain ⟨Ac, cc, rfl, -, -, -⟩ := vals_row HMh.out.rowC
  obtain ⟨An, cn, rfl, -, -, -⟩ := vals_row HMh.out.rowN
  have hlen := HMh.out.locN
  have hplt := HMh.out.lt
  have hmlt := hmh.out.lt
  clear hI
  have hpo : p ≠ bo := fun e => hoh.out.2 (.inl e.symm)
  have hmo : bm ≠ bo := fun e => by
    have h1 := hmh.out.1
    rw [e, hoh.out.1] at h1
    injection h1 with h1
    injection h1 with _ h2
    cases h2
  have hlo : (Value.slice Al L.length cl).ownBlock ≠ some bo := row_not HMh.out.rowL hoh.out.1 (by decide)
  have hS : ∀ w', Near W bo 4 30 w' → ((∀ i, w'.cell? ⟨p, i, none⟩ = (#[.int .i64 0, vA, .slice Al L.length cl, .slice Ac S.acc.length cc, .slice An S.nts.length cn] : Array Value)[i]?) ∧ (∀ i, w'.cell? ⟨bm, i, none⟩ = (#[.pointer (some ⟨p, 0, none⟩)] : Array Value)[i]?) ∧ (∀ i, w'.cell? ⟨bo, i, none⟩ = (#[cellD w' bo 0, cellD w' bo 1, cellD w' bo 2, cellD w' bo 3] : Array Value)[i]?) ∧ (∀ i, w'.frozen? ⟨bo, i, none⟩ = false) ∧ Near W bo 4 30 w') := fun w' hx =>
    ⟨fun i => (hx.cell hplt hpo).trans (hq i), fun i => (hx.cell hmlt hmo).trans (cm2 i), hx.four, hx.frozen, hx⟩
  have hN : Near W bo 4 30 W := Near.new hoh.out.1 rfl
  go_region_held2 (fun w' => (∀ i, w'.cell? ⟨p, i, none⟩ = (#[.int .i64 0, vA, .slice Al L.length cl, .slice Ac S.acc.length cc, .slice An S.nts.length cn] : Array Value)[i]?) ∧ (∀ i, w'.cell? ⟨bm, i, none⟩ = (#[.pointer (some ⟨p, 0, none⟩)] : Array Value)[i]?) ∧ (∀ i, w'.cell? ⟨bo, i, none⟩ = (#[cellD w' bo 0, cellD w' bo 1, cellD w' bo 2, cellD w' bo 3] : Array Value)[i]?) ∧ (∀ i, w'.frozen? ⟨bo, i, none⟩ = false) ∧ Near W bo 4 30 w') (first | exact hS _ hN.drew | (refine hS _ ?_; (repeat refine Near.set ?_ _ _); exact hN.drew.ext h2))
    (first
      | (go_at_call 61
         refine (tshort_p Al cl L _ (hIh.out.ext (Ext.refl W).drew) q1 q2 (by omega)).mono ?_
         rintro e w' ⟨v', rfl, h1, h2⟩
         obtain ⟨As, cs, rfl, hs1, hs2⟩ := h1.ints.slice))
  obtain ⟨f1, f2⟩ := end_out (d := true) HMh.out hoh.out.1 ((Ext.refl W).drew.trans h2) h1
  have fg : bg ≠ bo := fun e => by
    have h1 := hgh.out
    rw [e, hoh.out.1] at h1
    injection h1 with h1
    injection h1 with _ h2
    cases h2
  refine ⟨rfl, FrameMode.returning, (by cases c₀; simp only at hu; subst hu; rfl), .tuple #[], (by simp [results, Try.results60, go_sem]), rfl, rfl, ?_, ⟨_, _, _, f1, f2⟩, ?_⟩
  · rw [heap_setCell_ne _ _ fg, heap_setCell_ne _ _ fg, heap_setCell_ne _ _ fg, heap_setCell_ne _ _ fg]
    exact (Below.block ((Ext.refl W).drew.trans h2) bg (Array.getElem?_eq_some_iff.1 hgh.out).1).trans hgh.out
  · exact ((((hN.drew.ext h2).set _ _).set _ _).set _ _ |>.set _ _).below hbel.out hB2 (by have := HMh.out.ge; omega)
set_option maxRecDepth 100000 in
set_option maxHeartbeats 1000000 in
theorem end_stopE (B p : Nat) (S : TS) (bm bg bo : Nat) (v : Value) (older : List PanicEntry) (w : World) (h : Stops B w p S) (hm : HeldP w p bm (.cells #[.pointer (some ⟨p, 0, none⟩)] 33 (0, 0))) (hg : HeldP w p bg (.cells #[v] 25 (0, 0)))
    (ho : HeldP w p bo (.cells #[.bool false, .slice none 0 0, .slice none 0 0, .slice none 0 0] 30 (0, 0))) (hB1 : B ≤ bg) (hB2 : B ≤ bo) :
    CallsD Try.prog 60 #[.pointer (some ⟨bm, 0, none⟩), .pointer (some ⟨bg, 0, none⟩), .pointer (some ⟨bo, 0, none⟩)] (.panicking ({ v := .iface 81 (.agg #[.pointer (some ⟨p, 0, none⟩)]), recovered := false } :: older)) w fun e u' w' =>
      e = .returned (.tuple #[]) ∧ u' = .panicking ({ v := .iface 81 (.agg #[.pointer (some ⟨p, 0, none⟩)]), recovered := true } :: older) ∧ EndAtE B w w' bg bo (.int .i64 0) false S := by
  obtain ⟨vA, vL, vC, vN, L, h⟩ := h
  have hc := cell_of_heap h.heap
  have hfz := frozen_of_heap h.heap
  have cm := hm.cells
  refine callsD_of_wpS Try.func60 rfl fun c₀ cs hu => ?_
  simp only [Try.ntmps60, List.size_toArray, List.length_cons, List.length_nil, Nat.reduceAdd, Nat.reduceSub, Array.replicate_succ, Array.replicate_zero, List.push_toArray, List.append_toArray, List.nil_append, List.cons_append]
  apply wpS_seq
  refine wpS_of_wp ?_
  go_wp2_with fail
  simp only [Exit.thenS]
  apply wpS_seq
  refine wpS_of_wp ?_
  go_wp2_with fail
  simp only [Exit.thenS]
  obtain ⟨HM, HK⟩ := h.state 0
  have hm2 := hm.keep HK
  have hg2 := hg.keep HK
  have ho2 := ho.keep HK
  clear hc hfz cm hm hg ho h
  generalize w.setCell ⟨p, 0, none⟩ (.int .i64 0) = W0 at *
  have hX := (Ext.refl W0).alloc (.cells #[.agg #[.pointer (some ⟨p, 0, none⟩)]] 81)
  have hq0 := cell_of_heap HM.heap
  have cm0 := hm2.cells
  have hqa : Hid (∀ O, ∀ i, (W0.alloc O).cell? ⟨bm, i, none⟩ = (#[.pointer (some ⟨p, 0, none⟩)] : Array Value)[i]?) := Lib.hid fun O i => (((Ext.refl W0).alloc O).cell (p := ⟨bm, i, none⟩) hm2.lt).trans (hm2.cells i)
  have cma := hqa.out
  have fga := frozen_of_heap hg2.1
  have cg0 := hg2.cells
  have W0lt := hg2.lt
  have fgb : Hid (∀ O i, (W0.alloc O).frozen? ⟨bg, i, none⟩ = false) := Lib.hid fun O i => frozen_of_heap ((Below.block ((Ext.refl W0).alloc O) bg hg2.lt).trans hg2.1) i
  have cgb : Hid (∀ O i, (W0.alloc O).cell? ⟨bg, i, none⟩ = (#[v] : Array Value)[i]?) := Lib.hid fun O i => (((Ext.refl W0).alloc O).cell (p := ⟨bg, i, none⟩) hg2.lt).trans (hg2.cells i)
  have fgb' := fgb.out
  have cgb' := cgb.out
  have HMh0 := Lib.hid HM
  have HKh := Lib.hid HK
  have hmh0 := Lib.hid hm2
  have hgh0 := Lib.hid hg2
  have hoh0 := Lib.hid ho2
  clear HM HK hm2 hg2 ho2
  apply wpS_seq
  apply wpS_seq
  apply wpS_region
  simp [wpOpsS, go_sem, recoverD, hu, Exit.thenS]
  refine wpS_of_wp ?_
  go_wp2_with fail
  simp only [Exit.thenS]
  refine wpS_of_wp ?_
  go_wp2_with fail
  have hgp := hgh0.out.2
  have hmg : bm ≠ bg := fun e => by
    have h1 := hmh0.out.1
    rw [e, hgh0.out.1] at h1
    injection h1 with h1
    injection h1 with _ h2
    cases h2
  have hog : bo ≠ bg := fun e => by
    have h1 := hoh0.out.1
    rw [e, hgh0.out.1] at h1
    injection h1 with h1
    injection h1 with _ h2
    cases h2
  have HM1 := HMh0.out.setO hgp hB1 0 (.int .i64 0)
  have hm1 := hmh0.out.setO hmg hgp 0 (.int .i64 0)
  have ho1 := hoh0.out.setO hog hgp 0 (.int .i64 0)
  have hg1 := heap_setCell (i := 0) hgh0.out.1 (.int .i64 0)
  have hb1 : Below B w (W0.setCell ⟨bg, 0, none⟩ (.int .i64 0)) := Below.setCell HKh.out.below (by show B ≤ bg; exact hB1) _
  have HMh := Lib.hid (HM1.ext ((Ext.refl _).alloc (.cells #[.pointer (some ⟨p, 0, none⟩)] 81)))
  have hmh := Lib.hid (hm1.alloc (.cells #[.pointer (some ⟨p, 0, none⟩)] 81) HM1.lt)
  have hoh := Lib.hid (ho1.alloc (.cells #[.pointer (some ⟨p, 0, none⟩)] 81) HM1.lt)
  have hgh := Lib.hid ((Below.block ((Ext.refl _).alloc (.cells #[.pointer (some ⟨p, 0, none⟩)] 81)) bg (Array.getElem?_eq_some_iff.1 hg1).1).trans hg1)
  have hbel := Lib.hid (Below.alloc hb1 (by have := HM1.ge; have := HM1.lt; omega) (.cells #[.pointer (some ⟨p, 0, none⟩)] 81))
  clear hX hq0 cm0 hqa cma fga cg0 fgb cgb fgb' cgb' HMh0 hmh0 hgh0 hoh0 HKh HM1 hm1 ho1 hg1 hb1 hgp W0lt
  generalize (World.alloc (W0.setCell ⟨bg, 0, none⟩ (.int .i64 0)) (.cells #[.pointer (some ⟨p, 0, none⟩)] 81)) = W at *
  have hq := cell_of_heap HMh.out.heap
  have cm2 := hmh.out.cells
  have hI : Ints W vL L := IntRow.ints HMh.out.rowL
  obtain ⟨Al, cl, rfl, q1, q2⟩ := hI.slice
  have hIh := Lib.hid hI
  obtain ⟨Ac, cc, rfl, -, -, -⟩ := vals_row HMh.out.rowC
  obtain ⟨An, cn, rfl, -, -, -⟩ := vals_row HMh.out.rowN
  have hlen := HMh.out.locN
  have hplt := HMh.out.lt
  have hmlt := hmh.out.lt
  clear hI
  have hpo : p ≠ bo := fun e => hoh.out.2 (.inl e.symm)
  have hmo : bm ≠ bo := fun e => by
    have h1 := hmh.out.1
    rw [e, hoh.out.1] at h1
    injection h1 with h1
    injection h1 with _ h2
    cases h2
  have hlo : (Value.slice Al L.length cl).ownBlock ≠ some bo := row_not HMh.out.rowL hoh.out.1 (by decide)
  have hS : ∀ w', Near W bo 4 30 w' → ((∀ i, w'.cell? ⟨p, i, none⟩ = (#[.int .i64 0, vA, .slice Al L.length cl, .slice Ac S.acc.length cc, .slice An S.nts.length cn] : Array Value)[i]?) ∧ (∀ i, w'.cell? ⟨bm, i, none⟩ = (#[.pointer (some ⟨p, 0, none⟩)] : Array Value)[i]?) ∧ (∀ i, w'.cell? ⟨bo, i, none⟩ = (#[cellD w' bo 0, cellD w' bo 1, cellD w' bo 2, cellD w' bo 3] : Array Value)[i]?) ∧ (∀ i, w'.frozen? ⟨bo, i, none⟩ = false) ∧ Near W bo 4 30 w') := fun w' hx =>
    ⟨fun i => (hx.cell hplt hpo).trans (hq i), fun i => (hx.cell hmlt hmo).trans (cm2 i), hx.four, hx.frozen, hx⟩
  have hN : Near W bo 4 30 W := Near.new hoh.out.1 rfl
  go_region_held2 (fun w' => (∀ i, w'.cell? ⟨p, i, none⟩ = (#[.int .i64 0, vA, .slice Al L.length cl, .slice Ac S.acc.length cc, .slice An S.nts.length cn] : Array Value)[i]?) ∧ (∀ i, w'.cell? ⟨bm, i, none⟩ = (#[.pointer (some ⟨p, 0, none⟩)] : Array Value)[i]?) ∧ (∀ i, w'.cell? ⟨bo, i, none⟩ = (#[cellD w' bo 0, cellD w' bo 1, cellD w' bo 2, cellD w' bo 3] : Array Value)[i]?) ∧ (∀ i, w'.frozen? ⟨bo, i, none⟩ = false) ∧ Near W bo 4 30 w') (first | exact hS _ hN.drew | (refine hS _ ?_; (repeat refine Near.set ?_ _ _); exact hN.drew.ext h2))
    (first
      | (go_at_call 61
         refine (tshort_p Al cl L _ (hIh.out.ext (Ext.refl W).drew) q1 q2 (by omega)).mono ?_
         rintro e w' ⟨v', rfl, h1, h2⟩
         obtain ⟨As, cs, rfl, hs1, hs2⟩ := h1.ints.slice))
  obtain ⟨f1, f2⟩ := end_out (d := false) HMh.out hoh.out.1 ((Ext.refl W).drew.trans h2) h1
  have fg : bg ≠ bo := fun e => by
    have h1 := hgh.out
    rw [e, hoh.out.1] at h1
    injection h1 with h1
    injection h1 with _ h2
    cases h2
  refine ⟨rfl, FrameMode.panicking ({ v := .iface 81 (.agg #[.pointer (some ⟨p, 0, none⟩)]), recovered := true } :: older), (by cases c₀; simp only at hu; subst hu; rfl), .tuple #[], (by simp [results, Try.results60, go_sem]), rfl, rfl, ?_, ⟨_, _, _, f1, f2⟩, ?_⟩
  · rw [heap_setCell_ne _ _ fg, heap_setCell_ne _ _ fg, heap_setCell_ne _ _ fg, heap_setCell_ne _ _ fg]
    exact (Below.block ((Ext.refl W).drew.trans h2) bg (Array.getElem?_eq_some_iff.1 hgh.out).1).trans hgh.out
  · exact ((((hN.drew.ext h2).set _ _).set _ _).set _ _ |>.set _ _).below hbel.out hB2 (by have := HMh.out.ge; omega)
end Go.Proofs.Ytbphlkaihfbgeaa
/-
  Playing an operation whose result is an error's number.
-/
namespace Go.Proofs.Ytbphlkaihfbgeaa
open Go.RowKit Kv
set_option maxRecDepth 100000 in
set_option maxHeartbeats 1000000 in
theorem play_err (f : FuncId) (cap : Array Value) (T : Prog Int) (Al : Option Addr) (cl : Nat) (L : List Int) (Aa : Option Addr) (ca : Nat) (ans : List Int) (w : World) (h : Ints w (.slice Al L.length cl) L) (hl : L.length ≤ 32768) (ha : Ints w (.slice Aa ans.length ca) ans) (hn : ans.length ≤ maxAns)
    (hb : ∀ b, (Value.slice Aa ans.length ca).ownBlock = some b → b < w.heap.size)
    (hcf : ∀ (args : Array Value) (w : World), (callFunc f args).run Try.prog w = .ok (.enter f args) w)
    (hdo : ∀ w1 p, Ext w w1 → Plays w.heap.size w1 p (TS0 L ans) → Calls Try.prog f (#[.pointer (some ⟨p, 0, none⟩)] ++ cap) w1 (Post encI w.heap.size p w1 (T.run (TS0 L ans)))) :
    Calls Try.prog 12 #[.func (.func f) #[] cap, .slice Al L.length cl, .slice Aa ans.length ca] w fun e w' => ∃ v, e = .returned (.tuple #[.int .i64 ((T.run (TS0 L ans)).1.getD 0), v]) ∧ Outs w' v (T.run (TS0 L ans)).1.isSome (T.run (TS0 L ans)).2 ∧ Ext w w' := by
  obtain ⟨q1, q2⟩ : L.length ≤ cl ∧ cl ≤ 9223372036854775807 := by
    obtain ⟨A', c', he, q1, q2, _⟩ := h
    injection he with e1 e2 e3
    subst e3
    exact ⟨q1, q2⟩
  generalize hR : (fun e w' => ∃ v, e = Ending.returned (.tuple #[.int .i64 ((T.run (TS0 L ans)).1.getD 0), v]) ∧ Outs w' v (T.run (TS0 L ans)).1.isSome (T.run (TS0 L ans)).2 ∧ Ext w w') = R
  have hfin : ∀ v w', Outs w' v (T.run (TS0 L ans)).1.isSome (T.run (TS0 L ans)).2 → Ext w w' → R (.returned (.tuple #[.int .i64 ((T.run (TS0 L ans)).1.getD 0), v])) w' := fun v w' h1 h2 => hR ▸ ⟨v, rfl, h1, h2⟩
  clear hR
  have hmf : ∀ (fn : Fn) (first cap : Array Value) (w : World), (Instr.makeFunc fn first cap).run Try.prog w = .ok (.func fn first cap) w := fun _ _ _ _ => rfl
  go_enter_defers Try.func12, Try.ntmps12
  go_wp2_with fail
  obtain ⟨hx, g1, g2, g3, g4⟩ := four_boxes w (.cells #[.int .i64 0] 25) (.cells #[.bool false, .slice none 0 0, .slice none 0 0, .slice none 0 0] 30) (.cells #[.int .i64 1, .slice Aa ans.length ca, .slice none 0 0, .slice none 0 0, .slice none 0 0] 78) (.cells #[.pointer (some ⟨w.heap.size + 1 + 1, 0, none⟩)] 33)
  generalize hW : World.alloc (World.alloc (World.alloc (World.alloc w _) _) _) _ = W at *
  clear hW
  have hI := h.ext hx
  have cm := cell_of_heap g4
  have hN : Near W (w.heap.size + 1 + 1) 5 78 W := Near.new g3 rfl
  have hmlt := (Array.getElem?_eq_some_iff.1 g4).1
  have hmin : min (L.length : Int) 32768 = (L.length : Int) := by omega
  have hS : ∀ w', Near W (w.heap.size + 1 + 1) 5 78 w' → ((∀ i, w'.cell? ⟨w.heap.size + 1 + 1 + 1, i, none⟩ = (#[.pointer (some ⟨w.heap.size + 1 + 1, 0, none⟩)] : Array Value)[i]?) ∧ (∀ i, w'.cell? ⟨w.heap.size + 1 + 1, i, none⟩ = (#[cellD w' (w.heap.size + 1 + 1) 0, cellD w' (w.heap.size + 1 + 1) 1, cellD w' (w.heap.size + 1 + 1) 2, cellD w' (w.heap.size + 1 + 1) 3, cellD w' (w.heap.size + 1 + 1) 4] : Array Value)[i]?) ∧ (∀ i, w'.frozen? ⟨w.heap.size + 1 + 1, i, none⟩ = false)) := fun w' hx =>
    ⟨fun i => (hx.cell hmlt (by omega)).trans (cm i), hx.five, hx.frozen⟩
  go_region_held3 (fun w' => (∀ i, w'.cell? ⟨w.heap.size + 1 + 1 + 1, i, none⟩ = (#[.pointer (some ⟨w.heap.size + 1 + 1, 0, none⟩)] : Array Value)[i]?) ∧ (∀ i, w'.cell? ⟨w.heap.size + 1 + 1, i, none⟩ = (#[cellD w' (w.heap.size + 1 + 1) 0, cellD w' (w.heap.size + 1 + 1) 1, cellD w' (w.heap.size + 1 + 1) 2, cellD w' (w.heap.size + 1 + 1) 3, cellD w' (w.heap.size + 1 + 1) 4] : Array Value)[i]?) ∧ (∀ i, w'.frozen? ⟨w.heap.size + 1 + 1, i, none⟩ = false)) (first | exact hS _ hN.drew | (refine hS _ ?_; (repeat refine Near.set ?_ _ _); exact hN.drew.ext h2))
    (first
      | (go_at_call 59
         refine (clone_any Al cl L _ (hI.ext (Ext.refl W).drew) (by omega)).mono ?_
         rintro e w' ⟨v', rfl, h1, h2⟩
         obtain ⟨As, cs, rfl, hs1, hs2⟩ := h1.ints.slice))
  obtain ⟨hP, hH, hE⟩ := play_start (p := w.heap.size + 1 + 1) hx (by omega) g3 ((Ext.refl W).drew.trans h2) h1 hl ha hn hb
  have hbg := hH _ _ g1 (by omega)
  have hbo := hH _ _ g2 (by omega)
  have hbm := hH _ _ g4 (by omega)
  clear hH g1 g2 g3 g4 hS hN h1 h2 hI cm hmin hmlt
  rename_i hh
  clear hh
  have hT := hdo _ _ hE hP
  clear hdo
  generalize World.setCell _ _ _ = W2 at *
  have cbm := hbm.cells
  have hnf : (binOp .neq 35 (.func (.func f) #[] cap) .nilFunc).run Try.prog W2 = .ok (.bool true) W2 := by kernel_rfl
  go_wp2_with fail
  generalize hr : T.run (TS0 L ans) = r at hT hfin
  obtain ⟨o, S⟩ := r
  clear hr
  cases o with
  | some a =>
    refine hT.mono ?_
    rintro e w3 ⟨rfl, hP3, hK3⟩
    have hbg3 := hbg.keep hK3
    have hbo3 := hbo.keep hK3
    have hbm3 := hbm.keep hK3
    have hE3 : Ext w w3 := Below.trans hE hK3.below
    clear hbg hbo hbm hE hK3 hT hP cbm hnf
    have cbg := hbg3.cells
    have fbg := frozen_of_heap hbg3.1
    have cbo := hbo3.cells
    have fbo := frozen_of_heap hbo3.1
    go_wp2_with fail
    have fgo : w.heap.size ≠ w.heap.size + 1 := by omega
    have hg4 := heap_setCell (i := 0) hbg3.1 (.int .i64 a)
    have hP4 : Plays w.heap.size (w3.setCell ⟨w.heap.size, 0, none⟩ (.int .i64 a)) (w.heap.size + 1 + 1) S := by
      obtain ⟨q, vA, vL, vC, vN, L', hM⟩ := hP3
      exact ⟨q, vA, vL, vC, vN, L', hM.setO hbg3.2 (Nat.le_refl _) _ _⟩
    have hbm4 := hbm3.setO (b := w.heap.size) (by omega) hbg3.2 0 (.int .i64 a)
    have hbo4 := hbo3.setO (b := w.heap.size) (by omega) hbg3.2 0 (.int .i64 a)
    have hbg4 : HeldP (w3.setCell ⟨w.heap.size, 0, none⟩ (.int .i64 a)) (w.heap.size + 1 + 1) w.heap.size (.cells #[.int .i64 a] 25 (0, 0)) := ⟨hg4, fun h' => hbg3.2 ((ownR_same (heap_setCell_ne _ _ (by omega)) _).1 h')⟩
    have hE4 : Ext w (w3.setCell ⟨w.heap.size, 0, none⟩ (.int .i64 a)) := hE3.setCell (Nat.le_refl _) _
    clear hP3 hbg3 hbo3 hbm3 hE3 cbg fbg cbo fbo hg4
    generalize World.setCell _ _ _ = w4 at *
    generalize hbq : w.heap.size + 1 = bo at hbm4 hbo4 hP4 ⊢
    have fgo1 : w.heap.size ≠ bo := by omega
    have fgo2 : bo ≠ w.heap.size := by omega
    clear fgo
    have cbg := hbg4.cells
    have fbg := frozen_of_heap hbg4.1
    have cbo := hbo4.cells
    have fbo := frozen_of_heap hbo4.1
    go_region
    all_goals
      generalize hW5 : World.drew _ = W5
      have hsm : SameW w4 W5 := by
        rw [← hW5]
        repeat first | with_reducible exact SameW.refl _ | with_reducible refine SameW.drew2 ?_ | refine SameW.set ?_ hbg4.1 rfl | refine SameW.set ?_ hbo4.1 rfl
      clear hW5 cbg fbg cbo fbo
      have hP5 := hP4.ext hsm.ext
      have hbm5 := hbm4.ext hsm.ext hP4.lt
      have hbg5 := hbg4.ext hsm.ext (by rw [hbq]; exact hP4.lt)
      have hbo5 := hbo4.ext hsm.ext hP4.lt
      have hE5 : Ext w W5 := hE4.trans hsm.ext
      clear hP4 hbm4 hbg4 hbo4 hE4 hsm
      go_wp2_with fail
      refine leaves_cons (f := 60) (args := #[.pointer (some ⟨bo + 1 + 1, 0, none⟩), .pointer (some ⟨w.heap.size, 0, none⟩), .pointer (some ⟨bo, 0, none⟩)]) (by simp) (by simp [go_sem]) ?_
      refine (end_okE w.heap.size _ S _ _ _ _ _ hP5 hbm5 (by rw [← hbq]; exact hbg5) hbo5 (by omega)).mono ?_
      rintro e u' w4 ⟨rfl, rfl, hg, ⟨vC, vN, vs, ho, hO⟩, hB⟩
      have cg := cell_of_heap hg
      have co := cell_of_heap ho
      have cg0 := cg 0
      have co0 := co 0
      have co1 := co 1
      have co2 := co 2
      have co3 := co 3
      refine ⟨.tuple #[.int .i64 a, .agg #[.bool true, vC, vN, vs]], ?_, hfin _ _ hO (Below.trans hE5 hB)⟩
      simp [results, Try.results12, go_sem, cg0, co0, co1, co2, co3]
  | none =>
    refine hT.mono ?_
    rintro e w3 ⟨rfl, hP3, hK3⟩
    have hbg3 := hbg.keep hK3
    have hbo3 := hbo.keep hK3
    have hbm3 := hbm.keep hK3
    have hE3 : Ext w w3 := Below.trans hE hK3.below
    clear hbg hbo hbm hE hK3 hT hP cbm hnf
    refine leaves_cons (f := 60) (args := #[.pointer (some ⟨w.heap.size + 1 + 1 + 1, 0, none⟩), .pointer (some ⟨w.heap.size, 0, none⟩), .pointer (some ⟨w.heap.size + 1, 0, none⟩)]) (by simp) (by simp [go_sem]) ?_
    refine (end_stopE w.heap.size _ S _ _ _ _ [] _ hP3 hbm3 hbg3 hbo3 (Nat.le_refl _) (by omega)).mono ?_
    rintro e u' w4 ⟨rfl, rfl, hg, ⟨vC, vN, vs, ho, hO⟩, hB⟩
    have cg := cell_of_heap hg
    have co := cell_of_heap ho
    have cg0 := cg 0
    have co0 := co 0
    have co1 := co 1
    have co2 := co 2
    have co3 := co 3
    refine ⟨.tuple #[.int .i64 0, .agg #[.bool false, vC, vN, vs]], ?_, hfin _ _ hO (Below.trans hE3 hB)⟩
    simp [results, Try.results12, go_sem, cg0, co0, co1, co2, co3]
    trace_state
end Go.Proofs.Ytbphlkaihfbgeaa
/-
  Accesses, notes and wants compared.
-/
namespace Go.Proofs.Ytbphlkaihfbgeaa
open Go.RowKit Kv
theorem eqIn_acc (a b c a' b' c' : Int) (w : World) : (Op.equalIn 10000 54 (.agg #[.int .i64 a, .int .i64 b, .int .i64 c]) (.agg #[.int .i64 a', .int .i64 b', .int .i64 c'])).run Try.prog w = .ok (decide (a = a' ∧ b = b' ∧ c = c')) w := by
  rw [run_equalIn_struct w 9999 54 _ _ (by kernel_rfl) (by kernel_rfl)]
  have hu : Try.prog.underlying 3 = some (.int .i64) := Try.underlying3
  simp only [Program.fieldsOf, Try.underlying54, Op.eqFields]
  simp [go_sem, run_equalIn_int, hu]
  by_cases h0 : a = a' <;> by_cases h1 : b = b' <;> by_cases h2 : c = c' <;> simp [h0, h1, h2]
@[go_sem] theorem eql_acc (a b c a' b' c' : Int) (w : World) : (binOp .eql 54 (.agg #[.int .i64 a, .int .i64 b, .int .i64 c]) (.agg #[.int .i64 a', .int .i64 b', .int .i64 c'])).run Try.prog w = .ok (.bool (decide (a = a' ∧ b = b' ∧ c = c'))) w := by
  rw [run_eql_struct, eqIn_acc]; rfl
@[go_sem] theorem neq_acc (a b c a' b' c' : Int) (w : World) : (binOp .neq 54 (.agg #[.int .i64 a, .int .i64 b, .int .i64 c]) (.agg #[.int .i64 a', .int .i64 b', .int .i64 c'])).run Try.prog w = .ok (.bool (!decide (a = a' ∧ b = b' ∧ c = c'))) w := by
  rw [run_neq_struct, eqIn_acc]; rfl
theorem eqIn_nt (a b a' b' : Int) (w : World) : (Op.equalIn 10000 123 (.agg #[.int .i64 a, .int .i64 b]) (.agg #[.int .i64 a', .int .i64 b'])).run Try.prog w = .ok (decide (a = a' ∧ b = b')) w := by
  rw [run_equalIn_struct w 9999 123 _ _ (by kernel_rfl) (by kernel_rfl)]
  have hu : Try.prog.underlying 3 = some (.int .i64) := Try.underlying3
  simp only [Program.fieldsOf, Try.underlying123, Op.eqFields]
  simp [go_sem, run_equalIn_int, hu]
  by_cases h0 : a = a' <;> by_cases h1 : b = b' <;> simp [h0, h1]
@[go_sem] theorem eql_nt (a b a' b' : Int) (w : World) : (binOp .eql 123 (.agg #[.int .i64 a, .int .i64 b]) (.agg #[.int .i64 a', .int .i64 b'])).run Try.prog w = .ok (.bool (decide (a = a' ∧ b = b'))) w := by
  rw [run_eql_struct, eqIn_nt]; rfl
@[go_sem] theorem neq_nt (a b a' b' : Int) (w : World) : (binOp .neq 123 (.agg #[.int .i64 a, .int .i64 b]) (.agg #[.int .i64 a', .int .i64 b'])).run Try.prog w = .ok (.bool (!decide (a = a' ∧ b = b'))) w := by
  rw [run_neq_struct, eqIn_nt]; rfl
theorem eqIn_want (a b a' b' : Int) (w : World) : (Op.equalIn 10000 91 (.agg #[.int .i64 a, .int .i64 b]) (.agg #[.int .i64 a', .int .i64 b'])).run Try.prog w = .ok (decide (a = a' ∧ b = b')) w := by
  rw [run_equalIn_struct w 9999 91 _ _ (by kernel_rfl) (by kernel_rfl)]
  have hu : Try.prog.underlying 3 = some (.int .i64) := Try.underlying3
  simp only [Program.fieldsOf, Try.underlying91, Op.eqFields]
  simp [go_sem, run_equalIn_int, hu]
  by_cases h0 : a = a' <;> by_cases h1 : b = b' <;> simp [h0, h1]
@[go_sem] theorem eql_want (a b a' b' : Int) (w : World) : (binOp .eql 91 (.agg #[.int .i64 a, .int .i64 b]) (.agg #[.int .i64 a', .int .i64 b'])).run Try.prog w = .ok (.bool (decide (a = a' ∧ b = b'))) w := by
  rw [run_eql_struct, eqIn_want]; rfl
@[go_sem] theorem neq_want (a b a' b' : Int) (w : World) : (binOp .neq 91 (.agg #[.int .i64 a, .int .i64 b]) (.agg #[.int .i64 a', .int .i64 b'])).run Try.prog w = .ok (.bool (!decide (a = a' ∧ b = b'))) w := by
  rw [run_neq_struct, eqIn_want]; rfl
end Go.Proofs.Ytbphlkaihfbgeaa
/-
  Two lists of ints compared by the document.
-/
namespace Go.Proofs.Ytbphlkaihfbgeaa
open Go.RowKit Kv
theorem take_snoc_eq {a b : List Int} {k : Nat} (ha : k < a.length) (hb : k < b.length) (h : a.take k = b.take k) : (a.take (k + 1) = b.take (k + 1)) ↔ a.getD k 0 = b.getD k 0 := by
  rw [List.take_succ_eq_append_getElem ha, List.take_succ_eq_append_getElem hb, h]
  rw [List.append_cancel_left_eq]
  simp [List.getD, List.getElem?_eq_getElem ha, List.getElem?_eq_getElem hb]
theorem ints_r (v1 v2 : Value) (a b : List Int) (w : World) (h1 : Ints w v1 a) (h2 : Ints w v2 b) :
    Calls Try.prog 70 #[v1, v2] w fun e w' => e = .returned (.bool (decide (a = b))) ∧ Drew w w' := by
  obtain ⟨A, c, rfl, q1, q2⟩ := h1.slice
  obtain ⟨B, d, rfl, q3, q4⟩ := h2.slice
  by_cases hl : a.length = b.length
  · have H : Hid (a.length = b.length) := hl
    rw [← hl] at h2 q3 ⊢
    have l1 : a.length ≤ 9223372036854775807 := by omega
    clear hl
    go_enter Try.func70, Try.ntmps70
    go_wp2_with fail
    go_loopw [5] (fun i wr => ∃ j : Nat, i = .int .i64 j ∧ j ≤ a.length ∧ Hid (a.take j = b.take j) ∧ Drew w wr) (fun i _ => a.length - (intOf i).toNat)
    case atStart => exact ⟨0, rfl, by omega, by simp [Hid], Drew.rfl' _⟩
    case round =>
      obtain ⟨j, rfl, hj, ht, hd⟩ := hrel
      by_cases hlt : j < a.length
      · obtain ⟨b1, o1, rfl, hb1, hc1⟩ := h1.at_ hlt
        obtain ⟨b2, o2, rfl, hb2, hc2⟩ := h2.at_ hlt
        obtain ⟨n, rfl⟩ := hd
        have hlt2 : j < b.length := by rw [← H.out]; exact hlt
        have T := Lib.hid (take_snoc_eq hlt hlt2 ht.out)
        rw [List.getD_eq_getElem?_getD, List.getElem?_eq_getElem hlt, Option.getD_some] at hc1
        rw [List.getD_eq_getElem?_getD, List.getElem?_eq_getElem hlt2, Option.getD_some] at hc2
        clear h1 h2
        by_cases hx : a[j] = b[j]
        · have d1 : (a[j] == b[j]) = true := by rw [beq_iff_eq]; exact hx
          have d2 : (a[j] != b[j]) = false := by rw [bne_eq_false_iff_eq]; exact hx
          have HX := Lib.hid hx
          clear hx
          go_wp2_with fail
          go_quiet (fail)
          go_wp2_with fail
          refine ⟨⟨j + 1, by go_num, by omega, T.out.2 (by simpa [List.getD, hlt, hlt2] using HX.out), Drew.mk' _ _⟩, ?_⟩
          simp [intOf]; omega
        · have d1 : (a[j] == b[j]) = false := by rw [beq_eq_false_iff_ne]; exact hx
          have d2 : (a[j] != b[j]) = true := by rw [bne_iff_ne]; exact hx
          have HX := Lib.hid hx
          clear hx
          go_wp2_with fail
          go_quiet (fail)
          go_wp2_with fail
          go_ret
          refine ⟨ret_bool ?_, (Drew.mk' _ _).trans (Drew.mk' _ _)⟩
          symm
          rw [decide_eq_false_iff_not]
          rintro rfl
          exact HX.out rfl
      · obtain rfl : j = a.length := by omega
        have E : Hid (a = b) := by
          have := ht.out
          rw [List.take_length, H.out, List.take_length] at this
          exact this
        go_wp2_with fail
        go_ret
        refine ⟨ret_bool ?_, hd⟩
        simp [E.out]
  · have d1 : ((a.length : Int) != (b.length : Int)) = true := by rw [bne_iff_ne]; omega
    have H : Hid (decide (a = b) = false) := by
      unfold Hid
      rw [decide_eq_false_iff_not]
      intro he
      exact hl (by rw [he])
    clear hl
    go_enter Try.func70, Try.ntmps70
    go_wp2_with fail
    go_ret
    exact ⟨ret_bool H.out.symm, Drew.rfl' _⟩
end Go.Proofs.Ytbphlkaihfbgeaa
/-
  Two Outs compared by the document.
-/
namespace Go.Proofs.Ytbphlkaihfbgeaa
open Go.RowKit Kv
end Go.Proofs.Ytbphlkaihfbgeaa
/-
  Plain mathematics: operations that ask for an access at least; what is left of the answers.
-/
namespace Kv
/-- An operation that asks for an access on each way. -/
inductive Prog.Asks {α : Type} : Prog α → Prop
  | read (c : Int) (k : Int → Prog α) : Asks (.read c k)
  | write (c v : Int) (k : Unit → Prog α) : Asks (.write c v k)
  | get (i : Int) {k : Int → Prog α} : (∀ x, Asks (k x)) → Asks (.get i k)
  | set (i v : Int) {k : Unit → Prog α} : Asks (k ()) → Asks (.set i v k)
  | note (m : Int) {k : Unit → Prog α} : Asks (k ()) → Asks (.note m k)
theorem Prog.Asks.bind {α β : Type} {p : Prog α} (h : p.Asks) (f : α → Prog β) : (p.bind f).Asks := by
  induction h with
  | read c k => exact .read _ _
  | write c v k => exact .write _ _ _
  | get i _ ih => exact .get i fun x => ih x
  | set i v _ ih => exact .set i v ih
  | note m _ ih => exact .note m ih
theorem Prog.Asks.then {α β : Type} {f : α → Prog β} (h : ∀ a, (f a).Asks) : ∀ p : Prog α, (p.bind f).Asks
  | .ret a => h a
  | .read _ _ => .read _ _
  | .write _ _ _ => .write _ _ _
  | .get i k => .get i fun x => Asks.then h (k x)
  | .set i v k => .set i v (Asks.then h (k ()))
  | .note m k => .note m (Asks.then h (k ()))
theorem Prog.run_len {α : Type} (p : Prog α) (S : TS) : S.acc.length ≤ (p.run S).2.acc.length := by
  obtain ⟨l, h⟩ := Prog.run_acc p S
  rw [h]; simp
/-- Behind such an operation there is an access more. -/
theorem Prog.Asks.run {α : Type} {p : Prog α} (h : p.Asks) : ∀ S : TS, S.acc.length < (p.run S).2.acc.length := by
  induction h with
  | read c k =>
    intro S
    simp only [Prog.run]
    cases S.next with
    | none => simp [TS.put]
    | some v => have := Prog.run_len (k v) (S.put ⟨1, c, 0⟩); simp [TS.put] at this ⊢; omega
  | write c v k =>
    intro S
    simp only [Prog.run]
    cases S.next with
    | none => simp [TS.put]
    | some _ => have := Prog.run_len (k ()) (S.put ⟨2, c, v⟩); simp [TS.put] at this ⊢; omega
  | get i _ ih => intro S; exact ih _ _
  | set i v _ ih => intro S; have := ih (S.upd i v); rw [TS.upd_acc] at this; exact this
  | note m _ ih => intro S; exact ih (S.noted m)
/-- How many answers are left. -/
def TS.left (S : TS) : Nat := S.ans.length - S.acc.length
theorem Prog.run_left {α : Type} (p : Prog α) (S : TS) : (p.run S).2.left ≤ S.left := by
  have h1 := Prog.run_ans p S
  have h2 := Prog.run_len p S
  unfold TS.left
  rw [h1]; omega
theorem Prog.Asks.left {α : Type} {p : Prog α} (h : p.Asks) {S S1 : TS} {a : α} (hr : p.run S = (some a, S1)) (hl : S1.acc.length ≤ S1.ans.length) : S1.left < S.left := by
  have h1 := Prog.run_ans p S
  have h2 := h.run S
  rw [hr] at h1 h2
  simp only at h1 h2
  unfold TS.left
  rw [← h1]; omega
theorem asks_rd (c : Int) : (rd c).Asks := .read _ _
theorem asks_wr (c v : Int) : (wr c v).Asks := .write _ _ _
theorem asks_trompR (b l : Int) : (trompR b l).Asks := (asks_rd _).bind _
theorem asks_slotsR (b l : Int) : (slotsR b l).Asks := (asks_trompR _ _).bind _
theorem asks_slotsW (b l v : Int) : (slotsW b l v).Asks := (asks_trompR _ _).bind _
theorem asks_tableR (b l n w top me : Int) (h : me ≠ w) : (tableR b l n w top me).Asks := by
  unfold tableR
  rw [if_neg h]
  exact (asks_slotsR _ _).bind _
theorem asks_manyRs (b l n top me : Int) (k : Nat) (j s v : Int) : (manyRs b l n top me (k + 2) j s v).Asks := by
  by_cases h : me = j
  · unfold manyRs
    refine Prog.Asks.then (fun y => ?_) _
    split
    · exact (asks_tableR _ _ _ _ _ _ (by omega)).bind _
    · exact (asks_tableR _ _ _ _ _ _ (by omega)).bind _
  · exact (asks_tableR _ _ _ _ _ _ h).bind _
/-- A register that is read by accesses. -/
def Reg.told (r : Reg) (me : Int) : Prop := r.kind = 1 ∨ (r.kind = 6 ∧ me ≠ r.wr) ∨ (r.kind = 7 ∧ 2 ≤ r.n)
theorem asks_regR (r : Reg) (me : Int) (h : r.told me) : (regR r me).Asks := by
  unfold regR
  rcases h with h | ⟨h, h2⟩ | ⟨h, h2⟩
  · rw [if_pos h]; exact asks_rd _
  · rw [if_neg (by omega), if_pos h]; exact asks_tableR _ _ _ _ _ _ h2
  · rw [if_neg (by omega), if_neg (by omega)]
    unfold manyR
    obtain ⟨k, hk⟩ : ∃ k : Nat, r.n.toNat = k + 2 := ⟨r.n.toNat - 2, by omega⟩
    rw [hk]
    exact (asks_manyRs _ _ _ _ _ _ _ _ _).bind _
end Kv
/-
  Plain mathematics of plans: which registers a list of wants gets.
-/
namespace Kv
structure Want where
  wr : Int
  top : Int
def topM (t : Int) : Int := if clamp t 255 = 0 then 1 else clamp t 255
def kindM (mode w : Int) : Int := if mode = 2 then (if 0 ≤ w then 6 else 7) else 1
def regOf (n mode b l : Int) (q : Want) : Reg := ⟨kindM mode q.wr, b, l, n, q.wr, -1, topM q.top⟩
def cellsM (r : Reg) : Int := if r.kind = 1 then 1 else if r.kind = 6 then 16 * (r.n - 1) * (r.n - 1) else 16 * (r.n - 1) * (r.n - 1) * r.n
def localsM (r : Reg) : Int := if r.kind = 1 then 0 else if r.kind = 6 then 2 + 18 * (r.n - 1) * (r.n - 1) else r.n * (2 + 18 * (r.n - 1) * (r.n - 1))
def fineM (r : Reg) : Bool := decide (r.base ≤ 32768) && decide (r.loc ≤ 32768) && decide (r.base + cellsM r ≤ 32768) && decide (r.loc + localsM r ≤ 32768)
def layFrom (n mode : Int) : List Want → Int → Int → Option (List Reg)
  | [], _, _ => some []
  | q :: l, b, c => if fineM (regOf n mode b c q) then (layFrom n mode l (b + cellsM (regOf n mode b c q)) (c + localsM (regOf n mode b c q))).map (regOf n mode b c q :: ·) else none
def argsM (l : List Want) (n mode b c : Int) : Bool := decide (1 ≤ mode ∧ mode ≤ 2 ∧ 1 ≤ n ∧ n ≤ 8 ∧ 0 ≤ b ∧ 0 ≤ c) && l.all fun q => decide (-1 ≤ q.wr ∧ q.wr < n)
/-- The registers, or none. -/
def layM (l : List Want) (n mode b c : Int) : Option (List Reg) := if argsM l n mode b c then layFrom n mode l b c else none
theorem topM_bd (t : Int) : 1 ≤ topM t ∧ topM t ≤ 255 := by
  unfold topM clamp within
  split <;> omega
theorem cells_nat (r : Reg) (h : 1 ≤ r.n ∧ r.n ≤ 8) : 0 ≤ cellsM r ∧ cellsM r ≤ 6272 ∧ 0 ≤ localsM r ∧ localsM r ≤ 7072 := by
  obtain ⟨h1, h2⟩ := h
  have : r.n = 1 ∨ r.n = 2 ∨ r.n = 3 ∨ r.n = 4 ∨ r.n = 5 ∨ r.n = 6 ∨ r.n = 7 ∨ r.n = 8 := by omega
  unfold cellsM localsM
  rcases this with h | h | h | h | h | h | h | h <;> rw [h] <;> (split <;> (try split) <;> omega)
/-- What a laid register is. -/
structure Laid (n mode : Int) (q : Want) (r : Reg) : Prop where
  is : ∃ b c, r = regOf n mode b c q ∧ 0 ≤ b ∧ 0 ≤ c
  fine : fineM r = true
theorem layFrom_laid (n mode : Int) (hn : 1 ≤ n ∧ n ≤ 8) : ∀ (l : List Want) (b c : Int) (rs : List Reg), 0 ≤ b → 0 ≤ c → layFrom n mode l b c = some rs →
    rs.length = l.length ∧ ∀ (i : Nat) q, l[i]? = some q → ∃ r, rs[i]? = some r ∧ Laid n mode q r
  | [], b, c, rs, _, _, h => by
    obtain rfl : [] = rs := by simpa [layFrom] using h
    exact ⟨rfl, fun i q hq => by simp at hq⟩
  | q :: l, b, c, rs, hb, hc, h => by
    unfold layFrom at h
    split at h
    · rename_i hf
      have hz := cells_nat (regOf n mode b c q) hn
      cases hr : layFrom n mode l (b + cellsM (regOf n mode b c q)) (c + localsM (regOf n mode b c q)) with
      | none => rw [hr] at h; cases h
      | some rs' =>
        rw [hr] at h
        obtain rfl : regOf n mode b c q :: rs' = rs := by simpa using h
        obtain ⟨e, g⟩ := layFrom_laid n mode hn l _ _ rs' (by omega) (by omega) hr
        refine ⟨by simp [e], fun i q' hq => ?_⟩
        cases i with
        | zero =>
          obtain rfl : q = q' := by simpa using hq
          exact ⟨_, rfl, ⟨b, c, rfl, hb, hc⟩, hf⟩
        | succ i => exact g i q' (by simpa using hq)
    · cases h
theorem layM_args {l : List Want} {n mode b c : Int} {rs : List Reg} (h : layM l n mode b c = some rs) : (1 ≤ mode ∧ mode ≤ 2 ∧ 1 ≤ n ∧ n ≤ 8 ∧ 0 ≤ b ∧ 0 ≤ c) ∧ (∀ q ∈ l, -1 ≤ q.wr ∧ q.wr < n) ∧ layFrom n mode l b c = some rs := by
  unfold layM at h
  split at h
  · rename_i ha
    unfold argsM at ha
    rw [Bool.and_eq_true, decide_eq_true_eq, List.all_eq_true] at ha
    exact ⟨ha.1, fun q hq => by simpa using ha.2 q hq, h⟩
  · cases h
theorem layM_len {l : List Want} {n mode b c : Int} {rs : List Reg} (h : layM l n mode b c = some rs) : rs.length = l.length := by
  obtain ⟨⟨_, _, hn1, hn2, hb, hc⟩, _, hf⟩ := layM_args h
  exact (layFrom_laid n mode ⟨hn1, hn2⟩ l b c rs hb hc hf).1
theorem layM_at {l : List Want} {n mode b c : Int} {rs : List Reg} (h : layM l n mode b c = some rs) {i : Nat} {q : Want} (hq : l[i]? = some q) : ∃ r, rs[i]? = some r ∧ Laid n mode q r := by
  obtain ⟨⟨_, _, hn1, hn2, hb, hc⟩, _, hf⟩ := layM_args h
  exact (layFrom_laid n mode ⟨hn1, hn2⟩ l b c rs hb hc hf).2 i q hq
theorem Laid.ok {n mode : Int} {q : Want} {r : Reg} (h : Laid n mode q r) (hn : 1 ≤ n ∧ n ≤ 8) (hw : -1 ≤ q.wr ∧ q.wr < n) : r.ok ∧ r.n = n ∧ r.wr = q.wr := by
  obtain ⟨⟨b, c, rfl, hb, hc⟩, hf⟩ := h
  have hf2 : b ≤ 32768 ∧ c ≤ 32768 := by
    unfold fineM regOf at hf
    simp only [Bool.and_eq_true, decide_eq_true_eq] at hf
    omega
  refine ⟨⟨?_, ⟨hb, hf2.1⟩, ⟨hc, hf2.2⟩, hn, fun hk => ?_⟩, rfl, rfl⟩
  · show kindM mode q.wr = 1 ∨ kindM mode q.wr = 6 ∨ kindM mode q.wr = 7
    unfold kindM
    split
    · split <;> omega
    · omega
  · show 0 ≤ q.wr ∧ q.wr < n
    have hk : kindM mode q.wr = 6 := hk
    unfold kindM at hk
    split at hk
    · split at hk <;> omega
    · omega
end Kv
/-
  Registers of the document: the list of a table's readers, and who tells whom.
-/
namespace Go.Proofs.Ytbphlkaihfbgeaa
open Go.RowKit Kv
theorem tellsD_bd (k a _b : Int) (hk : 1 ≤ k ∧ k ≤ 7) (ha : 0 ≤ a ∧ a < k) : 0 ≤ a * (k - 1) ∧ a * (k - 1) ≤ 36 := by
  have h1 : 0 ≤ a * (k - 1) := Int.mul_nonneg (by omega) (by omega)
  have h2 : a * (k - 1) ≤ 6 * 6 := Int.mul_le_mul (by omega) (by omega) (by omega) (by omega)
  omega
def stepD (i j : Int) : Int := if j > i then j - 1 else j
theorem tells_eq (k a b : Int) : tellsM k a b = k + a * (k - 1) + stepD a b := rfl
theorem stepD_0 (i : Nat) : stepD i 0 = 0 := by unfold stepD; rw [if_neg (by omega)]
theorem stepD_same (i : Nat) : stepD i ((i : Int) + 1) = stepD i i := by unfold stepD; rw [if_pos (by omega), if_neg (by omega)]; omega
theorem stepD_next (i j : Nat) (h : i ≠ j) : stepD i ((j : Int) + 1) = stepD i j + 1 := by unfold stepD; split <;> split <;> omega
theorem stepD_end (i k : Nat) (h : i < k) : stepD i k = (k : Int) - 1 := by unfold stepD; rw [if_pos (by omega)]
theorem stepD_bd (i j : Nat) : 0 ≤ stepD i j ∧ stepD i j ≤ j := by unfold stepD; split <;> omega
end Go.Proofs.Ytbphlkaihfbgeaa
/-
  Registers of the document: a table written.
-/
namespace Go.Proofs.Ytbphlkaihfbgeaa
open Go.RowKit Kv
theorem ranks_next (k a : Nat) : ranksFrom (-1) (k + 1) a = (a : Int) :: ranksFrom (-1) k ((a + 1 : Nat) : Int) := by
  show (if (a : Int) = -1 then _ else _) = _
  rw [if_neg (by omega)]
  rfl
theorem forP_cons {σ : Type} (T : Int → σ → Prog σ) (a : Int) (l : List Int) (x : σ) : forP T (a :: l) x = (T a x).bind fun y => forP T l y := rfl
end Go.Proofs.Ytbphlkaihfbgeaa
/-
  Registers of the document: a table read.
-/
namespace Go.Proofs.Ytbphlkaihfbgeaa
open Go.RowKit Kv
theorem ranks_but (q k a : Nat) (h : a = q) : ranksFrom q (k + 1) a = ranksFrom q k ((a + 1 : Nat) : Int) := by
  show (if (a : Int) = q then _ else _) = _
  rw [if_pos (by omega)]
  rfl
theorem ranks_not (q k a : Nat) (h : a ≠ q) : ranksFrom q (k + 1) a = (a : Int) :: ranksFrom q k ((a + 1 : Nat) : Int) := by
  show (if (a : Int) = q then _ else _) = _
  rw [if_neg (by omega)]
  rfl
theorem tells_le (k a b : Nat) (hk : 1 ≤ k ∧ k ≤ 7) (ha : a < k) (hb : b < k) : 0 ≤ tellsM k a b ∧ tellsM k a b ≤ 60 := by
  have h1 := tellsD_bd k a b (by omega) (by omega)
  have h2 := stepD_bd a b
  rw [tells_eq]
  omega
end Go.Proofs.Ytbphlkaihfbgeaa
/-
  Registers of the document: what a number that all write is made of, and what all of them tell.
-/
namespace Kv
open Go Go.RowKit
/-- What all numbers from j on tell, behind what was told. -/
def allA (b l n top me : Int) : Nat → Int → List Int → Prog (List Int)
  | 0, _, out => .ret out
  | k + 1, j, out => (tableR (manyB b n j) (manyL l n j) n j (manyTop top) me).bind fun y => allA b l n top me k (j + 1) (out ++ [y])
def stepM (t : Int) (q : Int × Int) (y : Int) : Int × Int := if q.1 ≤ unHi y t then (unHi y t, unLo y t) else q
theorem allA_many (b l n top me : Int) : ∀ (k : Nat) (j : Int) (out : List Int),
    ((allA b l n top me k j out).bind fun l => .ret (l.foldl (stepM (clamp top 255)) (0, 0))) = manyRs b l n top me k j (out.foldl (stepM (clamp top 255)) (0, 0)).1 (out.foldl (stepM (clamp top 255)) (0, 0)).2
  | 0, j, out => rfl
  | k + 1, j, out => by
    unfold allA manyRs
    rw [Prog.bind_assoc]
    congr 1
    funext y
    rw [allA_many b l n top me k (j + 1) (out ++ [y]), List.foldl_append]
    simp only [List.foldl_cons, List.foldl_nil]
    generalize out.foldl (stepM (clamp top 255)) (0, 0) = q
    unfold stepM
    split <;> rfl
end Kv
namespace Go.Proofs.Ytbphlkaihfbgeaa
open Go.RowKit Kv
end Go.Proofs.Ytbphlkaihfbgeaa
/-
  Registers of the document: what all numbers tell, one behind the other.
-/
namespace Go.Proofs.Ytbphlkaihfbgeaa
open Go.RowKit Kv
/-- A row of ints beside what the document's Mem owns. -/
def RowX (n0 p : Nat) (w : World) (v : Value) (l : List Int) : Prop := w.ownsRow n0 3 1 v l.length (l.map (Value.int .i64)) ∧ ∀ g, v.ownBlock = some g → ¬ ownR [3, 4, 5] w p g
section
variable {n0 B p : Nat} {w w' w1 w0 : World} {o : Bool} {S : TS} {v : Value} {l : List Int}
theorem RowX.nil (n0 p : Nat) (w : World) : RowX n0 p w (.slice none 0 0) [] := ⟨World.ownsRow_nil _ _ _ _, fun g h => by simp [Value.ownBlock] at h⟩
theorem RowX.keep (h : RowX n0 p w v l) (k : KeepR B p w w') : RowX n0 p w' v l := by
  obtain ⟨⟨h1, h2⟩, h3⟩ := h
  rcases h2 with h2 | ⟨g, cap, cur, rfl, hg, hh, r1, r2, r3, r4⟩
  · exact ⟨⟨h1, .inl h2⟩, fun g e => by rw [h2.1] at e; simp [Value.ownBlock] at e⟩
  · obtain ⟨k1, k2⟩ := k.rest g (Array.getElem?_eq_some_iff.1 hh).1 (h3 g rfl)
    exact ⟨⟨h1, .inr ⟨g, cap, cur, rfl, hg, k1.trans hh, r1, r2, r3, r4⟩⟩, fun b e => by simp only [Value.ownBlock, Option.some.injEq] at e; subst e; exact k2⟩
end
end Go.Proofs.Ytbphlkaihfbgeaa
/-
  Registers of the document: a number that all write, written and read.
-/
namespace Go.Proofs.Ytbphlkaihfbgeaa
open Go.RowKit Kv
theorem pack_clamp255 (a v top : Int) : packI a (clamp v (clamp top 255)) (clamp top 255) = packI a v (clamp top 255) := by
  have h : 0 ≤ clamp top 255 ∧ clamp top 255 ≤ 255 := by unfold clamp within; omega
  generalize clamp top 255 = T at *
  unfold packI
  congr 1
  unfold room clamp within
  omega
end Go.Proofs.Ytbphlkaihfbgeaa
/-
  Registers of the document: writing and reading one, of whichever kind.
-/
namespace Go.Proofs.Ytbphlkaihfbgeaa
open Go.RowKit Kv
end Go.Proofs.Ytbphlkaihfbgeaa
/-
  The splitter: passing it, by the document.
-/
namespace Kv
open Go Go.RowKit
/-- Passing a splitter of two registers. -/
def passM (x y : Reg) (me : Int) : Prog Int :=
  (regW x me (me + 1)).bind fun _ => (regR y me).bind fun v => if v ≠ 0 then .ret 1 else
    (regW y me 1).bind fun _ => (regR x me).bind fun v => if v = me + 1 then .ret 0 else .ret 2
end Kv
namespace Go.Proofs.Ytbphlkaihfbgeaa
open Go.RowKit Kv
def regVals (r : Reg) : List Value := [.int .i64 r.kind, .int .i64 r.base, .int .i64 r.loc, .int .i64 r.n, .int .i64 r.wr, .int .i64 r.rd, .int .i64 r.top]
/-- Registers in a row at the head of a block beside what a Mem owns. -/
structure RegsAt (ix : List Nat) (w : World) (p b : Nat) (l : List Reg) : Prop where
  lt : b < w.heap.size
  own : ¬ ownR ix w p b
  cells : ∀ j u, (l.flatMap regVals)[j]? = some u → w.cell? ⟨b, j, none⟩ = some u
theorem RegsAt.keep {ix : List Nat} {B p b : Nat} {w w' : World} {l : List Reg} (h : RegsAt ix w p b l) (k : Keep ix B p w w') : RegsAt ix w' p b l := by
  obtain ⟨h1, h2⟩ := k.rest b h.lt h.own
  exact ⟨Nat.lt_of_lt_of_le h.lt k.size, h2, fun j u hu => (World.cell?_of_block (w := w) (a := ⟨b, j, none⟩) h1).trans (h.cells j u hu)⟩
theorem RegsAt.two {ix : List Nat} {p b : Nat} {w : World} {x y : Reg} (h : RegsAt ix w p b [x, y]) :
    (w.cell? ⟨b, 0, none⟩ = some (.int .i64 x.kind) ∧ w.cell? ⟨b, 1, none⟩ = some (.int .i64 x.base) ∧ w.cell? ⟨b, 2, none⟩ = some (.int .i64 x.loc) ∧ w.cell? ⟨b, 3, none⟩ = some (.int .i64 x.n) ∧ w.cell? ⟨b, 4, none⟩ = some (.int .i64 x.wr) ∧ w.cell? ⟨b, 5, none⟩ = some (.int .i64 x.rd) ∧ w.cell? ⟨b, 6, none⟩ = some (.int .i64 x.top)) ∧
      (w.cell? ⟨b, 7, none⟩ = some (.int .i64 y.kind) ∧ w.cell? ⟨b, 8, none⟩ = some (.int .i64 y.base) ∧ w.cell? ⟨b, 9, none⟩ = some (.int .i64 y.loc) ∧ w.cell? ⟨b, 10, none⟩ = some (.int .i64 y.n) ∧ w.cell? ⟨b, 11, none⟩ = some (.int .i64 y.wr) ∧ w.cell? ⟨b, 12, none⟩ = some (.int .i64 y.rd) ∧ w.cell? ⟨b, 13, none⟩ = some (.int .i64 y.top)) :=
  ⟨⟨h.cells 0 _ rfl, h.cells 1 _ rfl, h.cells 2 _ rfl, h.cells 3 _ rfl, h.cells 4 _ rfl, h.cells 5 _ rfl, h.cells 6 _ rfl⟩, ⟨h.cells 7 _ rfl, h.cells 8 _ rfl, h.cells 9 _ rfl, h.cells 10 _ rfl, h.cells 11 _ rfl, h.cells 12 _ rfl, h.cells 13 _ rfl⟩⟩
end Go.Proofs.Ytbphlkaihfbgeaa
/-
  Rows of wants and of registers: reading them, appending to them.
-/
namespace Go.Proofs.Ytbphlkaihfbgeaa
open Go.RowKit Kv
theorem flat_at {α : Type} (f : α → List Value) (k : Nat) (hf : ∀ a, (f a).length = k) : ∀ (l : List α) (i j : Nat) (a : α), l[i]? = some a → j < k → (l.flatMap f)[k * i + j]? = (f a)[j]?
  | [], i, j, a, h, _ => by simp at h
  | x :: l, 0, j, a, h, hj => by
    obtain rfl : x = a := by simpa using h
    rw [List.flatMap_cons, Nat.mul_zero, Nat.zero_add, List.getElem?_append_left (by rw [hf]; exact hj)]
  | x :: l, i + 1, j, a, h, hj => by
    have := flat_at f k hf l i j a (by simpa using h) hj
    rw [List.flatMap_cons, List.getElem?_append_right (by rw [hf, Nat.mul_add]; omega), hf, show k * (i + 1) + j - k = k * i + j by rw [Nat.mul_add]; omega]
    exact this
theorem flat_len {α : Type} (f : α → List Value) (k : Nat) (hf : ∀ a, (f a).length = k) : ∀ l : List α, (l.flatMap f).length = k * l.length
  | [] => rfl
  | x :: l => by rw [List.flatMap_cons, List.length_append, hf, flat_len f k hf l, List.length_cons, Nat.mul_add]; omega
def wantVals (q : Want) : List Value := [.int .i64 q.wr, .int .i64 q.top]
/-- A slice of so many records that can be read. -/
def Recs (w : World) (v : Value) (n : Nat) (vals : List Value) : Prop := ∃ A c, v = .slice A n c ∧ n ≤ c ∧ c ≤ 9223372036854775807 ∧ Vals w A vals
theorem Recs.ext {w w' : World} {v : Value} {n : Nat} {vals : List Value} (h : Recs w v n vals) (hx : Ext w w') : Recs w' v n vals := by
  obtain ⟨A, c, e, h1, h2, h3⟩ := h
  exact ⟨A, c, e, h1, h2, h3.ext hx⟩
theorem Recs.of_row {w : World} {B e size n : Nat} {v : Value} {xs : List Value} (h : w.ownsRow B e size v n xs) : Recs w v n xs := vals_row h
/-- The slice v reads as the wants l. -/
def WantsAt (w : World) (v : Value) (l : List Want) : Prop := Recs w v l.length (l.flatMap wantVals)
/-- The slice v reads as the registers l. -/
def RegsV (w : World) (v : Value) (l : List Reg) : Prop := Recs w v l.length (l.flatMap regVals)
theorem want_at {w : World} {A : Option Addr} {l : List Want} (h : Vals w A (l.flatMap wantVals)) {i : Nat} {q : Want} (hi : l[i]? = some q) :
    ∃ b, A = some ⟨b, 0, none⟩ ∧ b < w.heap.size ∧ w.cell? ⟨b, i * 2, none⟩ = some (.int .i64 q.wr) ∧ w.cell? ⟨b, i * 2 + 1, none⟩ = some (.int .i64 q.top) := by
  have h0 := flat_at wantVals 2 (fun _ => rfl) l i 0 q hi (by omega)
  have h1 := flat_at wantVals 2 (fun _ => rfl) l i 1 q hi (by omega)
  obtain ⟨b, rfl, hb, hc⟩ := h (fun e => by rw [e] at h0; simp [wantVals] at h0)
  rw [Nat.mul_comm i 2]
  exact ⟨b, rfl, hb, hc _ _ h0, hc _ _ h1⟩
/-- The seven cells of a register from an offset on. -/
structure RegCells (w : World) (b o : Nat) (r : Reg) : Prop where
  kind : w.cell? ⟨b, o, none⟩ = some (.int .i64 r.kind)
  base : w.cell? ⟨b, o + 1, none⟩ = some (.int .i64 r.base)
  loc : w.cell? ⟨b, o + 2, none⟩ = some (.int .i64 r.loc)
  n : w.cell? ⟨b, o + 3, none⟩ = some (.int .i64 r.n)
  wr : w.cell? ⟨b, o + 4, none⟩ = some (.int .i64 r.wr)
  rd : w.cell? ⟨b, o + 5, none⟩ = some (.int .i64 r.rd)
  top : w.cell? ⟨b, o + 6, none⟩ = some (.int .i64 r.top)
theorem reg_cells {w : World} {b : Nat} {l : List Reg} (hc : ∀ (i : Nat) u, (l.flatMap regVals)[i]? = some u → w.cell? ⟨b, i, none⟩ = some u) {i : Nat} {r : Reg} (hi : l[i]? = some r) : RegCells w b (i * 7) r := by
  have f := fun j hj => flat_at regVals 7 (fun _ => rfl) l i j r hi hj
  rw [Nat.mul_comm i 7]
  exact ⟨hc _ _ (f 0 (by omega)), hc _ _ (f 1 (by omega)), hc _ _ (f 2 (by omega)), hc _ _ (f 3 (by omega)), hc _ _ (f 4 (by omega)), hc _ _ (f 5 (by omega)), hc _ _ (f 6 (by omega))⟩
theorem reg_at {w : World} {A : Option Addr} {l : List Reg} (h : Vals w A (l.flatMap regVals)) {i : Nat} {r : Reg} (hi : l[i]? = some r) : ∃ b, A = some ⟨b, 0, none⟩ ∧ b < w.heap.size ∧ RegCells w b (i * 7) r := by
  have h0 := flat_at regVals 7 (fun _ => rfl) l i 0 r hi (by omega)
  obtain ⟨b, rfl, hb, hc⟩ := h (fun e => by rw [e] at h0; simp [regVals] at h0)
  exact ⟨b, rfl, hb, reg_cells hc hi⟩
theorem info_reg : (Try.prog.info? 56).map (fun i => (i.zero, i.size, i.bytes)) = some (some (.agg #[.int .i64 0, .int .i64 0, .int .i64 0, .int .i64 0, .int .i64 0, .int .i64 0, .int .i64 0]), 7, 56) := by kernel_rfl
theorem info_want : (Try.prog.info? 91).map (fun i => (i.zero, i.size, i.bytes)) = some (some (.agg #[.int .i64 0, .int .i64 0]), 2, 16) := by kernel_rfl
/-- A record appended, out of the new cells that hold it, to a row of the call's own. -/
theorem append_rec {ops : Array Oper} {rest : List Oper} {o : Oper} {a : Act} {Q : Exit → Act → World → Prop} {w0 w : World} {e t : TypeId} {z : Value} {size bytes : Nat}
    (hinfo : (Try.prog.info? e).map (fun i => (i.zero, i.size, i.bytes)) = some (some z, size, bytes)) (hund : Try.prog.underlying t = some (.slice e)) (hzs : z.cells.size = size) (hsz : 0 < size) (hby : bytes ≤ 100)
    (hgd : o.guard = none) (s x : Operand) (ho : o.op = .call { callee := .builtin .append, args := #[s, x], argTypes := #[t, t] })
    (v : Value) (n : Nat) (xs news : List Value) (hX : Ext w0 w) (hown : w.ownsRow w0.heap.size e size v n xs) (hs : a.eval s = v) (hx : a.eval x = .slice (some ⟨w.heap.size, 0, none⟩) 1 1)
    (hnl : news.length = size) (h1 : ∀ u ∈ news, u.oneCell' = true) (hlen : n < 1000000000)
    (h : ∀ v' w', w'.ownsRow w0.heap.size e size v' (n + 1) (xs ++ news) → Ext w0 w' → (∀ k, k < w.heap.size → v.ownBlock ≠ some k → w'.heap[k]? = w.heap[k]?) → wpList Try.prog ops Q rest (a.put o.dst v') w') :
    wpList Try.prog ops Q (o :: rest) a (w.alloc (.cells news.toArray e)) := by
  obtain ⟨i0, hi, hz0, hz1, hz2⟩ := info_parts hinfo
  refine wpList_append_own_at _ hgd s x t ho w0.heap.size e i0 z size bytes hund hi hz0 hz1 hz2 hzs hsz v n xs hs (World.ownsRow.alloc hown _) ⟨w.heap.size, 0, none⟩ 1 1 news hx (by omega) ?_ h1 (by unfold maxLen; omega) ?_ (by have := hX.size; simp; omega) fun v' w' h2 h3 _ _ => ?_
  · intro j u hu
    rw [Addr.add_lit, Nat.zero_add]
    refine (cell_of_heap (w := w.alloc (.cells news.toArray e)) (b := w.heap.size) (cs := news.toArray) (t := e) (fz := (0, 0)) (heap_alloc_new w _) j).trans (by simpa using hu)
  · have : (n + 1) * bytes ≤ (n + 1) * 100 := Nat.mul_le_mul_left _ hby
    omega
  · refine h v' w' h2 (Below.grown (Below.alloc hX hX.size _) h3 (by have := hX.size; simp; omega) fun k hk => ?_) (fun k hk hv => (h3.block k (by simp; omega) (fun e => hv e.symm)).trans (Below.heap_alloc w _ k hk))
    rcases hown.2 with ⟨rfl, _⟩ | ⟨g, cap, cur, rfl, hgb, _⟩
    · simp [Value.ownBlock] at hk
    · simp [Value.ownBlock] at hk
      omega
end Go.Proofs.Ytbphlkaihfbgeaa
/-
  Plans of the document: how many cells and locals a register has.
-/
namespace Go.Proofs.Ytbphlkaihfbgeaa
open Go.RowKit Kv
theorem cells_bd (n : Int) (h1 : 1 ≤ n) (h2 : n ≤ 8) : (0 ≤ 16 * (n - 1) ∧ 16 * (n - 1) ≤ 112) ∧ (0 ≤ 16 * (n - 1) * (n - 1) ∧ 16 * (n - 1) * (n - 1) ≤ 784) ∧ (0 ≤ 16 * (n - 1) * (n - 1) * n ∧ 16 * (n - 1) * (n - 1) * n ≤ 6272) := by
  have a1 : 0 ≤ 16 * (n - 1) * (n - 1) := Int.mul_nonneg (by omega) (by omega)
  have a2 : 16 * (n - 1) * (n - 1) ≤ 112 * 7 := Int.mul_le_mul (by omega) (by omega) (by omega) (by omega)
  have a3 : 0 ≤ 16 * (n - 1) * (n - 1) * n := Int.mul_nonneg a1 (by omega)
  have a4 : 16 * (n - 1) * (n - 1) * n ≤ 784 * 8 := Int.mul_le_mul (by omega) (by omega) (by omega) (by omega)
  omega
theorem locals_bd (n : Int) (h1 : 1 ≤ n) (h2 : n ≤ 8) : (0 ≤ 18 * (n - 1) ∧ 18 * (n - 1) ≤ 126) ∧ (0 ≤ 18 * (n - 1) * (n - 1) ∧ 18 * (n - 1) * (n - 1) ≤ 882) ∧ (0 ≤ n * (2 + 18 * (n - 1) * (n - 1)) ∧ n * (2 + 18 * (n - 1) * (n - 1)) ≤ 7072) := by
  have a1 : 0 ≤ 18 * (n - 1) * (n - 1) := Int.mul_nonneg (by omega) (by omega)
  have a2 : 18 * (n - 1) * (n - 1) ≤ 126 * 7 := Int.mul_le_mul (by omega) (by omega) (by omega) (by omega)
  have a3 : 0 ≤ n * (2 + 18 * (n - 1) * (n - 1)) := Int.mul_nonneg (by omega) (by omega)
  have a4 : n * (2 + 18 * (n - 1) * (n - 1)) ≤ 8 * 884 := Int.mul_le_mul (by omega) (by omega) (by omega) (by omega)
  omega
theorem cells_r (r : Reg) (w : World) (hk : r.kind = 1 ∨ r.kind = 6 ∨ r.kind = 7) (hn : 1 ≤ r.n ∧ r.n ≤ 8) : Calls Try.prog 95 #[encR r] w fun e w' => e = .returned (.int .i64 (cellsM r)) ∧ Ext w w' := by
  obtain ⟨kind, base, loc, n, wr, rd, top⟩ := r
  simp only at hk hn
  have hb := cells_bd n hn.1 hn.2
  unfold encR cellsM
  simp only
  have hX := Ext.refl w
  have b1 := Blk.new w (.cells #[.int .i64 kind, .int .i64 base, .int .i64 loc, .int .i64 n, .int .i64 wr, .int .i64 rd, .int .i64 top] 56)
  replace hX := hX.alloc (.cells #[.int .i64 kind, .int .i64 base, .int .i64 loc, .int .i64 n, .int .i64 wr, .int .i64 rd, .int .i64 top] 56)
  have c_b1 := b1.cells
  go_enter Try.func95, Try.ntmps95
  go_wp2_with fail
  refine (rn_r ⟨kind, base, loc, n, wr, rd, top⟩ _ hn.1 hn.2).mono ?_
  rintro e w2 ⟨rfl, hx⟩
  clear c_b1
  replace b1 := b1.ext hx
  have c_b1 := b1.cells
  replace hX := hX.trans hx
  clear hx
  rcases hk with rfl | rfl | rfl
  · go_wp2_with fail
    go_ret
    exact ⟨rfl, hX⟩
  · go_wp2_with fail
    go_ret
    exact ⟨rfl, hX⟩
  · go_wp2_with fail
    go_ret
    exact ⟨rfl, hX⟩
theorem locals_r (r : Reg) (w : World) (hk : r.kind = 1 ∨ r.kind = 6 ∨ r.kind = 7) (hn : 1 ≤ r.n ∧ r.n ≤ 8) : Calls Try.prog 96 #[encR r] w fun e w' => e = .returned (.int .i64 (localsM r)) ∧ Ext w w' := by
  obtain ⟨kind, base, loc, n, wr, rd, top⟩ := r
  simp only at hk hn
  have hb := locals_bd n hn.1 hn.2
  unfold encR localsM
  simp only
  have hX := Ext.refl w
  have b1 := Blk.new w (.cells #[.int .i64 kind, .int .i64 base, .int .i64 loc, .int .i64 n, .int .i64 wr, .int .i64 rd, .int .i64 top] 56)
  replace hX := hX.alloc (.cells #[.int .i64 kind, .int .i64 base, .int .i64 loc, .int .i64 n, .int .i64 wr, .int .i64 rd, .int .i64 top] 56)
  have c_b1 := b1.cells
  go_enter Try.func96, Try.ntmps96
  go_wp2_with fail
  refine (rn_r ⟨kind, base, loc, n, wr, rd, top⟩ _ hn.1 hn.2).mono ?_
  rintro e w2 ⟨rfl, hx⟩
  clear c_b1
  replace b1 := b1.ext hx
  have c_b1 := b1.cells
  replace hX := hX.trans hx
  clear hx
  rcases hk with rfl | rfl | rfl
  · go_wp2_with fail
    go_ret
    exact ⟨rfl, hX⟩
  · go_wp2_with fail
    go_ret
    exact ⟨rfl, hX⟩
  · go_wp2_with fail
    go_ret
    exact ⟨rfl, hX⟩
theorem thread_in (n t : Int) (must : Bool) (w : World) (h : 0 ≤ t ∧ t < n) : Calls Try.prog 94 #[.int .i64 n, .int .i64 t, .bool must] w fun e w' => e = .returned (.bool true) ∧ w = w' := by
  obtain ⟨h1, h2⟩ := h
  go_enter Try.func94, Try.ntmps94
  go_wp2_with fail
  go_ret
  exact ⟨rfl, rfl⟩
theorem thread_none (n : Int) (w : World) : Calls Try.prog 94 #[.int .i64 n, .int .i64 (-1), .bool false] w fun e w' => e = .returned (.bool true) ∧ w = w' := by
  go_enter Try.func94, Try.ntmps94
  go_wp2_with fail
  go_ret
  exact ⟨rfl, rfl⟩
theorem thread_any (n t : Int) (must : Bool) (w : World) (h : (0 ≤ t ∧ t < n) ∨ (t = -1 ∧ must = false)) : Calls Try.prog 94 #[.int .i64 n, .int .i64 t, .bool must] w fun e w' => e = .returned (.bool true) ∧ w = w' := by
  rcases h with h | ⟨rfl, rfl⟩
  · exact thread_in n t must w h
  · exact thread_none n w
end Go.Proofs.Ytbphlkaihfbgeaa
