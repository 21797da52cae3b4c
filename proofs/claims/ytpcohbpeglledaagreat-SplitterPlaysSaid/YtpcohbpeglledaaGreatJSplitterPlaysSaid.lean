/-
  SplitterPlays holds: whoever passes a splitter does what the document says, access by access, whatever it is answered.
-/
import Derived.Test.YtpcohbpeglledaaGreatJSplitterPlaysSaid4
import Derived.Maps.AppendAt
import Derived.Defers
import Derived.Recover
import Derived.LaidEqlPtr
import Derived.Deep.RegionHeld3
import Derived.Deep.QuietTactic
import Derived.BigQuiet
import Derived.ProofKit
import Derived.OpenShut
import Derived.Deep.DeepHandedRow
import Derived.WideKeyArgs
import Derived.Carry
import Derived.ChangeSame
import Derived.Lib.SmallJoins
import Derived.Test.YtpcohbpeglledaaGreatRows
import Derived.Deep.DeepCutAuto
/-
  A list cloned.
-/
namespace Go.Proofs.YtpcohbpeglledaaGreat
open Go.RowKit Kv
set_option maxRecDepth 100000 in
/-- All of a list behind an empty row. -/
theorem append_all {ops : Array Oper} {rest : List Oper} {o : Oper} {a : Act} {Q : Exit → Act → World → Prop} {w : World} (hgd : o.guard = none) (s x : Operand)
    (ho : o.op = .call { callee := .builtin .append, args := #[s, x], argTypes := #[22, 22] })
    (ad : Addr) (c : Nat) (L : List Int) (hL : Ints w (.slice (some ad) L.length c) L) (hs : a.eval s = .slice (some ⟨w.heap.size, 0, none⟩) 0 0) (hx : a.eval x = .slice (some ad) L.length c)
    (hlen : L.length < 1000000)
    (h : ∀ v' w', IntRow w' w.heap.size v' L → Ext w w' → wpList Tryz.prog ops Q rest (a.put o.dst v') w') :
    wpList Tryz.prog ops Q (o :: rest) a (w.alloc (.cells #[] 3)) := by
  obtain ⟨i0, hi, hz0, hz1, hz2⟩ := info_parts info_int
  have hown : (w.alloc (.cells #[] 3)).ownsRow w.heap.size 3 1 (.slice (some ⟨w.heap.size, 0, none⟩) 0 0) 0 [] :=
    ⟨rfl, .inr ⟨w.heap.size, 0, #[], rfl, Nat.le_refl _, heap_alloc_new _ _, Nat.le_refl _, Nat.zero_le _, rfl, rfl⟩⟩
  refine wpList_append_own_at _ hgd s x 22 ho w.heap.size 3 i0 (.int .i64 0) 1 8 Tryz.underlying22 hi hz0 hz1 hz2 rfl (by decide) _ 0 [] hs hown ad L.length c (L.map (Value.int .i64)) hx (by simp) ?_ (by simp [Value.oneCell']) (by unfold maxLen; omega) (by omega) (by simp) fun v' w' h1 h2 _ _ => ?_
  · intro j u hu
    obtain ⟨A', c', he, _, _, h3⟩ := hL.ext ((Ext.refl w).alloc (.cells #[] 3))
    rw [List.getElem?_map] at hu
    cases hj : L[j]? with
    | none => rw [hj] at hu; cases hu
    | some y =>
      rw [hj] at hu
      obtain ⟨b, off, rfl, _, hc⟩ := h3 (fun e => by rw [e] at hj; cases hj)
      injection he with e1 e2 e3
      injection e1 with e1
      subst e1
      rw [Addr.add_lit]
      rw [hc j y hj]
      simpa using hu
  · rw [List.nil_append, Nat.zero_add] at h1
    exact h v' w' h1 (Below.grown ((Ext.refl w).alloc (.cells #[] 3)) h2 (by simp) (fun k hk => by simp [Value.ownBlock] at hk; omega))
set_option maxRecDepth 100000 in
theorem clone_x (a : Addr) (c : Nat) (L : List Int) (w : World) (h : Ints w (.slice (some a) L.length c) L) (hl : L.length < 1000000) :
    Calls Tryz.prog 86 #[.slice (some a) L.length c] w fun e w' => ∃ v', e = .returned v' ∧ IntRow w' w.heap.size v' L ∧ Ext w w' := by
  have hcmp : ∀ (n : Nat) (w : World), (binOp .eql 22 (.slice (some a) n c) (.slice none 0 0)).run Tryz.prog w = .ok (.bool false) w := fun _ _ => rfl
  go_enter Tryz.func86, Tryz.ntmps86
  go_wp2_with (at_builtin; refine append_all rfl _ _ rfl a c L h rfl rfl hl ?_)
  intro v' w' h1 h2
  go_wp2_with fail
  go_ret
  exact ⟨v', rfl, h1, h2⟩
set_option maxRecDepth 100000 in
theorem clone_nil (c : Nat) (w : World) : Calls Tryz.prog 86 #[.slice none 0 c] w fun e w' => e = .returned (.slice none 0 0) ∧ w = w' := by
  have hcmp : ∀ (n : Nat) (w : World), (binOp .eql 22 (.slice none n c) (.slice none 0 0)).run Tryz.prog w = .ok (.bool true) w := fun _ _ => rfl
  go_enter Tryz.func86, Tryz.ntmps86
  go_wp2_with fail
  go_ret
  exact ⟨rfl, rfl⟩
theorem clone_any (A : Option Addr) (c : Nat) (L : List Int) (w : World) (h : Ints w (.slice A L.length c) L) (hl : L.length < 1000000) :
    Calls Tryz.prog 86 #[.slice A L.length c] w fun e w' => ∃ v', e = .returned v' ∧ IntRow w' w.heap.size v' L ∧ Ext w w' := by
  cases A with
  | some a => exact clone_x a c L w h hl
  | none =>
    have hL : L = [] := by
      obtain ⟨A', c', he, _, _, h3⟩ := h
      by_cases e : L = []
      · exact e
      · obtain ⟨b, off, rfl, _⟩ := h3 e
        cases he
    subst hL
    refine (clone_nil c w).mono ?_
    rintro e w' ⟨rfl, rfl⟩
    exact ⟨_, rfl, IntRow.nil _ _, Ext.refl _⟩
set_option maxRecDepth 100000 in
theorem tshort_p (A : Option Addr) (c : Nat) (L : List Int) (w : World) (h : Ints w (.slice A L.length c) L) (q1 : L.length ≤ c) (q2 : c ≤ 9223372036854775807) (_q3 : L.length < 1000000) :
    Calls Tryz.prog 88 #[.slice A L.length c] w fun e w' => ∃ v', e = .returned v' ∧ IntRow w' w.heap.size v' (shortL L) ∧ Ext w w' := by
  go_enter Tryz.func88, Tryz.ntmps88
  go_wp2_with fail
  go_loopw [3] (fun v wr => ∃ n : Nat, v = .int .i64 n ∧ n ≤ L.length ∧ Hid (shortN L n = shortN L L.length) ∧ w = wr) (fun v _ => (intOf v).toNat)
  case atStart => exact ⟨L.length, rfl, by omega, rfl, rfl⟩
  case round =>
    obtain ⟨n, rfl, hn, hs, rfl⟩ := hrel
    have hlen : ∀ m, m ≤ L.length → (L.take m).length = m := fun m hm => by rw [List.length_take]; omega
    cases n with
    | zero =>
      have hf : L.take 0 = shortL L := by unfold shortL; rw [← hs.out]; rfl
      have hT := clone_any A c (L.take 0) w (by have := h.take 0 (by omega); rw [hlen 0 (by omega)]; exact this) (by simp)
      rw [hlen 0 (by omega), hf] at hT
      clear hs h hf hlen
      go_wp2_with fail
      refine hT.mono ?_
      rintro e w1 ⟨v', rfl, h1, h2⟩
      go_wp2_with fail
      go_ret
      exact ⟨v', rfl, h1, h2⟩
    | succ n =>
      obtain ⟨b, off, rfl, hb, hcell⟩ := h.at_ (show n < L.length by omega)
      by_cases e : L.getD n 0 = 0
      · have hs2 : Hid (shortN L n = shortN L L.length) := Lib.hid (by rw [← hs.out]; show _ = (if L.getD n 0 = 0 then shortN L n else n + 1); rw [if_pos e])
        rw [e] at hcell
        clear hs e h hlen
        go_wp2_with fail
        exact ⟨⟨n, rfl, by omega, hs2, by trivial⟩, by simp [intOf]⟩
      · have e3 := Lib.hid (show shortN L L.length = n + 1 from by rw [← hs.out]; show (if L.getD n 0 = 0 then shortN L n else n + 1) = _; rw [if_neg e])
        have hf : L.take (n + 1) = shortL L := by unfold shortL; rw [e3.out]
        have hT := clone_any (some ⟨b, off, none⟩) c (L.take (n + 1)) w (by have := h.take (n + 1) (by omega); rw [hlen (n + 1) (by omega)]; exact this) (by rw [hlen (n + 1) (by omega)]; omega)
        rw [hlen (n + 1) (by omega), hf] at hT
        have e2 : (L.getD n 0 == 0) = false := by rw [beq_eq_false_iff_ne]; exact e
        generalize L.getD n 0 = E at *
        clear hs e h hf hlen
        go_wp2_with fail
        refine hT.mono ?_
        rintro e w1 ⟨v', rfl, h1, h2⟩
        go_wp2_with fail
        go_ret
        exact ⟨v', rfl, h1, h2⟩
end Go.Proofs.YtpcohbpeglledaaGreat
/-
  Worlds in which only one block of those that were there has turned: what a drawn region holds that calls and stores.
-/
namespace Go.Proofs.YtpcohbpeglledaaGreat
open Go.RowKit Kv
/-- From W on only block b has turned, which still has n cells. -/
structure Near (W : World) (b n : Nat) (t : TypeId) (w : World) : Prop where
  os : w.os = W.os
  tape : w.tape = W.tape
  output : w.output = W.output
  size : W.heap.size ≤ w.heap.size
  rest : ∀ k, k < W.heap.size → k ≠ b → w.heap[k]? = W.heap[k]?
  blk : ∃ cs, w.heap[b]? = some (.cells cs t (0, 0)) ∧ cs.size = n
section
variable {W w w' : World} {b n : Nat} {t : TypeId}
theorem Near.new {cs : Array Value} (h : W.heap[b]? = some (.cells cs t (0, 0))) (hn : cs.size = n) : Near W b n t W := ⟨rfl, rfl, rfl, Nat.le_refl _, fun _ _ _ => rfl, cs, h, hn⟩
theorem Near.ext (h : Near W b n t w) (hx : Ext w w') : Near W b n t w' := by
  obtain ⟨cs, h1, h2⟩ := h.blk
  exact ⟨hx.os.trans h.os, hx.tape.trans h.tape, hx.output.trans h.output, Nat.le_trans h.size hx.size, fun k hk hb => (Below.block hx k (Nat.lt_of_lt_of_le hk h.size)).trans (h.rest k hk hb), cs, (Below.block hx b (Array.getElem?_eq_some_iff.1 h1).1).trans h1, h2⟩
theorem Near.drew (h : Near W b n t w) : Near W b n t w.drew := h.ext (Ext.refl w).drew
theorem Near.set (h : Near W b n t w) (i : Nat) (u : Value) : Near W b n t (w.setCell ⟨b, i, none⟩ u) := by
  obtain ⟨cs, h1, h2⟩ := h.blk
  refine ⟨h.os, h.tape, h.output, by have := h.size; simpa using this, fun k hk hb => (heap_setCell_ne _ _ hb).trans (h.rest k hk hb), _, heap_setCell h1 u, by simpa using h2⟩
theorem Near.cell (h : Near W b n t w) {k i : Nat} (hk : k < W.heap.size) (hb : k ≠ b) : w.cell? ⟨k, i, none⟩ = W.cell? ⟨k, i, none⟩ := World.cell?_of_block (w := W) (a := ⟨k, i, none⟩) (h.rest k hk hb)
theorem Near.frozen (h : Near W b n t w) (i : Nat) : w.frozen? ⟨b, i, none⟩ = false := by
  obtain ⟨cs, h1, h2⟩ := h.blk
  exact frozen_of_heap h1 i
/-- Behind it nothing below B has turned, if the block is not below B. -/
theorem Near.below {B : Nat} {w0 : World} (h : Near W b n t w) (h0 : Below B w0 W) (hb : B ≤ b) (hB : B ≤ W.heap.size) : Below B w0 w :=
  h0.trans ⟨h.os, h.tape, h.output, h.size, fun k hk => h.rest k (by omega) (by omega)⟩
/-- What stands in a cell. -/
def cellD (w : World) (b i : Nat) : Value := (w.cell? ⟨b, i, none⟩).getD undef
theorem Near.four (h : Near W b 4 t w) : ∀ i, w.cell? ⟨b, i, none⟩ = (#[cellD w b 0, cellD w b 1, cellD w b 2, cellD w b 3] : Array Value)[i]? := by
  obtain ⟨cs, h1, h2⟩ := h.blk
  intro i
  have e := cell_of_heap h1
  unfold cellD
  rw [e, e, e, e, e]
  match i with
  | 0 => simp [h2]
  | 1 => simp [h2]
  | 2 => simp [h2]
  | 3 => simp [h2]
  | i + 4 => simp [h2]
theorem Near.five (h : Near W b 5 t w) : ∀ i, w.cell? ⟨b, i, none⟩ = (#[cellD w b 0, cellD w b 1, cellD w b 2, cellD w b 3, cellD w b 4] : Array Value)[i]? := by
  obtain ⟨cs, h1, h2⟩ := h.blk
  intro i
  have e := cell_of_heap h1
  unfold cellD
  rw [e, e, e, e, e, e]
  match i with
  | 0 => simp [h2]
  | 1 => simp [h2]
  | 2 => simp [h2]
  | 3 => simp [h2]
  | 4 => simp [h2]
  | i + 5 => simp [h2]
end
end Go.Proofs.YtpcohbpeglledaaGreat
/-
  The document's Mem made.
-/
namespace Go.Proofs.YtpcohbpeglledaaGreat
open Go.RowKit Kv
set_option maxRecDepth 100000 in
theorem new_r (a : Addr) (c : Nat) (L : List Int) (Aa : Option Addr) (n ca : Nat) (w : World) (h : Ints w (.slice (some a) L.length c) L) (hl : L.length ≤ 32768) :
    Calls Tryz.prog 20 #[.slice (some a) L.length c, .slice Aa n ca] w fun e w' => ∃ p vL, e = .returned (.pointer (some ⟨p, 0, none⟩)) ∧ w.heap.size ≤ p ∧ w'.heap[p]? = some (.cells #[.slice Aa n ca, .int .i64 0, .bool false, .slice none 0 0, .slice none 0 0, vL] 74 (0, 0)) ∧ IntRow w' w.heap.size vL L ∧ Ext w w' := by
  have hh := Lib.hid h
  go_enter Tryz.func20, Tryz.ntmps20
  go_wp2_with (at_builtin; refine append_all rfl _ _ rfl a c L hh.out rfl rfl (by omega) ?_)
  intro v' w' h1 h2
  obtain ⟨A', c', rfl, hc1, hc2⟩ := h1.ints.slice
  have h1h := Lib.hid h1
  clear h1 h
  go_wp2_with fail
  go_ret
  exact ⟨w'.heap.size, _, rfl, h2.size, heap_alloc_new _ _, row_ext h1h.out ((Ext.refl _).alloc _), h2.alloc _⟩
/-- Locals as they begin. -/
def locOf (L : List Int) (i : Nat) : Int := L.getD i 0
/-- The state in which an operation begins. -/
def TS0 (L ans : List Int) : TS := ⟨ans, [], [], locOf L⟩
theorem new_at (a : Addr) (c : Nat) (L : List Int) (Aa : Option Addr) (ca : Nat) (ans : List Int) (w : World) (h : Ints w (.slice (some a) L.length c) L) (ha : Ints w (.slice Aa ans.length ca) ans) (hl : L.length ≤ 32768) (hn : ans.length ≤ maxAns)
    (hb : ∀ b, (Value.slice Aa ans.length ca).ownBlock = some b → b < w.heap.size) :
    Calls Tryz.prog 20 #[.slice (some a) L.length c, .slice Aa ans.length ca] w fun e w' => ∃ p, e = .returned (.pointer (some ⟨p, 0, none⟩)) ∧ RAt w.heap.size w' p false (TS0 L ans) ∧ Ext w w' := by
  refine (new_r a c L Aa ans.length ca w h hl).mono ?_
  rintro e w' ⟨p, vL, rfl, hp, hh, hr, hx⟩
  refine ⟨p, rfl, ⟨0, _, _, _, _, L, { ge := hp, heap := hh, ans := ha.ext hx, ansB := hb, rowL := hr, rowC := World.ownsRow_nil _ _ _ _, rowN := World.ownsRow_nil _ _ _ _, loc := fun _ => rfl, locN := hl, accN := Nat.zero_le _, ansN := hn, ntsN := Nat.zero_le _ }, by simp [TS0], by simp [TS0]⟩, hx⟩
set_option maxRecDepth 100000 in
theorem new_nil (c : Nat) (Aa : Option Addr) (n ca : Nat) (w : World) :
    Calls Tryz.prog 20 #[.slice none 0 c, .slice Aa n ca] w fun e w' => ∃ p vL, e = .returned (.pointer (some ⟨p, 0, none⟩)) ∧ w.heap.size ≤ p ∧ w'.heap[p]? = some (.cells #[.slice Aa n ca, .int .i64 0, .bool false, .slice none 0 0, .slice none 0 0, vL] 74 (0, 0)) ∧ IntRow w' w.heap.size vL [] ∧ Ext w w' := by
  go_enter Tryz.func20, Tryz.ntmps20
  go_wp2_with fail
  go_ret
  have hown : (w.alloc (.cells #[] 3)).ownsRow w.heap.size 3 1 (.slice (some ⟨w.heap.size, 0, none⟩) 0 0) 0 [] :=
    ⟨rfl, .inr ⟨w.heap.size, 0, #[], rfl, Nat.le_refl _, heap_alloc_new _ _, Nat.le_refl _, Nat.zero_le _, rfl, rfl⟩⟩
  refine ⟨w.heap.size + 1, _, rfl, Nat.le_succ _, ?_, row_ext hown ((Ext.refl _).alloc _), ((Ext.refl _).alloc _).alloc _⟩
  have hz : (w.alloc (.cells #[] 3)).heap.size = w.heap.size + 1 := by simp
  rw [← hz]
  exact heap_alloc_new _ _
theorem new_any (A : Option Addr) (c : Nat) (L : List Int) (Aa : Option Addr) (ca : Nat) (ans : List Int) (w : World) (h : Ints w (.slice A L.length c) L) (ha : Ints w (.slice Aa ans.length ca) ans) (hl : L.length ≤ 32768) (hn : ans.length ≤ maxAns)
    (hb : ∀ b, (Value.slice Aa ans.length ca).ownBlock = some b → b < w.heap.size) :
    Calls Tryz.prog 20 #[.slice A L.length c, .slice Aa ans.length ca] w fun e w' => ∃ p, e = .returned (.pointer (some ⟨p, 0, none⟩)) ∧ RAt w.heap.size w' p false (TS0 L ans) ∧ Ext w w' := by
  cases A with
  | some a => exact new_at a c L Aa ca ans w h ha hl hn hb
  | none =>
    have hL : L = [] := by
      obtain ⟨A', c', he, _, _, h3⟩ := h
      by_cases e : L = []
      · exact e
      · obtain ⟨b, off, rfl, _⟩ := h3 e
        cases he
    subst hL
    refine (new_nil c Aa ans.length ca w).mono ?_
    rintro e w' ⟨p, vL, rfl, hp, hh, hr, hx⟩
    exact ⟨p, rfl, ⟨0, _, _, _, _, [], { ge := hp, heap := hh, ans := ha.ext hx, ansB := hb, rowL := hr, rowC := World.ownsRow_nil _ _ _ _, rowN := World.ownsRow_nil _ _ _ _, loc := fun _ => rfl, locN := hl, accN := Nat.zero_le _, ansN := hn, ntsN := Nat.zero_le _ }, by simp [TS0], by simp [TS0]⟩, hx⟩
end Go.Proofs.YtpcohbpeglledaaGreat
/-
  An operation played: its deferred end, whether it came to its end or stopped; what comes of the play.
-/
namespace Go.Proofs.YtpcohbpeglledaaGreat
open Go.RowKit Kv
@[go_sem] theorem build_out (x : Bool) (A1 A2 A3 : Option Addr) (n1 n2 n3 c1 c2 c3 : Nat) (w : World) : (Instr.build 36 #[(0, .bool x), (1, .slice A1 n1 c1), (2, .slice A2 n2 c2), (3, .slice A3 n3 c3)]).run Tryz.prog w = .ok (.agg #[.bool x, .slice A1 n1 c1, .slice A2 n2 c2, .slice A3 n3 c3]) w := run_build w 36 _ _ (by kernel_rfl)
@[go_sem] theorem as_stop (v : Value) (w : World) : (Instr.typeAssert (.iface 85 v) 20 85 true).run Tryz.prog w = .ok (.tuple #[v, .bool true]) w := by kernel_rfl
@[go_sem] theorem ne_mem (a : Addr) (w : World) : (binOp .neq 39 (.pointer (some a)) (.pointer (some a))).run Tryz.prog w = .ok (.bool false) w := by
  have hs : (Tryz.prog.info? 82).isSome = true := by kernel_rfl
  obtain ⟨j, hj⟩ := Option.isSome_iff_exists.1 hs
  have h : ∀ d : Nat, (Op.equalIn (d + 1) 39 (.pointer (some a)) (.pointer (some a))).run Tryz.prog w = .ok true w := fun d => by
    simp [Op.equalIn, run_underlying Tryz.underlying39, sizeOf, typeInfo, hj, run_sameAddr_same]
  simp only [binOp]
  simp [Op.equal, Op.maxDepth, h 9999]
section
variable {B p b bo : Nat} {w w' W : World} {S : TS} {st : Int} {vA vL vC vN vs : Value} {L : List Int}
/-- A store into a block beside what the Mem owns. -/
theorem PMem.setO (h : PMem B w p S st vA vL vC vN L) (hn : ¬ ownR [2, 3, 4] w p b) (hb : B ≤ b) (i : Nat) (u : Value) : PMem B (w.setCell ⟨b, i, none⟩ u) p S st vA vL vC vN L := by
  have hp : p ≠ b := fun e => hn (.inl e.symm)
  refine { h with heap := (heap_setCell_ne _ _ hp).trans h.heap, ans := ints_set h.ans _ _ ?_, rowL := row_set h.rowL ?_, rowC := row_set h.rowC ?_, rowN := row_set h.rowN ?_ }
  · intro k hk e
    have := h.ansB k hk
    simp only at e
    omega
  · exact fun e => hn (ownR_at (i := 2) h.heap (by simp) rfl e)
  · exact fun e => hn (ownR_at (i := 3) h.heap (by simp) rfl e)
  · exact fun e => hn (ownR_at (i := 4) h.heap (by simp) rfl e)
theorem Held.setO {ix : List Nat} {k : Nat} {o : Obj} (h : Held ix w p k o) (hk : k ≠ b) (hn : ¬ ownR ix w p b) (i : Nat) (u : Value) : Held ix (w.setCell ⟨b, i, none⟩ u) p k o :=
  ⟨(heap_setCell_ne _ _ hk).trans h.1, fun h' => h.2 ((ownR_same (heap_setCell_ne _ _ (fun e => hn (.inl e.symm))) k).1 h')⟩
/-- The Out laid behind all. -/
theorem end_out {d x0 : Bool} {x1 x2 x3 : Value} (HM : PMem B W p S st vA vL vC vN L) (ho : W.heap[bo]? = some (.cells #[.bool x0, x1, x2, x3] 36 (0, 0))) (h2 : Ext W w') (h1 : IntRow w' W.heap.size vs (shortL L)) :
    ((((w'.setCell ⟨bo, 0, none⟩ (.bool d)).setCell ⟨bo, 1, none⟩ vC).setCell ⟨bo, 2, none⟩ vN).setCell ⟨bo, 3, none⟩ vs).heap[bo]? = some (.cells #[.bool d, vC, vN, vs] 36 (0, 0)) ∧
      Outs ((((w'.setCell ⟨bo, 0, none⟩ (.bool d)).setCell ⟨bo, 1, none⟩ vC).setCell ⟨bo, 2, none⟩ vN).setCell ⟨bo, 3, none⟩ vs) (.agg #[.bool d, vC, vN, vs]) d S := by
  have hlt := (Array.getElem?_eq_some_iff.1 ho).1
  have e0 := (Below.block h2 bo hlt).trans ho
  have rC := row_ext HM.rowC h2
  have rN := row_ext HM.rowN h2
  have nC := row_not rC e0 (by decide)
  have nN := row_not rN e0 (by decide)
  have hv : ∀ k, vs.ownBlock = some k → k ≠ bo := fun k hk => by have := (h1.lt k hk).1; omega
  have e4 := heap_setCell (i := 3) (heap_setCell (i := 2) (heap_setCell (i := 1) (heap_setCell (i := 0) e0 (.bool d)) vC) vN) vs
  refine ⟨e4, outs_of (L := L) (row_set (row_set (row_set (row_set rC nC) nC) nC) nC) (row_set (row_set (row_set (row_set rN nN) nN) nN) nN) (ints_set (ints_set (ints_set (ints_set h1.ints _ _ hv) _ _ hv) _ _ hv) _ _ hv) HM.loc HM.locN⟩
end

/-- What the deferred end leaves. -/
def EndAt (B : Nat) (w w' : World) (bg bo : Nat) (v : Value) (d : Bool) (S : TS) : Prop :=
  w'.heap[bg]? = some (.cells #[v] 3 (0, 0)) ∧ (∃ vC vN vs, w'.heap[bo]? = some (.cells #[.bool d, vC, vN, vs] 36 (0, 0)) ∧ Outs w' (.agg #[.bool d, vC, vN, vs]) d S) ∧ Below B w w'
set_option maxRecDepth 100000 in
set_option maxHeartbeats 1000000 in
theorem end_ok (B p : Nat) (S : TS) (bm bg bo : Nat) (v : Value) (w : World) (h : Plays B w p S) (hm : HeldP w p bm (.cells #[.pointer (some ⟨p, 0, none⟩)] 39 (0, 0))) (hg : HeldP w p bg (.cells #[v] 3 (0, 0)))
    (ho : HeldP w p bo (.cells #[.bool false, .slice none 0 0, .slice none 0 0, .slice none 0 0] 36 (0, 0))) (hB2 : B ≤ bo) :
    CallsD Tryz.prog 87 #[.pointer (some ⟨bm, 0, none⟩), .pointer (some ⟨bg, 0, none⟩), .pointer (some ⟨bo, 0, none⟩)] .returning w fun e u' w' => e = .returned (.tuple #[]) ∧ u' = .returning ∧ EndAt B w w' bg bo v true S := by
  obtain ⟨h1, vA, vL, vC, vN, L, h⟩ := h
  have hc := cell_of_heap h.heap
  have hfz := frozen_of_heap h.heap
  have cm := hm.cells
  refine callsD_of_wpS Tryz.func87 rfl fun c₀ cs hu => ?_
  simp only [Tryz.ntmps87, List.size_toArray, List.length_cons, List.length_nil, Nat.reduceAdd, Nat.reduceSub, Array.replicate_succ, Array.replicate_zero, List.push_toArray, List.append_toArray, List.nil_append, List.cons_append]
  apply wpS_seq
  refine wpS_of_wp ?_
  go_wp2_with fail
  simp only [Exit.thenS]
  apply wpS_seq
  refine wpS_of_wp ?_
  go_wp2_with fail
  simp only [Exit.thenS]
  obtain ⟨HM, HK⟩ := h.state 0
  have hmh := Lib.hid (hm.keep HK)
  have hgh := Lib.hid (hg.keep HK).1
  have hoh := Lib.hid (ho.keep HK)
  have hq := cell_of_heap HM.heap
  have cm2 := hmh.out.cells
  have HMh := Lib.hid HM
  have hbel := Lib.hid HK.below
  clear HM HK hc hfz cm hm hg ho h
  generalize w.setCell ⟨p, 0, none⟩ (.int .i64 0) = W at *
  apply wpS_seq
  apply wpS_seq
  apply wpS_region
  simp [wpOpsS, go_sem, recoverD, hu, Exit.thenS]
  refine wpS_of_wp ?_
  go_wp2_with fail
  simp only [Exit.thenS]
  refine wpS_of_wp ?_
  go_wp2_with fail
  have hI : Ints W vL L := IntRow.ints HMh.out.rowL
  obtain ⟨Al, cl, rfl, q1, q2⟩ := hI.slice
  have hIh := Lib.hid hI
  obtain ⟨Ac, cc, rfl, -, -, -⟩ := vals_row HMh.out.rowC
  obtain ⟨An, cn, rfl, -, -, -⟩ := vals_row HMh.out.rowN
  have hlen := HMh.out.locN
  have hplt := HMh.out.lt
  have hmlt := hmh.out.lt
  clear hI
  have hpo : p ≠ bo := fun e => hoh.out.2 (.inl e.symm)
  have hmo : bm ≠ bo := fun e => by
    have h1 := hmh.out.1
    rw [e, hoh.out.1] at h1
    injection h1 with h1
    injection h1 with _ h2
    cases h2
  have hlo : (Value.slice Al L.length cl).ownBlock ≠ some bo := row_not HMh.out.rowL hoh.out.1 (by decide)
  have hS : ∀ w', Near W bo 4 36 w' → ((∀ i, w'.cell? ⟨p, i, none⟩ = (#[.int .i64 0, vA, .slice Al L.length cl, .slice Ac S.acc.length cc, .slice An S.nts.length cn] : Array Value)[i]?) ∧ (∀ i, w'.cell? ⟨bm, i, none⟩ = (#[.pointer (some ⟨p, 0, none⟩)] : Array Value)[i]?) ∧ (∀ i, w'.cell? ⟨bo, i, none⟩ = (#[cellD w' bo 0, cellD w' bo 1, cellD w' bo 2, cellD w' bo 3] : Array Value)[i]?) ∧ (∀ i, w'.frozen? ⟨bo, i, none⟩ = false) ∧ Near W bo 4 36 w') := fun w' hx =>
    ⟨fun i => (hx.cell hplt hpo).trans (hq i), fun i => (hx.cell hmlt hmo).trans (cm2 i), hx.four, hx.frozen, hx⟩
  have hN : Near W bo 4 36 W := Near.new hoh.out.1 rfl
  go_region_held2 (fun w' => (∀ i, w'.cell? ⟨p, i, none⟩ = (#[.int .i64 0, vA, .slice Al L.length cl, .slice Ac S.acc.length cc, .slice An S.nts.length cn] : Array Value)[i]?) ∧ (∀ i, w'.cell? ⟨bm, i, none⟩ = (#[.pointer (some ⟨p, 0, none⟩)] : Array Value)[i]?) ∧ (∀ i, w'.cell? ⟨bo, i, none⟩ = (#[cellD w' bo 0, cellD w' bo 1, cellD w' bo 2, cellD w' bo 3] : Array Value)[i]?) ∧ (∀ i, w'.frozen? ⟨bo, i, none⟩ = false) ∧ Near W bo 4 36 w') (first | exact hS _ hN.drew | (refine hS _ ?_; (repeat refine Near.set ?_ _ _); exact hN.drew.ext h2))
    (first
      | (go_at_call 88
         refine (tshort_p Al cl L _ (hIh.out.ext (Ext.refl W).drew) q1 q2 (by omega)).mono ?_
         rintro e w' ⟨v', rfl, h1, h2⟩
         obtain ⟨As, cs, rfl, hs1, hs2⟩ := h1.ints.slice))
  obtain ⟨f1, f2⟩ := end_out (d := true) HMh.out hoh.out.1 ((Ext.refl W).drew.trans h2) h1
  have fg : bg ≠ bo := fun e => by
    have h1 := hgh.out
    rw [e, hoh.out.1] at h1
    injection h1 with h1
    injection h1 with _ h2
    cases h2
  refine ⟨rfl, FrameMode.returning, (by cases c₀; simp only at hu; subst hu; rfl), .tuple #[], (by simp [results, Tryz.results87, go_sem]), rfl, rfl, ?_, ⟨_, _, _, f1, f2⟩, ?_⟩
  · rw [heap_setCell_ne _ _ fg, heap_setCell_ne _ _ fg, heap_setCell_ne _ _ fg, heap_setCell_ne _ _ fg]
    exact (Below.block ((Ext.refl W).drew.trans h2) bg (Array.getElem?_eq_some_iff.1 hgh.out).1).trans hgh.out
  · exact ((((hN.drew.ext h2).set _ _).set _ _).set _ _ |>.set _ _).below hbel.out hB2 (by have := HMh.out.ge; omega)
set_option maxRecDepth 100000 in
set_option maxHeartbeats 1000000 in
theorem end_stop (B p : Nat) (S : TS) (bm bg bo : Nat) (v : Value) (older : List PanicEntry) (w : World) (h : Stops B w p S) (hm : HeldP w p bm (.cells #[.pointer (some ⟨p, 0, none⟩)] 39 (0, 0))) (hg : HeldP w p bg (.cells #[v] 3 (0, 0)))
    (ho : HeldP w p bo (.cells #[.bool false, .slice none 0 0, .slice none 0 0, .slice none 0 0] 36 (0, 0))) (hB1 : B ≤ bg) (hB2 : B ≤ bo) :
    CallsD Tryz.prog 87 #[.pointer (some ⟨bm, 0, none⟩), .pointer (some ⟨bg, 0, none⟩), .pointer (some ⟨bo, 0, none⟩)] (.panicking ({ v := .iface 85 (.agg #[.pointer (some ⟨p, 0, none⟩)]), recovered := false } :: older)) w fun e u' w' =>
      e = .returned (.tuple #[]) ∧ u' = .panicking ({ v := .iface 85 (.agg #[.pointer (some ⟨p, 0, none⟩)]), recovered := true } :: older) ∧ EndAt B w w' bg bo (.int .i64 0) false S := by
  obtain ⟨vA, vL, vC, vN, L, h⟩ := h
  have hc := cell_of_heap h.heap
  have hfz := frozen_of_heap h.heap
  have cm := hm.cells
  refine callsD_of_wpS Tryz.func87 rfl fun c₀ cs hu => ?_
  simp only [Tryz.ntmps87, List.size_toArray, List.length_cons, List.length_nil, Nat.reduceAdd, Nat.reduceSub, Array.replicate_succ, Array.replicate_zero, List.push_toArray, List.append_toArray, List.nil_append, List.cons_append]
  apply wpS_seq
  refine wpS_of_wp ?_
  go_wp2_with fail
  simp only [Exit.thenS]
  apply wpS_seq
  refine wpS_of_wp ?_
  go_wp2_with fail
  simp only [Exit.thenS]
  obtain ⟨HM, HK⟩ := h.state 0
  have hm2 := hm.keep HK
  have hg2 := hg.keep HK
  have ho2 := ho.keep HK
  clear hc hfz cm hm hg ho h
  generalize w.setCell ⟨p, 0, none⟩ (.int .i64 0) = W0 at *
  have hX := (Ext.refl W0).alloc (.cells #[.agg #[.pointer (some ⟨p, 0, none⟩)]] 85)
  have hq0 := cell_of_heap HM.heap
  have cm0 := hm2.cells
  have hqa : Hid (∀ O, ∀ i, (W0.alloc O).cell? ⟨bm, i, none⟩ = (#[.pointer (some ⟨p, 0, none⟩)] : Array Value)[i]?) := Lib.hid fun O i => (((Ext.refl W0).alloc O).cell (p := ⟨bm, i, none⟩) hm2.lt).trans (hm2.cells i)
  have cma := hqa.out
  have fga := frozen_of_heap hg2.1
  have cg0 := hg2.cells
  have W0lt := hg2.lt
  have fgb : Hid (∀ O i, (W0.alloc O).frozen? ⟨bg, i, none⟩ = false) := Lib.hid fun O i => frozen_of_heap ((Below.block ((Ext.refl W0).alloc O) bg hg2.lt).trans hg2.1) i
  have cgb : Hid (∀ O i, (W0.alloc O).cell? ⟨bg, i, none⟩ = (#[v] : Array Value)[i]?) := Lib.hid fun O i => (((Ext.refl W0).alloc O).cell (p := ⟨bg, i, none⟩) hg2.lt).trans (hg2.cells i)
  have fgb' := fgb.out
  have cgb' := cgb.out
  have HMh0 := Lib.hid HM
  have HKh := Lib.hid HK
  have hmh0 := Lib.hid hm2
  have hgh0 := Lib.hid hg2
  have hoh0 := Lib.hid ho2
  clear HM HK hm2 hg2 ho2
  apply wpS_seq
  apply wpS_seq
  apply wpS_region
  simp [wpOpsS, go_sem, recoverD, hu, Exit.thenS]
  refine wpS_of_wp ?_
  go_wp2_with fail
  simp only [Exit.thenS]
  refine wpS_of_wp ?_
  go_wp2_with fail
  have hgp := hgh0.out.2
  have hmg : bm ≠ bg := fun e => by
    have h1 := hmh0.out.1
    rw [e, hgh0.out.1] at h1
    injection h1 with h1
    injection h1 with _ h2
    cases h2
  have hog : bo ≠ bg := fun e => by
    have h1 := hoh0.out.1
    rw [e, hgh0.out.1] at h1
    injection h1 with h1
    injection h1 with _ h2
    cases h2
  have HM1 := HMh0.out.setO hgp hB1 0 (.int .i64 0)
  have hm1 := hmh0.out.setO hmg hgp 0 (.int .i64 0)
  have ho1 := hoh0.out.setO hog hgp 0 (.int .i64 0)
  have hg1 := heap_setCell (i := 0) hgh0.out.1 (.int .i64 0)
  have hb1 : Below B w (W0.setCell ⟨bg, 0, none⟩ (.int .i64 0)) := Below.setCell HKh.out.below (by show B ≤ bg; exact hB1) _
  have HMh := Lib.hid (HM1.ext ((Ext.refl _).alloc (.cells #[.pointer (some ⟨p, 0, none⟩)] 85)))
  have hmh := Lib.hid (hm1.alloc (.cells #[.pointer (some ⟨p, 0, none⟩)] 85) HM1.lt)
  have hoh := Lib.hid (ho1.alloc (.cells #[.pointer (some ⟨p, 0, none⟩)] 85) HM1.lt)
  have hgh := Lib.hid ((Below.block ((Ext.refl _).alloc (.cells #[.pointer (some ⟨p, 0, none⟩)] 85)) bg (Array.getElem?_eq_some_iff.1 hg1).1).trans hg1)
  have hbel := Lib.hid (Below.alloc hb1 (by have := HM1.ge; have := HM1.lt; omega) (.cells #[.pointer (some ⟨p, 0, none⟩)] 85))
  clear hX hq0 cm0 hqa cma fga cg0 fgb cgb fgb' cgb' HMh0 hmh0 hgh0 hoh0 HKh HM1 hm1 ho1 hg1 hb1 hgp W0lt
  generalize (World.alloc (W0.setCell ⟨bg, 0, none⟩ (.int .i64 0)) (.cells #[.pointer (some ⟨p, 0, none⟩)] 85)) = W at *
  have hq := cell_of_heap HMh.out.heap
  have cm2 := hmh.out.cells
  have hI : Ints W vL L := IntRow.ints HMh.out.rowL
  obtain ⟨Al, cl, rfl, q1, q2⟩ := hI.slice
  have hIh := Lib.hid hI
  obtain ⟨Ac, cc, rfl, -, -, -⟩ := vals_row HMh.out.rowC
  obtain ⟨An, cn, rfl, -, -, -⟩ := vals_row HMh.out.rowN
  have hlen := HMh.out.locN
  have hplt := HMh.out.lt
  have hmlt := hmh.out.lt
  clear hI
  have hpo : p ≠ bo := fun e => hoh.out.2 (.inl e.symm)
  have hmo : bm ≠ bo := fun e => by
    have h1 := hmh.out.1
    rw [e, hoh.out.1] at h1
    injection h1 with h1
    injection h1 with _ h2
    cases h2
  have hlo : (Value.slice Al L.length cl).ownBlock ≠ some bo := row_not HMh.out.rowL hoh.out.1 (by decide)
  have hS : ∀ w', Near W bo 4 36 w' → ((∀ i, w'.cell? ⟨p, i, none⟩ = (#[.int .i64 0, vA, .slice Al L.length cl, .slice Ac S.acc.length cc, .slice An S.nts.length cn] : Array Value)[i]?) ∧ (∀ i, w'.cell? ⟨bm, i, none⟩ = (#[.pointer (some ⟨p, 0, none⟩)] : Array Value)[i]?) ∧ (∀ i, w'.cell? ⟨bo, i, none⟩ = (#[cellD w' bo 0, cellD w' bo 1, cellD w' bo 2, cellD w' bo 3] : Array Value)[i]?) ∧ (∀ i, w'.frozen? ⟨bo, i, none⟩ = false) ∧ Near W bo 4 36 w') := fun w' hx =>
    ⟨fun i => (hx.cell hplt hpo).trans (hq i), fun i => (hx.cell hmlt hmo).trans (cm2 i), hx.four, hx.frozen, hx⟩
  have hN : Near W bo 4 36 W := Near.new hoh.out.1 rfl
  go_region_held2 (fun w' => (∀ i, w'.cell? ⟨p, i, none⟩ = (#[.int .i64 0, vA, .slice Al L.length cl, .slice Ac S.acc.length cc, .slice An S.nts.length cn] : Array Value)[i]?) ∧ (∀ i, w'.cell? ⟨bm, i, none⟩ = (#[.pointer (some ⟨p, 0, none⟩)] : Array Value)[i]?) ∧ (∀ i, w'.cell? ⟨bo, i, none⟩ = (#[cellD w' bo 0, cellD w' bo 1, cellD w' bo 2, cellD w' bo 3] : Array Value)[i]?) ∧ (∀ i, w'.frozen? ⟨bo, i, none⟩ = false) ∧ Near W bo 4 36 w') (first | exact hS _ hN.drew | (refine hS _ ?_; (repeat refine Near.set ?_ _ _); exact hN.drew.ext h2))
    (first
      | (go_at_call 88
         refine (tshort_p Al cl L _ (hIh.out.ext (Ext.refl W).drew) q1 q2 (by omega)).mono ?_
         rintro e w' ⟨v', rfl, h1, h2⟩
         obtain ⟨As, cs, rfl, hs1, hs2⟩ := h1.ints.slice))
  obtain ⟨f1, f2⟩ := end_out (d := false) HMh.out hoh.out.1 ((Ext.refl W).drew.trans h2) h1
  have fg : bg ≠ bo := fun e => by
    have h1 := hgh.out
    rw [e, hoh.out.1] at h1
    injection h1 with h1
    injection h1 with _ h2
    cases h2
  refine ⟨rfl, FrameMode.panicking ({ v := .iface 85 (.agg #[.pointer (some ⟨p, 0, none⟩)]), recovered := true } :: older), (by cases c₀; simp only at hu; subst hu; rfl), .tuple #[], (by simp [results, Tryz.results87, go_sem]), rfl, rfl, ?_, ⟨_, _, _, f1, f2⟩, ?_⟩
  · rw [heap_setCell_ne _ _ fg, heap_setCell_ne _ _ fg, heap_setCell_ne _ _ fg, heap_setCell_ne _ _ fg]
    exact (Below.block ((Ext.refl W).drew.trans h2) bg (Array.getElem?_eq_some_iff.1 hgh.out).1).trans hgh.out
  · exact ((((hN.drew.ext h2).set _ _).set _ _).set _ _ |>.set _ _).below hbel.out hB2 (by have := HMh.out.ge; omega)
end Go.Proofs.YtpcohbpeglledaaGreat
/-
  Playing an operation: the whole of it.
-/
namespace Go.Proofs.YtpcohbpeglledaaGreat
open Go.RowKit Kv
theorem row_base {w : World} {B B' e size n : Nat} {v : Value} {xs : List Value} (h : w.ownsRow B' e size v n xs) (hB : B ≤ B') : w.ownsRow B e size v n xs := by
  obtain ⟨h1, h2⟩ := h
  rcases h2 with h2 | ⟨g, cap, cur, rfl, hg, r⟩
  · exact ⟨h1, .inl h2⟩
  · exact ⟨h1, .inr ⟨g, cap, cur, rfl, Nat.le_trans hB hg, r⟩⟩
theorem four_boxes (w : World) (o1 o2 o3 o4 : Obj) : Ext w ((((w.alloc o1).alloc o2).alloc o3).alloc o4) ∧ ((((w.alloc o1).alloc o2).alloc o3).alloc o4).heap[w.heap.size]? = some o1 ∧ ((((w.alloc o1).alloc o2).alloc o3).alloc o4).heap[w.heap.size + 1]? = some o2 ∧
    ((((w.alloc o1).alloc o2).alloc o3).alloc o4).heap[w.heap.size + 1 + 1]? = some o3 ∧ ((((w.alloc o1).alloc o2).alloc o3).alloc o4).heap[w.heap.size + 1 + 1 + 1]? = some o4 := by
  refine ⟨((((Ext.refl w).alloc o1).alloc o2).alloc o3).alloc o4, ?_, ?_, ?_, ?_⟩
  · exact (Below.block ((((Ext.refl (w.alloc o1)).alloc o2).alloc o3).alloc o4) _ (by simp)).trans (heap_alloc_new w o1)
  · have := heap_alloc_new (w.alloc o1) o2
    rw [World.size_alloc] at this
    exact (Below.block (((Ext.refl ((w.alloc o1).alloc o2)).alloc o3).alloc o4) _ (by simp)).trans this
  · have := heap_alloc_new ((w.alloc o1).alloc o2) o3
    rw [World.size_alloc, World.size_alloc] at this
    exact (Below.block ((Ext.refl (((w.alloc o1).alloc o2).alloc o3)).alloc o4) _ (by simp)).trans this
  · have := heap_alloc_new (((w.alloc o1).alloc o2).alloc o3) o4
    rw [World.size_alloc, World.size_alloc, World.size_alloc] at this
    exact this
/-- Worlds with the same blocks. -/
structure SameW (w w' : World) : Prop where
  os : w'.os = w.os
  tape : w'.tape = w.tape
  output : w'.output = w.output
  size : w'.heap.size = w.heap.size
  blocks : ∀ k : Nat, w'.heap[k]? = w.heap[k]?
theorem SameW.drew (w : World) : SameW w w.drew := ⟨rfl, rfl, rfl, rfl, fun _ => rfl⟩
theorem SameW.drew2 {w w' : World} (h : SameW w w') : SameW w w'.drew := ⟨h.os, h.tape, h.output, h.size, h.blocks⟩
theorem SameW.refl (w : World) : SameW w w := ⟨rfl, rfl, rfl, rfl, fun _ => rfl⟩
theorem SameW.ext {w w' : World} (h : SameW w w') : Ext w w' := ⟨h.os, h.tape, h.output, Nat.le_of_eq h.size.symm, fun k _ => h.blocks k⟩
theorem SameW.set {w w' : World} {b : Nat} {cs : Array Value} {t : TypeId} (h : SameW w w') (g : w.heap[b]? = some (.cells cs t (0, 0))) {i : Nat} {v : Value} (hv : cs[i]? = some v) : SameW w (w'.setCell ⟨b, i, none⟩ v) := by
  refine ⟨h.os, h.tape, h.output, by rw [← h.size]; simp, fun k => ?_⟩
  by_cases e : k = b
  · subst e
    rw [heap_setCell ((h.blocks k).trans g) v, g]
    congr 2
    apply Array.ext_getElem?
    intro j
    rw [Array.getElem?_setIfInBounds]
    split
    · rename_i e
      subst e
      rw [hv]
      split
      · rfl
      · rename_i h2
        rw [Array.getElem?_eq_none (by omega)] at hv
        cases hv
    · rfl
  · rw [heap_setCell_ne _ _ e]
    exact h.blocks k
/-- A play begins. -/
theorem play_start {w W w' : World} {p : Nat} {Aa : Option Addr} {ca : Nat} {ans L : List Int} {v' : Value} (hx : Ext w W) (hp : w.heap.size ≤ p) (g : W.heap[p]? = some (.cells #[.int .i64 1, .slice Aa ans.length ca, .slice none 0 0, .slice none 0 0, .slice none 0 0] 82 (0, 0)))
    (h2 : Ext W w') (h1 : IntRow w' W.heap.size v' L) (hl : L.length ≤ 32768) (ha : Ints w (.slice Aa ans.length ca) ans) (hn : ans.length ≤ maxAns) (hb : ∀ b, (Value.slice Aa ans.length ca).ownBlock = some b → b < w.heap.size) :
    Plays w.heap.size (w'.setCell ⟨p, 2, none⟩ v') p (TS0 L ans) ∧ (∀ b o, W.heap[b]? = some o → b ≠ p → HeldP (w'.setCell ⟨p, 2, none⟩ v') p b o) ∧ Ext w (w'.setCell ⟨p, 2, none⟩ v') := by
  have hlt := (Array.getElem?_eq_some_iff.1 g).1
  have g' := heap_setCell (i := 2) ((Below.block h2 p hlt).trans g) v'
  have hv : ∀ k, v'.ownBlock = some k → W.heap.size ≤ k := fun k hk => (h1.lt k hk).1
  have ha' := (ha.ext hx).ext h2
  refine ⟨⟨Nat.zero_le _, .slice Aa ans.length ca, v', .slice none 0 0, .slice none 0 0, L, { ge := hp, heap := g', ans := ints_set ha' _ _ ?_, ansB := hb, rowL := row_base (row_set h1 ?_) hx.size, rowC := World.ownsRow_nil _ _ _ _, rowN := World.ownsRow_nil _ _ _ _, loc := fun _ => rfl, locN := hl, accN := Nat.zero_le _, ansN := hn, ntsN := Nat.zero_le _ }⟩, ?_, (hx.trans h2).setCell hp _⟩
  · intro k hk e
    have := hb k hk
    simp only at e
    omega
  · intro e
    have := hv p e
    omega
  · intro b o hb ho
    have hbl := (Array.getElem?_eq_some_iff.1 hb).1
    refine ⟨(heap_setCell_ne _ _ ho).trans ((Below.block h2 b hbl).trans hb), fun h' => ?_⟩
    rcases h' with e | ⟨i, hi, v, hv1, hv2⟩
    · exact ho e
    · rw [cell_of_heap g'] at hv1
      simp only [List.mem_cons, List.not_mem_nil, or_false] at hi
      rcases hi with rfl | rfl | rfl
      · obtain rfl : v' = v := by simpa using hv1
        have := hv b hv2
        omega
      · obtain rfl : Value.slice none 0 0 = v := by simpa using hv1
        simp [Value.ownBlock] at hv2
      · obtain rfl : Value.slice none 0 0 = v := by simpa using hv1
        simp [Value.ownBlock] at hv2
set_option maxRecDepth 100000 in
set_option maxHeartbeats 1000000 in
theorem play_int (f : FuncId) (cap : Array Value) (T : Prog Int) (Al : Option Addr) (cl : Nat) (L : List Int) (Aa : Option Addr) (ca : Nat) (ans : List Int) (w : World) (h : Ints w (.slice Al L.length cl) L) (hl : L.length ≤ 32768) (ha : Ints w (.slice Aa ans.length ca) ans) (hn : ans.length ≤ maxAns)
    (hb : ∀ b, (Value.slice Aa ans.length ca).ownBlock = some b → b < w.heap.size)
    (hcf : ∀ (args : Array Value) (w : World), (callFunc f args).run Tryz.prog w = .ok (.enter f args) w)
    (hdo : ∀ w1 p, Ext w w1 → Plays w.heap.size w1 p (TS0 L ans) → Calls Tryz.prog f (#[.pointer (some ⟨p, 0, none⟩)] ++ cap) w1 (Post encI w.heap.size p w1 (T.run (TS0 L ans)))) :
    Calls Tryz.prog 17 #[.func (.func f) #[] cap, .slice Al L.length cl, .slice Aa ans.length ca] w fun e w' => ∃ v, e = .returned (.tuple #[.int .i64 ((T.run (TS0 L ans)).1.getD 0), v]) ∧ Outs w' v (T.run (TS0 L ans)).1.isSome (T.run (TS0 L ans)).2 ∧ Ext w w' := by
  obtain ⟨q1, q2⟩ : L.length ≤ cl ∧ cl ≤ 9223372036854775807 := by
    obtain ⟨A', c', he, q1, q2, _⟩ := h
    injection he with e1 e2 e3
    subst e3
    exact ⟨q1, q2⟩
  generalize hR : (fun e w' => ∃ v, e = Ending.returned (.tuple #[.int .i64 ((T.run (TS0 L ans)).1.getD 0), v]) ∧ Outs w' v (T.run (TS0 L ans)).1.isSome (T.run (TS0 L ans)).2 ∧ Ext w w') = R
  have hfin : ∀ v w', Outs w' v (T.run (TS0 L ans)).1.isSome (T.run (TS0 L ans)).2 → Ext w w' → R (.returned (.tuple #[.int .i64 ((T.run (TS0 L ans)).1.getD 0), v])) w' := fun v w' h1 h2 => hR ▸ ⟨v, rfl, h1, h2⟩
  clear hR
  have hmf : ∀ (fn : Fn) (first cap : Array Value) (w : World), (Instr.makeFunc fn first cap).run Tryz.prog w = .ok (.func fn first cap) w := fun _ _ _ _ => rfl
  go_enter_defers Tryz.func17, Tryz.ntmps17
  go_wp2_with fail
  obtain ⟨hx, g1, g2, g3, g4⟩ := four_boxes w (.cells #[.int .i64 0] 3) (.cells #[.bool false, .slice none 0 0, .slice none 0 0, .slice none 0 0] 36) (.cells #[.int .i64 1, .slice Aa ans.length ca, .slice none 0 0, .slice none 0 0, .slice none 0 0] 82) (.cells #[.pointer (some ⟨w.heap.size + 1 + 1, 0, none⟩)] 39)
  generalize hW : World.alloc (World.alloc (World.alloc (World.alloc w _) _) _) _ = W at *
  clear hW
  have hI := h.ext hx
  have cm := cell_of_heap g4
  have hN : Near W (w.heap.size + 1 + 1) 5 82 W := Near.new g3 rfl
  have hmlt := (Array.getElem?_eq_some_iff.1 g4).1
  have hmin : min (L.length : Int) 32768 = (L.length : Int) := by omega
  have hS : ∀ w', Near W (w.heap.size + 1 + 1) 5 82 w' → ((∀ i, w'.cell? ⟨w.heap.size + 1 + 1 + 1, i, none⟩ = (#[.pointer (some ⟨w.heap.size + 1 + 1, 0, none⟩)] : Array Value)[i]?) ∧ (∀ i, w'.cell? ⟨w.heap.size + 1 + 1, i, none⟩ = (#[cellD w' (w.heap.size + 1 + 1) 0, cellD w' (w.heap.size + 1 + 1) 1, cellD w' (w.heap.size + 1 + 1) 2, cellD w' (w.heap.size + 1 + 1) 3, cellD w' (w.heap.size + 1 + 1) 4] : Array Value)[i]?) ∧ (∀ i, w'.frozen? ⟨w.heap.size + 1 + 1, i, none⟩ = false)) := fun w' hx =>
    ⟨fun i => (hx.cell hmlt (by omega)).trans (cm i), hx.five, hx.frozen⟩
  go_region_held3 (fun w' => (∀ i, w'.cell? ⟨w.heap.size + 1 + 1 + 1, i, none⟩ = (#[.pointer (some ⟨w.heap.size + 1 + 1, 0, none⟩)] : Array Value)[i]?) ∧ (∀ i, w'.cell? ⟨w.heap.size + 1 + 1, i, none⟩ = (#[cellD w' (w.heap.size + 1 + 1) 0, cellD w' (w.heap.size + 1 + 1) 1, cellD w' (w.heap.size + 1 + 1) 2, cellD w' (w.heap.size + 1 + 1) 3, cellD w' (w.heap.size + 1 + 1) 4] : Array Value)[i]?) ∧ (∀ i, w'.frozen? ⟨w.heap.size + 1 + 1, i, none⟩ = false)) (first | exact hS _ hN.drew | (refine hS _ ?_; (repeat refine Near.set ?_ _ _); exact hN.drew.ext h2))
    (first
      | (go_at_call 86
         refine (clone_any Al cl L _ (hI.ext (Ext.refl W).drew) (by omega)).mono ?_
         rintro e w' ⟨v', rfl, h1, h2⟩
         obtain ⟨As, cs, rfl, hs1, hs2⟩ := h1.ints.slice))
  obtain ⟨hP, hH, hE⟩ := play_start (p := w.heap.size + 1 + 1) hx (by omega) g3 ((Ext.refl W).drew.trans h2) h1 hl ha hn hb
  have hbg := hH _ _ g1 (by omega)
  have hbo := hH _ _ g2 (by omega)
  have hbm := hH _ _ g4 (by omega)
  clear hH g1 g2 g3 g4 hS hN h1 h2 hI cm hmin hmlt
  rename_i hh
  clear hh
  have hT := hdo _ _ hE hP
  clear hdo
  generalize World.setCell _ _ _ = W2 at *
  have cbm := hbm.cells
  have hnf : (binOp .neq 41 (.func (.func f) #[] cap) .nilFunc).run Tryz.prog W2 = .ok (.bool true) W2 := by kernel_rfl
  go_wp2_with fail
  generalize hr : T.run (TS0 L ans) = r at hT hfin
  obtain ⟨o, S⟩ := r
  clear hr
  cases o with
  | some a =>
    refine hT.mono ?_
    rintro e w3 ⟨rfl, hP3, hK3⟩
    have hbg3 := hbg.keep hK3
    have hbo3 := hbo.keep hK3
    have hbm3 := hbm.keep hK3
    have hE3 : Ext w w3 := Below.trans hE hK3.below
    clear hbg hbo hbm hE hK3 hT hP cbm hnf
    have cbg := hbg3.cells
    have fbg := frozen_of_heap hbg3.1
    have cbo := hbo3.cells
    have fbo := frozen_of_heap hbo3.1
    go_wp2_with fail
    have fgo : w.heap.size ≠ w.heap.size + 1 := by omega
    have hg4 := heap_setCell (i := 0) hbg3.1 (.int .i64 a)
    have hP4 : Plays w.heap.size (w3.setCell ⟨w.heap.size, 0, none⟩ (.int .i64 a)) (w.heap.size + 1 + 1) S := by
      obtain ⟨q, vA, vL, vC, vN, L', hM⟩ := hP3
      exact ⟨q, vA, vL, vC, vN, L', hM.setO hbg3.2 (Nat.le_refl _) _ _⟩
    have hbm4 := hbm3.setO (b := w.heap.size) (by omega) hbg3.2 0 (.int .i64 a)
    have hbo4 := hbo3.setO (b := w.heap.size) (by omega) hbg3.2 0 (.int .i64 a)
    have hbg4 : HeldP (w3.setCell ⟨w.heap.size, 0, none⟩ (.int .i64 a)) (w.heap.size + 1 + 1) w.heap.size (.cells #[.int .i64 a] 3 (0, 0)) := ⟨hg4, fun h' => hbg3.2 ((ownR_same (heap_setCell_ne _ _ (by omega)) _).1 h')⟩
    have hE4 : Ext w (w3.setCell ⟨w.heap.size, 0, none⟩ (.int .i64 a)) := hE3.setCell (Nat.le_refl _) _
    clear hP3 hbg3 hbo3 hbm3 hE3 cbg fbg cbo fbo hg4
    generalize World.setCell _ _ _ = w4 at *
    generalize hbq : w.heap.size + 1 = bo at hbm4 hbo4 hP4 ⊢
    have fgo1 : w.heap.size ≠ bo := by omega
    have fgo2 : bo ≠ w.heap.size := by omega
    clear fgo
    have cbg := hbg4.cells
    have fbg := frozen_of_heap hbg4.1
    have cbo := hbo4.cells
    have fbo := frozen_of_heap hbo4.1
    go_region
    all_goals
      generalize hW5 : World.drew _ = W5
      have hsm : SameW w4 W5 := by
        rw [← hW5]
        repeat first | with_reducible exact SameW.refl _ | with_reducible refine SameW.drew2 ?_ | refine SameW.set ?_ hbg4.1 rfl | refine SameW.set ?_ hbo4.1 rfl
      clear hW5 cbg fbg cbo fbo
      have hP5 := hP4.ext hsm.ext
      have hbm5 := hbm4.ext hsm.ext hP4.lt
      have hbg5 := hbg4.ext hsm.ext (by rw [hbq]; exact hP4.lt)
      have hbo5 := hbo4.ext hsm.ext hP4.lt
      have hE5 : Ext w W5 := hE4.trans hsm.ext
      clear hP4 hbm4 hbg4 hbo4 hE4 hsm
      go_wp2_with fail
      refine leaves_cons (f := 87) (args := #[.pointer (some ⟨bo + 1 + 1, 0, none⟩), .pointer (some ⟨w.heap.size, 0, none⟩), .pointer (some ⟨bo, 0, none⟩)]) (by simp) (by simp [go_sem]) ?_
      refine (end_ok w.heap.size _ S _ _ _ _ _ hP5 hbm5 (by rw [← hbq]; exact hbg5) hbo5 (by omega)).mono ?_
      rintro e u' w4 ⟨rfl, rfl, hg, ⟨vC, vN, vs, ho, hO⟩, hB⟩
      have cg := cell_of_heap hg
      have co := cell_of_heap ho
      have cg0 := cg 0
      have co0 := co 0
      have co1 := co 1
      have co2 := co 2
      have co3 := co 3
      refine ⟨.tuple #[.int .i64 a, .agg #[.bool true, vC, vN, vs]], ?_, hfin _ _ hO (Below.trans hE5 hB)⟩
      simp [results, Tryz.results17, go_sem, cg0, co0, co1, co2, co3]
  | none =>
    refine hT.mono ?_
    rintro e w3 ⟨rfl, hP3, hK3⟩
    have hbg3 := hbg.keep hK3
    have hbo3 := hbo.keep hK3
    have hbm3 := hbm.keep hK3
    have hE3 : Ext w w3 := Below.trans hE hK3.below
    clear hbg hbo hbm hE hK3 hT hP cbm hnf
    refine leaves_cons (f := 87) (args := #[.pointer (some ⟨w.heap.size + 1 + 1 + 1, 0, none⟩), .pointer (some ⟨w.heap.size, 0, none⟩), .pointer (some ⟨w.heap.size + 1, 0, none⟩)]) (by simp) (by simp [go_sem]) ?_
    refine (end_stop w.heap.size _ S _ _ _ _ [] _ hP3 hbm3 hbg3 hbo3 (Nat.le_refl _) (by omega)).mono ?_
    rintro e u' w4 ⟨rfl, rfl, hg, ⟨vC, vN, vs, ho, hO⟩, hB⟩
    have cg := cell_of_heap hg
    have co := cell_of_heap ho
    have cg0 := cg 0
    have co0 := co 0
    have co1 := co 1
    have co2 := co 2
    have co3 := co 3
    refine ⟨.tuple #[.int .i64 0, .agg #[.bool false, vC, vN, vs]], ?_, hfin _ _ hO (Below.trans hE3 hB)⟩
    simp [results, Tryz.results17, go_sem, cg0, co0, co1, co2, co3]
    trace_state
end Go.Proofs.YtpcohbpeglledaaGreat
/-
  Registers of the program: writing and reading one, of whichever kind.
-/
namespace Go.Proofs.YtpcohbpeglledaaGreat
open Go.RowKit Kv
set_option maxRecDepth 100000 in
set_option maxHeartbeats 2000000 in
theorem reg_write_p (B p : Nat) (S : TS) (r : Reg) (me v : Int) (w : World) (h : Plays B w p S) (hr : r.ok) (hm : 0 ≤ me ∧ me < r.n) :
    Calls Tryz.prog 89 #[.pointer (some ⟨p, 0, none⟩), encR r, .int .i64 me, .int .i64 v] w (Post encU B p w ((regW r me v).run S)) := by
  generalize hR : Post encU B p w ((regW r me v).run S) = R
  have hO : Owes R encU B p w ((regW r me v).run S) := hR ▸ owes _ _ _ _ _
  clear hR
  obtain ⟨hk, hb, hl, hn, hw⟩ := hr
  obtain ⟨kind, base, loc, n, wr, rd, top⟩ := r
  simp only at hk hb hl hn hw hm hO
  unfold encR
  have hK := Keep.refl [2, 3, 4] B p w
  have hP := h
  have b1 := hP.held (.cells #[.int .i64 kind, .int .i64 base, .int .i64 loc, .int .i64 n, .int .i64 wr, .int .i64 rd, .int .i64 top] 77)
  replace hK := hK.trans (Keep.alloc (.cells #[.int .i64 kind, .int .i64 base, .int .i64 loc, .int .i64 n, .int .i64 wr, .int .i64 rd, .int .i64 top] 77) hP.lt hP.le)
  replace hP := hP.alloc (.cells #[.int .i64 kind, .int .i64 base, .int .i64 loc, .int .i64 n, .int .i64 wr, .int .i64 rd, .int .i64 top] 77)
  have c_b1 := b1.cells
  clear h
  unfold regW at hO
  simp only at hO
  rcases hk with rfl | rfl | rfl
  · simp at hO
    go_enter Tryz.func89, Tryz.ntmps89
    go_wp2_with fail
    refine tlast hO hK (write_p B p S _ _ _ hP) (fun _ h => ⟨rfl, h⟩) ?_
    clear hO hK hP c_b1
    intro u S w1 hr hP hk hK hO
    replace b1 := b1.keep hk
    have c_b1 := b1.cells
    clear hk hr
    go_wp2_with fail
    first | go_end0 | refine bodyPost_ret (results_none rfl _ _ _) rfl ?_
    exact hO.done hP hK
  · simp at hO
    obtain ⟨hw1, hw2⟩ := hw rfl
    clear hw
    go_enter Tryz.func89, Tryz.ntmps89
    go_wp2_with fail
    refine tlast hO hK (table_write_p B p S ⟨6, base, loc, n, wr, rd, top⟩ me v _ hP hn.1 hn.2 hw1 hw2 hb.1 (by simp only; omega) hl.1 (by simp only; omega)) (fun _ h => ⟨rfl, h⟩) ?_
    clear hO hK hP c_b1
    intro u S w1 hr hP hk hK hO
    replace b1 := b1.keep hk
    have c_b1 := b1.cells
    clear hk hr
    go_wp2_with fail
    first | go_end0 | refine bodyPost_ret (results_none rfl _ _ _) rfl ?_
    exact hO.done hP hK
  · simp at hO
    go_enter Tryz.func89, Tryz.ntmps89
    go_wp2_with fail
    refine tlast hO hK (many_write_p B p S ⟨7, base, loc, n, wr, rd, top⟩ me v _ hP hn.1 hn.2 hm hb.1 (by simp only; omega) hl.1 (by simp only; omega)) (fun _ h => ⟨rfl, h⟩) ?_
    clear hO hK hP c_b1
    intro u S w1 hr hP hk hK hO
    replace b1 := b1.keep hk
    have c_b1 := b1.cells
    clear hk hr
    go_wp2_with fail
    first | go_end0 | refine bodyPost_ret (results_none rfl _ _ _) rfl ?_
    exact hO.done hP hK
set_option maxRecDepth 100000 in
set_option maxHeartbeats 2000000 in
theorem reg_read_p (B p : Nat) (S : TS) (r : Reg) (me : Int) (w : World) (h : Plays B w p S) (hr : r.ok) (hm : 0 ≤ me ∧ me < r.n) :
    Calls Tryz.prog 90 #[.pointer (some ⟨p, 0, none⟩), encR r, .int .i64 me] w (Post encI B p w ((regR r me).run S)) := by
  generalize hR : Post encI B p w ((regR r me).run S) = R
  have hO : Owes R encI B p w ((regR r me).run S) := hR ▸ owes _ _ _ _ _
  clear hR
  obtain ⟨hk, hb, hl, hn, hw⟩ := hr
  obtain ⟨kind, base, loc, n, wr, rd, top⟩ := r
  simp only at hk hb hl hn hw hm hO
  unfold encR
  have hK := Keep.refl [2, 3, 4] B p w
  have hP := h
  have b1 := hP.held (.cells #[.int .i64 kind, .int .i64 base, .int .i64 loc, .int .i64 n, .int .i64 wr, .int .i64 rd, .int .i64 top] 77)
  replace hK := hK.trans (Keep.alloc (.cells #[.int .i64 kind, .int .i64 base, .int .i64 loc, .int .i64 n, .int .i64 wr, .int .i64 rd, .int .i64 top] 77) hP.lt hP.le)
  replace hP := hP.alloc (.cells #[.int .i64 kind, .int .i64 base, .int .i64 loc, .int .i64 n, .int .i64 wr, .int .i64 rd, .int .i64 top] 77)
  have c_b1 := b1.cells
  clear h
  unfold regR at hO
  simp only at hO
  rcases hk with rfl | rfl | rfl
  · simp at hO
    go_enter Tryz.func90, Tryz.ntmps90
    go_wp2_with fail
    refine tlast hO hK (read_p B p S _ _ hP) (fun _ h => ⟨rfl, h⟩) ?_
    clear hO hK hP c_b1
    intro x S w1 hr hP hk hK hO
    replace b1 := b1.keep hk
    have c_b1 := b1.cells
    clear hk hr
    go_wp2_with fail
    exact hO.done hP hK
  · simp at hO
    obtain ⟨hw1, hw2⟩ := hw rfl
    clear hw
    go_enter Tryz.func90, Tryz.ntmps90
    go_wp2_with fail
    refine tlast hO hK (table_read_p B p S ⟨6, base, loc, n, wr, rd, top⟩ me _ hP hn.1 hn.2 hw1 hw2 hm hb.1 (by simp only; omega) hl.1 (by simp only; omega)) (fun _ h => ⟨rfl, h⟩) ?_
    clear hO hK hP c_b1
    intro x S w1 hr hP hk hK hO
    replace b1 := b1.keep hk
    have c_b1 := b1.cells
    clear hk hr
    go_wp2_with fail
    exact hO.done hP hK
  · simp at hO
    go_enter Tryz.func90, Tryz.ntmps90
    go_wp2_with fail
    refine tlast hO hK (many_read_p B p S ⟨7, base, loc, n, wr, rd, top⟩ me _ hP hn.1 hn.2 hm hb.1 (by simp only; omega) hl.1 (by simp only; omega)) (fun _ h => ⟨rfl, h⟩) ?_
    clear hO hK hP c_b1
    intro x S w1 hr hP hk hK hO
    replace b1 := b1.keep hk
    have c_b1 := b1.cells
    clear hk hr
    go_wp2_with fail
    exact hO.done hP hK
end Go.Proofs.YtpcohbpeglledaaGreat
/-
  The splitter: passing it, by the program.
-/
namespace Go.Proofs.YtpcohbpeglledaaGreat
open Go.RowKit Kv
theorem RegsAt.ext {ix : List Nat} {p b : Nat} {w w' : World} {l : List Reg} (h : RegsAt ix w p b l) (hx : Ext w w') (hp : p < w.heap.size) : RegsAt ix w' p b l := h.keep (B := 0) (Keep.of_ext hx hp (Nat.zero_le _))
theorem two_boxes {B p : Nat} {w : World} {S : TS} (h : Plays B w p S) (o1 o2 : Obj) :
    HeldP ((w.alloc o1).alloc o2).drew p w.heap.size o1 ∧ HeldP ((w.alloc o1).alloc o2).drew p (w.heap.size + 1) o2 ∧ Plays B ((w.alloc o1).alloc o2).drew p S ∧ KeepP B p w ((w.alloc o1).alloc o2).drew := by
  have h2 := (h.alloc o1).held o2
  rw [World.size_alloc] at h2
  exact ⟨((h.held o1).alloc o2 (h.alloc o1).lt).drew, h2.drew, ((h.alloc o1).alloc o2).drew, ((Keep.alloc o1 h.lt h.le).trans (Keep.alloc o2 (h.alloc o1).lt (h.alloc o1).le)).drew⟩
set_option maxRecDepth 100000 in
set_option maxHeartbeats 4000000 in
theorem pass_p (B p : Nat) (S : TS) (x y : Reg) (me : Int) (b c : Nat) (w : World) (h : Plays B w p S) (hl : RegsAt [2, 3, 4] w p b [x, y]) (hx : x.ok) (hy : y.ok) (hm : 0 ≤ me) (hmx : me < x.n) (hmy : me < y.n) :
    Calls Tryz.prog 19 #[.pointer (some ⟨p, 0, none⟩), .slice (some ⟨b, 0, none⟩) 2 c, .int .i64 me] w (Post encI B p w ((passM x y me).run S)) := by
  generalize hR : Post encI B p w ((passM x y me).run S) = R
  have hO : Owes R encI B p w ((passM x y me).run S) := hR ▸ owes _ _ _ _ _
  clear hR
  have hmw := IntWalk.i64_in (me + 1) (by have := hx.n; omega)
  obtain ⟨⟨c0, c1, c2, c3, c4, c5, c6⟩, ⟨c7, c8, c9, c10, c11, c12, c13⟩⟩ := hl.two
  have hn := hx.n
  have hK := Keep.refl [2, 3, 4] B p w
  have hP := h
  clear h
  unfold passM at hO
  go_enter Tryz.func19, Tryz.ntmps19
  go_wp2_with fail
  go_region_held2 (fun w' => (w'.cell? ⟨b, 0, none⟩ = some (.int .i64 x.kind) ∧ w'.cell? ⟨b, 1, none⟩ = some (.int .i64 x.base) ∧ w'.cell? ⟨b, 2, none⟩ = some (.int .i64 x.loc) ∧ w'.cell? ⟨b, 3, none⟩ = some (.int .i64 x.n) ∧ w'.cell? ⟨b, 4, none⟩ = some (.int .i64 x.wr) ∧ w'.cell? ⟨b, 5, none⟩ = some (.int .i64 x.rd) ∧ w'.cell? ⟨b, 6, none⟩ = some (.int .i64 x.top)) ∧
      (w'.cell? ⟨b, 7, none⟩ = some (.int .i64 y.kind) ∧ w'.cell? ⟨b, 8, none⟩ = some (.int .i64 y.base) ∧ w'.cell? ⟨b, 9, none⟩ = some (.int .i64 y.loc) ∧ w'.cell? ⟨b, 10, none⟩ = some (.int .i64 y.n) ∧ w'.cell? ⟨b, 11, none⟩ = some (.int .i64 y.wr) ∧ w'.cell? ⟨b, 12, none⟩ = some (.int .i64 y.rd) ∧ w'.cell? ⟨b, 13, none⟩ = some (.int .i64 y.top))) (first | with_reducible exact hl.two | go_keep) (fail)
  · rename_i hh
    clear hh
    obtain ⟨b1, b2, hP2, hK2⟩ := two_boxes hP (.cells #[.int .i64 x.kind, .int .i64 x.base, .int .i64 x.loc, .int .i64 x.n, .int .i64 x.wr, .int .i64 x.rd, .int .i64 x.top] 77) (.cells #[.int .i64 y.kind, .int .i64 y.base, .int .i64 y.loc, .int .i64 y.n, .int .i64 y.wr, .int .i64 y.rd, .int .i64 y.top] 77)
    clear hP hK hl
    have hP := hP2
    have hK := hK2
    clear hP2 hK2
    have c_b1 := b1.cells
    have c_b2 := b2.cells
    clear c0 c1 c2 c3 c4 c5 c6 c7 c8 c9 c10 c11 c12 c13
    go_wp2_with fail
    refine tstep hO hK (reg_write_p B p S x me (me + 1) _ hP hx ⟨hm, hmx⟩) (fun _ h => ⟨rfl, h⟩) ?_
    clear hO hK hP c_b1 c_b2
    intro u S w1 hr hP hk hK hO
    replace b1 := b1.keep hk
    have c_b1 := b1.cells
    replace b2 := b2.keep hk
    have c_b2 := b2.cells
    clear hk hr
    go_wp2_with fail
    refine tstep hO hK (reg_read_p B p S y me _ hP hy ⟨hm, hmy⟩) (fun _ h => ⟨rfl, h⟩) ?_
    clear hO hK hP c_b1 c_b2
    intro v S w1 hr hP hk hK hO
    replace b1 := b1.keep hk
    have c_b1 := b1.cells
    replace b2 := b2.keep hk
    have c_b2 := b2.cells
    clear hk hr
    by_cases hv : v = 0
    · rw [if_neg (by simpa using hv)] at hO
      have hv2 : (v != 0) = false := by simp [hv]
      clear hv
      go_wp2_with fail
      refine tstep hO hK (reg_write_p B p S y me 1 _ hP hy ⟨hm, hmy⟩) (fun _ h => ⟨rfl, h⟩) ?_
      clear hO hK hP c_b1 c_b2
      intro u S w1 hr hP hk hK hO
      replace b1 := b1.keep hk
      have c_b1 := b1.cells
      replace b2 := b2.keep hk
      have c_b2 := b2.cells
      clear hk hr
      go_wp2_with fail
      refine tstep hO hK (reg_read_p B p S x me _ hP hx ⟨hm, hmx⟩) (fun _ h => ⟨rfl, h⟩) ?_
      clear hO hK hP c_b1 c_b2
      intro z S w1 hr hP hk hK hO
      replace b1 := b1.keep hk
      have c_b1 := b1.cells
      replace b2 := b2.keep hk
      have c_b2 := b2.cells
      clear hk hr
      by_cases hz : z = me + 1
      · rw [if_pos hz] at hO
        have hz2 : (z == me + 1) = true := by simp [hz]
        clear hz
        have hf : R (.returned (.int .i64 0)) w1 := hO.done hP hK
        clear hO hP hK
        go_wp2_with fail
        exact hf
      · rw [if_neg hz] at hO
        have hz2 : (z == me + 1) = false := by rw [beq_eq_false_iff_ne]; exact hz
        clear hz
        have hf : R (.returned (.int .i64 2)) w1 := hO.done hP hK
        clear hO hP hK
        go_wp2_with fail
        exact hf
    · rw [if_pos hv] at hO
      have hv2 : (v != 0) = true := by rw [bne_iff_ne]; exact hv
      have hf : R (.returned (.int .i64 1)) w1 := hO.done hP hK
      clear hO hP hK hv
      go_wp2_with fail
      exact hf
  · rename_i hh
    clear hh
    obtain ⟨b2, b1, hP2, hK2⟩ := two_boxes hP (.cells #[.int .i64 y.kind, .int .i64 y.base, .int .i64 y.loc, .int .i64 y.n, .int .i64 y.wr, .int .i64 y.rd, .int .i64 y.top] 77) (.cells #[.int .i64 x.kind, .int .i64 x.base, .int .i64 x.loc, .int .i64 x.n, .int .i64 x.wr, .int .i64 x.rd, .int .i64 x.top] 77)
    clear hP hK hl
    have hP := hP2
    have hK := hK2
    clear hP2 hK2
    have c_b1 := b1.cells
    have c_b2 := b2.cells
    clear c0 c1 c2 c3 c4 c5 c6 c7 c8 c9 c10 c11 c12 c13
    go_wp2_with fail
    refine tstep hO hK (reg_write_p B p S x me (me + 1) _ hP hx ⟨hm, hmx⟩) (fun _ h => ⟨rfl, h⟩) ?_
    clear hO hK hP c_b1 c_b2
    intro u S w1 hr hP hk hK hO
    replace b1 := b1.keep hk
    have c_b1 := b1.cells
    replace b2 := b2.keep hk
    have c_b2 := b2.cells
    clear hk hr
    go_wp2_with fail
    refine tstep hO hK (reg_read_p B p S y me _ hP hy ⟨hm, hmy⟩) (fun _ h => ⟨rfl, h⟩) ?_
    clear hO hK hP c_b1 c_b2
    intro v S w1 hr hP hk hK hO
    replace b1 := b1.keep hk
    have c_b1 := b1.cells
    replace b2 := b2.keep hk
    have c_b2 := b2.cells
    clear hk hr
    by_cases hv : v = 0
    · rw [if_neg (by simpa using hv)] at hO
      have hv2 : (v != 0) = false := by simp [hv]
      clear hv
      go_wp2_with fail
      refine tstep hO hK (reg_write_p B p S y me 1 _ hP hy ⟨hm, hmy⟩) (fun _ h => ⟨rfl, h⟩) ?_
      clear hO hK hP c_b1 c_b2
      intro u S w1 hr hP hk hK hO
      replace b1 := b1.keep hk
      have c_b1 := b1.cells
      replace b2 := b2.keep hk
      have c_b2 := b2.cells
      clear hk hr
      go_wp2_with fail
      refine tstep hO hK (reg_read_p B p S x me _ hP hx ⟨hm, hmx⟩) (fun _ h => ⟨rfl, h⟩) ?_
      clear hO hK hP c_b1 c_b2
      intro z S w1 hr hP hk hK hO
      replace b1 := b1.keep hk
      have c_b1 := b1.cells
      replace b2 := b2.keep hk
      have c_b2 := b2.cells
      clear hk hr
      by_cases hz : z = me + 1
      · rw [if_pos hz] at hO
        have hz2 : (z == me + 1) = true := by simp [hz]
        clear hz
        have hf : R (.returned (.int .i64 0)) w1 := hO.done hP hK
        clear hO hP hK
        go_wp2_with fail
        exact hf
      · rw [if_neg hz] at hO
        have hz2 : (z == me + 1) = false := by rw [beq_eq_false_iff_ne]; exact hz
        clear hz
        have hf : R (.returned (.int .i64 2)) w1 := hO.done hP hK
        clear hO hP hK
        go_wp2_with fail
        exact hf
    · rw [if_pos hv] at hO
      have hv2 : (v != 0) = true := by rw [bne_iff_ne]; exact hv
      have hf : R (.returned (.int .i64 1)) w1 := hO.done hP hK
      clear hO hP hK hv
      go_wp2_with fail
      exact hf
end Go.Proofs.YtpcohbpeglledaaGreat
/-
  Two lists of ints compared by the document.
-/
namespace Go.Proofs.YtpcohbpeglledaaGreat
open Go.RowKit Kv
theorem take_snoc_eq {a b : List Int} {k : Nat} (ha : k < a.length) (hb : k < b.length) (h : a.take k = b.take k) : (a.take (k + 1) = b.take (k + 1)) ↔ a.getD k 0 = b.getD k 0 := by
  rw [List.take_succ_eq_append_getElem ha, List.take_succ_eq_append_getElem hb, h]
  rw [List.append_cancel_left_eq]
  simp [List.getD, List.getElem?_eq_getElem ha, List.getElem?_eq_getElem hb]
theorem ints_r (v1 v2 : Value) (a b : List Int) (w : World) (h1 : Ints w v1 a) (h2 : Ints w v2 b) :
    Calls Tryz.prog 67 #[v1, v2] w fun e w' => e = .returned (.bool (decide (a = b))) ∧ Drew w w' := by
  obtain ⟨A, c, rfl, q1, q2⟩ := h1.slice
  obtain ⟨B, d, rfl, q3, q4⟩ := h2.slice
  by_cases hl : a.length = b.length
  · have H : Hid (a.length = b.length) := hl
    rw [← hl] at h2 q3 ⊢
    have l1 : a.length ≤ 9223372036854775807 := by omega
    clear hl
    go_enter Tryz.func67, Tryz.ntmps67
    go_wp2_with fail
    go_loopw [5] (fun i wr => ∃ j : Nat, i = .int .i64 j ∧ j ≤ a.length ∧ Hid (a.take j = b.take j) ∧ Drew w wr) (fun i _ => a.length - (intOf i).toNat)
    case atStart => exact ⟨0, rfl, by omega, by simp [Hid], Drew.rfl' _⟩
    case round =>
      obtain ⟨j, rfl, hj, ht, hd⟩ := hrel
      by_cases hlt : j < a.length
      · obtain ⟨b1, o1, rfl, hb1, hc1⟩ := h1.at_ hlt
        obtain ⟨b2, o2, rfl, hb2, hc2⟩ := h2.at_ hlt
        obtain ⟨n, rfl⟩ := hd
        have hlt2 : j < b.length := by rw [← H.out]; exact hlt
        have T := Lib.hid (take_snoc_eq hlt hlt2 ht.out)
        rw [List.getD_eq_getElem?_getD, List.getElem?_eq_getElem hlt, Option.getD_some] at hc1
        rw [List.getD_eq_getElem?_getD, List.getElem?_eq_getElem hlt2, Option.getD_some] at hc2
        clear h1 h2
        by_cases hx : a[j] = b[j]
        · have d1 : (a[j] == b[j]) = true := by rw [beq_iff_eq]; exact hx
          have d2 : (a[j] != b[j]) = false := by rw [bne_eq_false_iff_eq]; exact hx
          have HX := Lib.hid hx
          clear hx
          go_wp2_with fail
          go_quiet (fail)
          go_wp2_with fail
          refine ⟨⟨j + 1, by go_num, by omega, T.out.2 (by simpa [List.getD, hlt, hlt2] using HX.out), Drew.mk' _ _⟩, ?_⟩
          simp [intOf]; omega
        · have d1 : (a[j] == b[j]) = false := by rw [beq_eq_false_iff_ne]; exact hx
          have d2 : (a[j] != b[j]) = true := by rw [bne_iff_ne]; exact hx
          have HX := Lib.hid hx
          clear hx
          go_wp2_with fail
          go_quiet (fail)
          go_wp2_with fail
          go_ret
          refine ⟨ret_bool ?_, (Drew.mk' _ _).trans (Drew.mk' _ _)⟩
          symm
          rw [decide_eq_false_iff_not]
          rintro rfl
          exact HX.out rfl
      · obtain rfl : j = a.length := by omega
        have E : Hid (a = b) := by
          have := ht.out
          rw [List.take_length, H.out, List.take_length] at this
          exact this
        go_wp2_with fail
        go_ret
        refine ⟨ret_bool ?_, hd⟩
        simp [E.out]
  · have d1 : ((a.length : Int) != (b.length : Int)) = true := by rw [bne_iff_ne]; omega
    have H : Hid (decide (a = b) = false) := by
      unfold Hid
      rw [decide_eq_false_iff_not]
      intro he
      exact hl (by rw [he])
    clear hl
    go_enter Tryz.func67, Tryz.ntmps67
    go_wp2_with fail
    go_ret
    exact ⟨ret_bool H.out.symm, Drew.rfl' _⟩
end Go.Proofs.YtpcohbpeglledaaGreat
/-
  Two Outs compared by the document.
-/
namespace Go.Proofs.YtpcohbpeglledaaGreat
open Go.RowKit Kv
set_option maxRecDepth 100000 in
set_option maxHeartbeats 1000000 in
theorem same_r (va vb : Value) (d : Bool) (S : TS) (w : World) (ha : Outs w va d S) (hb : Outs w vb d S) :
    Calls Tryz.prog 22 #[va, vb] w fun e w' => e = .returned (.bool true) ∧ Ext w w' := by
  obtain ⟨A, c, A', c', vs, L, rfl, ha⟩ := ha
  obtain ⟨D, k, D', k', vt, M, rfl, hb⟩ := hb
  have hs := shortL_eq (L := L) (L' := M) (fun i => (ha.is i).symm.trans (hb.is i))
  unfold outV
  obtain ⟨As, cs, rfl, r1, r2⟩ := ha.locs.slice
  obtain ⟨Bs, ds, rfl, r3, r4⟩ := hb.locs.slice
  have q1 := ha.accc
  have q2 := ha.ntsc
  have q3 := hb.accc
  have q4 := hb.ntsc
  have hX := Ext.refl w
  have b1 := Blk.new w (.cells #[.bool d, .slice A S.acc.length c, .slice A' S.nts.length c', .slice As (shortL L).length cs] 36)
  replace hX := hX.alloc (.cells #[.bool d, .slice A S.acc.length c, .slice A' S.nts.length c', .slice As (shortL L).length cs] 36)
  have b2 := Blk.new (w.alloc (.cells #[.bool d, .slice A S.acc.length c, .slice A' S.nts.length c', .slice As (shortL L).length cs] 36)) (.cells #[.bool d, .slice D S.acc.length k, .slice D' S.nts.length k', .slice Bs (shortL M).length ds] 36)
  simp only [World.size_alloc] at b2
  replace b1 := b1.alloc (.cells #[.bool d, .slice D S.acc.length k, .slice D' S.nts.length k', .slice Bs (shortL M).length ds] 36)
  replace hX := hX.alloc (.cells #[.bool d, .slice D S.acc.length k, .slice D' S.nts.length k', .slice Bs (shortL M).length ds] 36)
  have c_b1 := b1.cells
  have c_b2 := b2.cells
  have ha1 := Lib.hid (ha.ext hX)
  have hb1 := Lib.hid (hb.ext hX)
  have hdd : (d != d) = false := by cases d <;> rfl
  have hsh := Lib.hid hs
  clear ha hb hs
  go_enter Tryz.func22, Tryz.ntmps22
  go_wp2_with fail
  refine (ints_r _ _ _ _ _ ha1.out.locs hb1.out.locs).mono ?_
  rintro e w1 ⟨rfl, hd1⟩
  rw [show decide (shortL L = shortL M) = true from by rw [hsh.out]; simp]
  have hx1 := hd1.ext
  have ha2 := Lib.hid (ha1.out.ext hx1)
  have hb2 := Lib.hid (hb1.out.ext hx1)
  clear c_b1 c_b2 ha1 hb1 hsh
  replace b1 := b1.ext hx1
  replace b2 := b2.ext hx1
  replace hX := hX.trans hx1
  clear hx1 hd1
  have c_b1 := b1.cells
  have c_b2 := b2.cells
  go_wp2_with fail
  go_loopw [5] (fun i wr => ∃ j : Nat, i = .int .i64 j ∧ j ≤ S.acc.length ∧ Drew w1 wr) (fun i _ => S.acc.length - (intOf i).toNat)
  case atStart => exact ⟨0, rfl, by omega, Drew.rfl' _⟩
  case round =>
    obtain ⟨j, rfl, hj, n, rfl⟩ := hrel
    by_cases hl : j < S.acc.length
    · obtain ⟨x, hxj⟩ : ∃ x, S.acc[j]? = some x := ⟨_, List.getElem?_eq_getElem hl⟩
      obtain ⟨p1, rfl, hp1, e1, e2, e3⟩ := ha2.out.accs.at_ hxj
      obtain ⟨p2, rfl, hp2, e4, e5, e6⟩ := hb2.out.accs.at_ hxj
      obtain ⟨x1, x2, x3⟩ := x
      simp only at e1 e2 e3 e4 e5 e6
      clear hxj
      go_wp2_with fail
      go_quiet (fail)
      go_wp2_with fail
      refine ⟨⟨j + 1, by go_num, by omega, by first | exact Drew.mk' _ _ | exact (Drew.mk' w1 n).trans (Drew.mk' _ _)⟩, ?_⟩
      simp [intOf]; omega
    · have hD : Drew w1 (w1.drewN n) := Drew.mk' _ _
      go_wp2_with fail
      go_loopw [6] (fun i wr => ∃ j : Nat, i = .int .i64 j ∧ j ≤ S.nts.length ∧ Drew w1 wr) (fun i _ => S.nts.length - (intOf i).toNat)
      case atStart => exact ⟨0, rfl, by omega, hD⟩
      case round =>
        obtain ⟨j, rfl, hj, n, rfl⟩ := hrel
        by_cases hl : j < S.nts.length
        · obtain ⟨x, hxj⟩ : ∃ x, S.nts[j]? = some x := ⟨_, List.getElem?_eq_getElem hl⟩
          obtain ⟨p1, rfl, hp1, e1, e2⟩ := ha2.out.nts.at_ hxj
          obtain ⟨p2, rfl, hp2, e4, e5⟩ := hb2.out.nts.at_ hxj
          obtain ⟨x1, x2⟩ := x
          simp only at e1 e2 e4 e5
          clear hxj
          go_wp2_with fail
          go_quiet (fail)
          go_wp2_with fail
          refine ⟨⟨j + 1, by go_num, by omega, by first | exact Drew.mk' _ _ | exact (Drew.mk' w1 n).trans (Drew.mk' _ _)⟩, ?_⟩
          simp [intOf]; omega
        · go_wp2_with fail
          go_ret
          exact ⟨rfl, hX.trans (Drew.mk' w1 n).ext⟩
end Go.Proofs.YtpcohbpeglledaaGreat
/-
  The frame of a law's statement, for any law that returns true and leaves all that was there as it was: what its row's post asks.
-/
namespace Go.Proofs.YtpcohbpeglledaaGreat
open Go.RowKit Go.WideShapes Go.ChangeShapes
section
variable {H : Type} {enc : TypeId × Value → H} {P : Program}
theorem post_of_below {f : Func} {s : ChangeSpec} {apart fresh handsOn again : Bool} {W W' : World} {args : Array Value} {v : Value} {ds gs : List (DataW H)} {before pa pv : List MemPlace}
    (hW : DataW.Whole enc P f.params.toList s.vars apart W args.toList ds gs before)
    (hres : ∀ (b : Nat) (sp : Nat → Bool) (hd : Bool), DataW.TrodAll enc P W' b sp hd f.resultTypes.toList (v.resultList f.resultTypes.size) (s.fn H (ds ++ gs)).results [])
    (hargs : ∀ sp : Nat → Bool, (∀ p ∈ before, sp p.block = true) → DataW.TrodAll enc P W' 0 sp true f.params.toList args.toList (s.fn H (ds ++ gs)).args pa)
    (hvars : ∀ sp : Nat → Bool, (∀ p ∈ before, sp p.block = true) → DataW.TrodVars enc P W' sp s.vars (s.fn H (ds ++ gs)).vars pv)
    (hps : before = pa ++ pv) (hb : Below W.heap.size W W')
    (hok : ∀ (j : Nat) (t : TypeId) (r : Value), f.resultTypes[j]? = some t → (v.resultList f.resultTypes.size)[j]? = some r → Value.okWide P W' .any 0 t r) :
    s.post enc P f apart fresh handsOn again W args v W' := by
  have hlt : ∀ p ∈ before, p.block < W.heap.size := fun p hp => hW.lt p hp
  have hold : ∀ p ∈ before, (fun b => decide (b < W.heap.size)) p.block = true := fun p hp => by simpa using hlt p hp
  refine ⟨ds, gs, before, [], pa, pv, hW, hres _ _ _, hargs _ hold, hvars _ hold, World.keptBut_mono (fun p hp => ⟨hp, ?_⟩) (hb.frame (· ∈ before)), fun _ => ?_⟩
  · rw [hps, List.mem_append] at hp
    exact Or.inr hp
  · obtain ⟨_, _, _, _, _, hz, hn⟩ := hW
    refine ⟨hok, _, _, ([] ++ pa) ++ pv, ⟨[] ++ pa, pv, trodAll_append (hargs _ (fun _ _ => rfl)) (hres _ _ _), hvars _ (fun _ _ => rfl), rfl, ?_, ?_⟩, ?_⟩
    · intro b off hp
      have hin : MemPlace.cell b off ∈ before := by rw [hps]; simpa using hp
      rw [hb.frozen (hlt _ hin)]
      exact hz b off hin
    · intro ha
      have := hn ha
      rw [hps] at this
      simpa using this
    · intro p hp _
      rw [hps]
      simpa using hp
end
section
variable {H : Type} {enc : TypeId × Value → H} {P : Program}
theorem trodAll_stays (hl : laidOutB P = true) : ∀ (ts : List TypeId), (∀ t ∈ ts, P.readableRec t = true ∧ t < P.types.size) → ∀ {W W' : World} {sp : Nat → Bool} {vs : List Value} {ds : List (DataW H)} {ps : List MemPlace},
    DataW.TrodAll enc P W 0 (fun _ => true) true ts vs ds ps → (∀ p ∈ ps, W.sameAt W' p) → (∀ p ∈ ps, sp p.block = true) → DataW.TrodAll enc P W' 0 sp true ts vs ds ps
  | [], _, W, W', sp, vs, ds, ps, h, _, _ => by
    cases vs <;> cases ds <;> simp_all [DataW.TrodAll]
  | t :: ts, ht, W, W', sp, vs, ds, ps, h, hs, hsp => by
    obtain ⟨v, vs', d, ds', p, q, rfl, rfl, rfl, hp, hq⟩ := trodAll_cons h
    have h1 := ht t (by simp)
    refine trodAll_cons_mk (WideElems.Trod_stays hl h1.1 h1.2 hp (fun x hx => hs x (by simp [hx])) (fun x hx => hsp x (by simp [hx]))) ?_
    exact trodAll_stays hl ts (fun t' h' => ht t' (by simp [h'])) hq (fun x hx => hs x (by simp [hx])) (fun x hx => hsp x (by simp [hx]))
theorem trodAll_length : ∀ (ts : List TypeId) {W : World} {b : Nat} {sp : Nat → Bool} {held : Bool} {vs : List Value} {ds : List (DataW H)} {ps : List MemPlace}, DataW.TrodAll enc P W b sp held ts vs ds ps → ds.length = ts.length
  | [], W, b, sp, held, vs, ds, ps, h => by cases vs <;> cases ds <;> simp_all [DataW.TrodAll]
  | t :: ts, W, b, sp, held, vs, ds, ps, h => by
    obtain ⟨v, vs', d, ds', p, q, rfl, rfl, rfl, hp, hq⟩ := trodAll_cons h
    simp [trodAll_length ts hq]
/-- THE FRAME: of a law with one bool result. -/
theorem law_post {f : Func} {s : ChangeSpec} {W W' : World} {args : Array Value} {ds gs : List (DataW H)} {before : List MemPlace} {tb : TypeId}
    (hl : laidOutB P = true) (hr : ∀ t ∈ f.params.toList, P.readableRec t = true ∧ t < P.types.size) (hres : f.resultTypes = #[tb]) (htb : P.underlying tb = some .bool)
    (hvars : s.vars = []) (hspec : ∀ ds : List (DataW H), ds.length = f.params.size → s.fn H ds = { results := [.lit (.bool true)], args := ds })
    (hW : DataW.Whole enc P f.params.toList s.vars false W args.toList ds gs before) (hx : Ext W W') :
    s.post enc P f false true false false W args (.bool true) W' := by
  have hWlt : ∀ p ∈ before, p.block < W.heap.size := fun p hp => hW.lt p hp
  obtain ⟨p, q, hA, hV, hpq, hfz, hnd⟩ := hW
  rw [hvars] at hV
  have hgs : gs = [] ∧ q = [] := trodVars_none hV
  obtain ⟨rfl, rfl⟩ := hgs
  have hlen := trodAll_length _ hA
  have hsp := hspec ds (by rw [hlen]; simp)
  have hb : before = p := by rw [hpq]; simp
  subst hb
  have hn : f.resultTypes.size = 1 := by rw [hres]; rfl
  have hlo : (Value.bool true).resultList f.resultTypes.size = [Value.bool true] := by rw [hn]; rfl
  have e0 : ds ++ ([] : List (DataW H)) = ds := List.append_nil _
  refine post_of_below (pa := before) (pv := []) (ds := ds) (gs := []) ⟨before, [], hA, by rw [hvars]; exact hV, hpq, hfz, hnd⟩ ?_ ?_ ?_ hpq hx ?_
  · intro b sp hd
    rw [e0, hsp, hlo, hres]
    exact trodAll_cons_mk (shut_bool htb _) trodAll_mk0
  · intro sp hsp'
    rw [e0, hsp]
    exact trodAll_stays hl _ hr hA (fun p hp => Below.same hx (hWlt p hp)) hsp'
  · intro sp _
    rw [e0, hsp, hvars]
    rfl
  · intro j t r ht hr'
    rw [hres] at ht
    rw [hlo] at hr'
    cases j with
    | zero =>
      obtain rfl : tb = t := by simpa using ht
      obtain rfl : Value.bool true = r := by simpa using hr'
      exact okWide_bool_mk htb _
    | succ j => simp at ht
end
end Go.Proofs.YtpcohbpeglledaaGreat
/-
  Arguments opened: a slice of ints that came in.
-/
namespace Go.Proofs.YtpcohbpeglledaaGreat
open Go.ChangeShapes Go.WideShapes Go.ChangeAt Go.RowKit Kv
theorem cellsInt : Tryz.prog.cellsOf 3 = 1 := by kernel_rfl
theorem cell_lt {w : World} {a : Addr} {v : Value} (h : w.cell? a = some v) : a.block < w.heap.size := by
  rcases Nat.lt_or_ge a.block w.heap.size with hlt | hge
  · exact hlt
  · simp [World.cell?, Array.getElem?_eq_none hge] at h
set_option maxRecDepth 100000 in
theorem ints_trod {H : Type} {enc : TypeId × Value → H} {W : World} {v : Value} {fuel : Nat} {x : DataW H × List MemPlace}
    (hf : DataW.trod enc Tryz.prog W 0 (fun _ => true) true fuel 22 [v] = some x) :
    ∃ l, Ints W v l ∧ ∀ x ∈ l, -9223372036854775808 ≤ x ∧ x ≤ 9223372036854775807 := by
  rcases open_ints Tryz.underlying22 Tryz.underlying3 cellsInt hf with ⟨hcs, hx⟩ | ⟨a, len', cap', zs, hcs, _, hl, hm, hz, hx, hcell, hwz⟩
  · obtain rfl : v = .slice none 0 0 := by simpa using hcs
    exact ⟨[], Ints.nil W, by simp⟩
  · obtain rfl : v = .slice (some a) len' cap' := by simpa using hcs
    simp only [if_true] at hz
    refine ⟨zs.take len', ?_, fun x hx => bounds_i64 (hwz x (List.mem_of_mem_take hx))⟩
    have hlen : (zs.take len').length = len' := by rw [List.length_take]; omega
    refine ⟨some a, cap', by rw [hlen], by omega, by unfold maxLen at hm; exact hm, fun hne => ?_⟩
    have hpos : 0 < zs.length := by
      rcases Nat.eq_zero_or_pos zs.length with h0 | h0
      · have : zs = [] := List.eq_nil_of_length_eq_zero h0
        subst this
        simp at hne
      · exact h0
    obtain ⟨b, off, rfl, hc⟩ := ints_at hcell hpos
    refine ⟨b, off, rfl, cell_lt (hc 0 hpos), fun i x hi => ?_⟩
    have hi2 : i < zs.length := by
      have := (List.getElem?_eq_some_iff.1 hi).1
      rw [List.length_take] at this
      omega
    rw [hc i hi2]
    have hi3 : i < len' := by
      have := (List.getElem?_eq_some_iff.1 hi).1
      omega
    rw [List.getElem?_take, if_pos hi3] at hi
    rw [List.getD_eq_getElem?_getD, hi]
    rfl
set_option maxRecDepth 100000 in
theorem ints_arg {H : Type} {enc : TypeId × Value → H} {W : World} {b0 : Nat} {r : Reach} {v : Value} {d : DataW H} {p : List MemPlace}
    (hv : Value.okWide Tryz.prog W r b0 22 v) (h : DataW.Trod enc Tryz.prog W 0 (fun _ => true) true 22 v d p) :
    ∃ l, Ints W v l ∧ ∀ x ∈ l, -9223372036854775808 ≤ x ∧ x ≤ 9223372036854775807 := by
  obtain ⟨a0, len, cap, rfl⟩ := okWide_slice Tryz.underlying22 hv
  obtain ⟨fuel, hf⟩ := h
  rcases open_ints Tryz.underlying22 Tryz.underlying3 cellsInt hf with ⟨hcs, hx⟩ | ⟨a, len', cap', zs, hcs, _, hl, hm, hz, hx, hcell, hwz⟩
  · simp [Value.cells] at hcs
    obtain ⟨rfl, rfl, rfl⟩ := hcs
    exact ⟨[], Ints.nil W, by simp⟩
  · simp [Value.cells] at hcs
    obtain ⟨rfl, rfl, rfl⟩ := hcs
    simp only [if_true] at hz
    refine ⟨zs.take len, ?_, fun x hx => bounds_i64 (hwz x (List.mem_of_mem_take hx))⟩
    have hlen : (zs.take len).length = len := by rw [List.length_take]; omega
    refine ⟨some a, cap, by rw [hlen], by omega, by unfold maxLen at hm; exact hm, fun hne => ?_⟩
    have hpos : 0 < zs.length := by
      rcases Nat.eq_zero_or_pos zs.length with h0 | h0
      · have : zs = [] := List.eq_nil_of_length_eq_zero h0
        subst this
        simp at hne
      · exact h0
    obtain ⟨b, off, rfl, hc⟩ := ints_at hcell hpos
    refine ⟨b, off, rfl, cell_lt (hc 0 hpos), fun i x hi => ?_⟩
    have hi2 : i < zs.length := by
      have := (List.getElem?_eq_some_iff.1 hi).1
      rw [List.length_take] at this
      omega
    rw [hc i hi2]
    have hi3 : i < len := by
      have := (List.getElem?_eq_some_iff.1 hi).1
      omega
    rw [List.getElem?_take, if_pos hi3] at hi
    rw [List.getD_eq_getElem?_getD, hi]
    rfl
end Go.Proofs.YtpcohbpeglledaaGreat
/-
  Struct arguments of five one-cell fields, by value (after the kit's page on structs).
-/
namespace Go.Proofs.YtpcohbpeglledaaGreat
open Go.Joins Go.ChangeShapes Go.WideShapes Go.RowKit Go.Deep
section
variable {H : Type} {enc : TypeId × Value → H} {P : Program} {w : World} {base : Nat} {spare : Nat → Bool} {held : Bool}
theorem open_agg5 {r : Reach} {b0 : Nat} {t : TypeId} {f0 f1 f2 f3 f4 : Field} {v : Value} {d : DataW H} {p : List MemPlace} (hs : P.underlying t = some (.struct #[f0, f1, f2, f3, f4])) (hone : oneCellFields P #[f0, f1, f2, f3, f4] = true) (hC : P.cellsOf t = 5)
    (hv : Value.okWide P w r b0 t v) (h : DataW.Trod enc P w base spare held t v d p) :
    ∃ (v0 v1 v2 v3 v4 : Value) (y0 y1 y2 y3 y4 : DataW H × List MemPlace) (n : Nat), v = .agg #[v0, v1, v2, v3, v4] ∧ d = .agg [y0.1, y1.1, y2.1, y3.1, y4.1] ∧ p = y0.2 ++ (y1.2 ++ (y2.2 ++ (y3.2 ++ y4.2))) ∧
      DataW.trod enc P w base spare held n f0.type [v0] = some y0 ∧ DataW.trod enc P w base spare held n f1.type [v1] = some y1 ∧ DataW.trod enc P w base spare held n f2.type [v2] = some y2 ∧ DataW.trod enc P w base spare held n f3.type [v3] = some y3 ∧ DataW.trod enc P w base spare held n f4.type [v4] = some y4 := by
  obtain ⟨cs, rfl, hsz⟩ := okWide_struct hs hv
  obtain ⟨l⟩ := cs
  match l, hsz.trans hC with
  | [c0, c1, c2, c3, c4], _ =>
    obtain ⟨fuel, hf⟩ := h
    obtain ⟨xs, n, _, hx, _, hlen, hg⟩ := DataW.trod_struct hs hf
    obtain ⟨o0, k0⟩ := hone_of hone 0 f0 rfl
    obtain ⟨o1, k1⟩ := hone_of hone 1 f1 rfl
    obtain ⟨o2, k2⟩ := hone_of hone 2 f2 rfl
    obtain ⟨o3, k3⟩ := hone_of hone 3 f3 rfl
    obtain ⟨o4, k4⟩ := hone_of hone 4 f4 rfl
    match xs, hlen with
    | [y0, y1, y2, y3, y4], _ =>
      simp only [Prod.mk.injEq] at hx
      exact ⟨c0, c1, c2, c3, c4, y0, y1, y2, y3, y4, n, rfl, by simpa using hx.1, by simpa using hx.2, by simpa [Value.cells, o0, k0] using hg 0 f0 rfl, by simpa [Value.cells, o1, k1] using hg 1 f1 rfl, by simpa [Value.cells, o2, k2] using hg 2 f2 rfl, by simpa [Value.cells, o3, k3] using hg 3 f3 rfl, by simpa [Value.cells, o4, k4] using hg 4 f4 rfl⟩

theorem open_agg6 {r : Reach} {b0 : Nat} {t : TypeId} {f0 f1 f2 f3 f4 f5 : Field} {v : Value} {d : DataW H} {p : List MemPlace} (hs : P.underlying t = some (.struct #[f0, f1, f2, f3, f4, f5])) (hone : oneCellFields P #[f0, f1, f2, f3, f4, f5] = true) (hC : P.cellsOf t = 6)
    (hv : Value.okWide P w r b0 t v) (h : DataW.Trod enc P w base spare held t v d p) :
    ∃ (v0 v1 v2 v3 v4 v5 : Value) (y0 y1 y2 y3 y4 y5 : DataW H × List MemPlace) (n : Nat), v = .agg #[v0, v1, v2, v3, v4, v5] ∧
      DataW.trod enc P w base spare held n f0.type [v0] = some y0 ∧ DataW.trod enc P w base spare held n f1.type [v1] = some y1 ∧ DataW.trod enc P w base spare held n f2.type [v2] = some y2 ∧ DataW.trod enc P w base spare held n f3.type [v3] = some y3 ∧ DataW.trod enc P w base spare held n f4.type [v4] = some y4 ∧ DataW.trod enc P w base spare held n f5.type [v5] = some y5 := by
  obtain ⟨cs, rfl, hsz⟩ := okWide_struct hs hv
  obtain ⟨l⟩ := cs
  match l, hsz.trans hC with
  | [c0, c1, c2, c3, c4, c5], _ =>
    obtain ⟨fuel, hf⟩ := h
    obtain ⟨xs, n, _, hx, _, hlen, hg⟩ := DataW.trod_struct hs hf
    obtain ⟨o0, k0⟩ := hone_of hone 0 f0 rfl
    obtain ⟨o1, k1⟩ := hone_of hone 1 f1 rfl
    obtain ⟨o2, k2⟩ := hone_of hone 2 f2 rfl
    obtain ⟨o3, k3⟩ := hone_of hone 3 f3 rfl
    obtain ⟨o4, k4⟩ := hone_of hone 4 f4 rfl
    obtain ⟨o5, k5⟩ := hone_of hone 5 f5 rfl
    match xs, hlen with
    | [y0, y1, y2, y3, y4, y5], _ =>
      exact ⟨c0, c1, c2, c3, c4, c5, y0, y1, y2, y3, y4, y5, n, rfl, by simpa [Value.cells, o0, k0] using hg 0 f0 rfl, by simpa [Value.cells, o1, k1] using hg 1 f1 rfl, by simpa [Value.cells, o2, k2] using hg 2 f2 rfl, by simpa [Value.cells, o3, k3] using hg 3 f3 rfl, by simpa [Value.cells, o4, k4] using hg 4 f4 rfl, by simpa [Value.cells, o5, k5] using hg 5 f5 rfl⟩

end
end Go.Proofs.YtpcohbpeglledaaGreat
/-
  What the frame of a plain law asks beside its walk.
-/
namespace Go.Proofs.YtpcohbpeglledaaGreat
theorem own : ownKnob Tryz.prog.godebug = none := by kernel_rfl
end Go.Proofs.YtpcohbpeglledaaGreat
/-
  The splitter: what any thread does that passes it is the document's, access by access.
-/
namespace Go.Proofs.YtpcohbpeglledaaGreat
open Go.RowKit Kv
/-- Registers that lay there ahead of a play. -/
theorem regsP {w0 w1 : World} {B p b : Nat} {S : TS} {rs : List Reg} (hb : b < w0.heap.size) (hc : ∀ (i : Nat) u, (rs.flatMap regVals)[i]? = some u → w0.cell? ⟨b, i, none⟩ = some u) (hx : Ext w0 w1) (hP : Plays B w1 p S) (hB : w0.heap.size ≤ B) : RegsAt [2, 3, 4] w1 p b rs := by
  refine ⟨Nat.lt_of_lt_of_le hb hx.size, fun ho => ?_, fun j u hu => (hx.cell (p := ⟨b, j, none⟩) hb).trans (hc j u hu)⟩
  obtain ⟨_, _, _, _, _, _, h⟩ := hP
  have := (h.own ho).1
  omega
theorem regsR {w0 w1 : World} {B p b : Nat} {o : Bool} {S : TS} {rs : List Reg} (hb : b < w0.heap.size) (hc : ∀ (i : Nat) u, (rs.flatMap regVals)[i]? = some u → w0.cell? ⟨b, i, none⟩ = some u) (hx : Ext w0 w1) (hP : RAt B w1 p o S) (hB : w0.heap.size ≤ B) : RegsAt [3, 4, 5] w1 p b rs := by
  refine ⟨Nat.lt_of_lt_of_le hb hx.size, fun ho => ?_, fun j u hu => (hx.cell (p := ⟨b, j, none⟩) hb).trans (hc j u hu)⟩
  obtain ⟨_, _, _, _, _, _, h, _⟩ := hP
  have := (h.own ho).1
  omega
theorem closure31 (B p : Nat) (S : TS) (x y : Reg) (t : Int) (b c bl bt : Nat) (w : World) (h : Plays B w p S) (hl : RegsAt [2, 3, 4] w p b [x, y]) (hx : x.ok) (hy : y.ok) (hm : 0 ≤ t) (hmx : t < x.n) (hmy : t < y.n)
    (c1 : w.cell? ⟨bl, 0, none⟩ = some (.slice (some ⟨b, 0, none⟩) 2 c)) (c2 : w.cell? ⟨bt, 0, none⟩ = some (.int .i64 t)) :
    Calls Tryz.prog 18 #[.pointer (some ⟨p, 0, none⟩), .pointer (some ⟨bl, 0, none⟩), .pointer (some ⟨bt, 0, none⟩)] w (Post encI B p w ((passM x y t).run S)) := by
  generalize hR : Post encI B p w ((passM x y t).run S) = R
  have hO : Owes R encI B p w ((passM x y t).run S) := hR ▸ owes _ _ _ _ _
  clear hR
  have hK := Keep.refl [2, 3, 4] B p w
  go_enter Tryz.func18, Tryz.ntmps18
  go_wp2_with fail
  clear c1 c2
  refine tlast hO hK (pass_p B p S x y t b c w h hl hx hy hm hmx hmy) (fun _ h => ⟨rfl, h⟩) ?_
  intro v S1 w1 hr hP1 hk1 hK1 hO1
  have hf := hO1.done hP1 hK1
  clear hO1 hP1 hK1 hr hk1 hO h hl hK
  go_wp2_with fail
  exact hf
theorem alive31a (B p : Nat) (S : TS) (x y : Reg) (b c bl : Nat) (w : World) (h : Plays B w p S) (hl : RegsAt [2, 3, 4] w p b [x, y]) (hx : x.ok) (hy : y.ok) (hmx : 2 < x.n) (hmy : 2 < y.n)
    (c1 : w.cell? ⟨bl, 0, none⟩ = some (.slice (some ⟨b, 0, none⟩) 2 c)) :
    Calls Tryz.prog 83 #[.pointer (some ⟨p, 0, none⟩), .pointer (some ⟨bl, 0, none⟩)] w (Post encI B p w ((passM x y 2).run S)) := by
  generalize hR : Post encI B p w ((passM x y 2).run S) = R
  have hO : Owes R encI B p w ((passM x y 2).run S) := hR ▸ owes _ _ _ _ _
  clear hR
  have hK := Keep.refl [2, 3, 4] B p w
  go_enter Tryz.func83, Tryz.ntmps83
  go_wp2_with fail
  clear c1
  refine tlast hO hK (pass_p B p S x y 2 b c w h hl hx hy (by omega) hmx hmy) (fun _ h => ⟨rfl, h⟩) ?_
  intro v S1 w1 hr hP1 hk1 hK1 hO1
  have hf := hO1.done hP1 hK1
  clear hO1 hP1 hK1 hr hk1 hO h hl hK
  go_wp2_with fail
  exact hf
theorem alive31b (B p : Nat) (S : TS) (x y : Reg) (b c bl : Nat) (w : World) (h : Plays B w p S) (hl : RegsAt [2, 3, 4] w p b [x, y]) (hx : x.ok) (hy : y.ok) (hmx : 0 < x.n) (hmy : 0 < y.n)
    (c1 : w.cell? ⟨bl, 0, none⟩ = some (.slice (some ⟨b, 0, none⟩) 2 c)) :
    Calls Tryz.prog 84 #[.pointer (some ⟨p, 0, none⟩), .pointer (some ⟨bl, 0, none⟩)] w (Post encI B p w ((passM x y 0).run S)) := by
  generalize hR : Post encI B p w ((passM x y 0).run S) = R
  have hO : Owes R encI B p w ((passM x y 0).run S) := hR ▸ owes _ _ _ _ _
  clear hR
  have hK := Keep.refl [2, 3, 4] B p w
  go_enter Tryz.func84, Tryz.ntmps84
  go_wp2_with fail
  clear c1
  refine tlast hO hK (pass_p B p S x y 0 b c w h hl hx hy (by omega) hmx hmy) (fun _ h => ⟨rfl, h⟩) ?_
  intro v S1 w1 hr hP1 hk1 hK1 hO1
  have hf := hO1.done hP1 hK1
  clear hO1 hP1 hK1 hr hk1 hO h hl hK
  go_wp2_with fail
  exact hf
theorem ints_new (w : World) (l : List Int) (h : l.length ≤ 9223372036854775807) : Ints (w.alloc (.cells (l.map (Value.int .i64)).toArray 3)) (.slice (some ⟨w.heap.size, 0, none⟩) l.length l.length) l := by
  refine ⟨_, _, rfl, Nat.le_refl _, h, fun _ => ⟨w.heap.size, 0, rfl, by simp, fun i x hi => ?_⟩⟩
  have hh := World.alloc_heap_new w (.cells (l.map (Value.int .i64)).toArray 3)
  simp only [World.cell?, hh, Nat.zero_add]
  simp [hi]
/-- An Out's parts. -/
theorem Outs.parts {w : World} {v : Value} {d : Bool} {S : TS} (h : Outs w v d S) : ∃ A c A' c' As k n, v = .agg #[.bool d, .slice A S.acc.length c, .slice A' S.nts.length c', .slice As n k] := by
  obtain ⟨A, c, A', c', vs, L, rfl, hO⟩ := h
  obtain ⟨As, k, rfl, _, _⟩ := hO.locs.slice
  exact ⟨A, c, A', c', As, k, _, rfl⟩
def ra : Reg := ⟨1, 3, 2, 3, -1, -1, 3⟩
def rb : Reg := ⟨1, 4, 2, 3, -1, -1, 1⟩
set_option maxRecDepth 100000 in
theorem alive31 (w : World) : Calls Tryz.prog 14 #[] w fun e w' => e = .returned (.bool true) ∧ Ext w w' := by
  have hlay : layM [⟨-1, nM 3⟩, ⟨-1, 1⟩] 3 1 3 2 = some [ra, rb] := by rfl
  have hra : ra.ok := ⟨.inl rfl, by decide, by decide, by decide, fun h => by cases h⟩
  have hrb : rb.ok := ⟨.inl rfl, by decide, by decide, by decide, fun h => by cases h⟩
  have hmf : ∀ (fn : Fn) (first cap : Array Value) (w : World), (Instr.makeFunc fn first cap).run Tryz.prog w = .ok (.func fn first cap) w := fun _ _ _ _ => rfl
  go_enter Tryz.func14, Tryz.ntmps14
  go_wp2_with fail
  refine (swants_p 3 w).mono ?_
  rintro e w1 ⟨v1, rfl, hW, hX⟩
  have hSm := some_r v1 _ 3 1 w1 hW (by simp)
  rw [hlay] at hSm
  obtain ⟨Aw, cw, rfl, _, _, _⟩ := hW
  clear hlay
  go_wp2_with fail
  refine hSm.mono ?_
  rintro e w2 ⟨v2, rfl, hx2, hrow⟩
  replace hX := hX.trans hx2
  obtain ⟨Ar, cr, rfl, r1, r2, hV⟩ := Recs.of_row hrow
  clear hSm hrow hx2
  obtain ⟨b, rfl, hb, hc⟩ := hV (by simp [regVals])
  simp only [Option.getD_some, List.length_cons, List.length_nil] at *
  go_wp2_with fail
  have g1 := Blk.new w2 (.cells #[.slice (some ⟨b, 0, none⟩) 2 cr] 28)
  have x1 := (Ext.refl w2).alloc (.cells #[.slice (some ⟨b, 0, none⟩) 2 cr] 28)
  have hA := ints_new (w2.alloc (.cells #[.slice (some ⟨b, 0, none⟩) 2 cr] 28)) [0, 0, 0, 3] (by simp)
  replace g1 := g1.alloc (.cells (([0, 0, 0, 3] : List Int).map (Value.int .i64)).toArray 3)
  replace x1 := x1.alloc (.cells (([0, 0, 0, 3] : List Int).map (Value.int .i64)).toArray 3)
  simp only [World.size_alloc, List.map_cons, List.map_nil, List.length_cons, List.length_nil] at hA g1 x1
  have hsz : w2.heap.size + 1 < (World.alloc (World.alloc w2 (.cells #[.slice (some ⟨b, 0, none⟩) 2 cr] 28)) (.cells #[.int .i64 0, .int .i64 0, .int .i64 0, .int .i64 3] 3)).heap.size := by simp
  generalize World.alloc (World.alloc w2 _) _ = W0 at *
  refine (play_int 83 #[.pointer (some ⟨w2.heap.size, 0, none⟩)] (passM ra rb 2) none 0 [] (some ⟨w2.heap.size + 1, 0, none⟩) 4 [0, 0, 0, 3] W0 (Ints.nil _) (by simp) hA (by decide) (fun k hk => by simp only [Value.ownBlock, Option.some.injEq] at hk; omega) (fun _ _ => rfl) (fun W p hxW hP => ?_)).mono ?_
  · exact alive31a _ p _ ra rb b cr w2.heap.size W hP (regsP hb hc (x1.trans hxW) hP (x1.trans (Ext.refl _)).size) hra hrb (by decide) (by decide) ((g1.ext hxW).cells 0)
  rintro e w3 ⟨v3, rfl, hO, hx3⟩
  have e1 : ((passM ra rb 2).run (TS0 [] [0, 0, 0, 3])).1 = some 0 := by rfl
  have e2 : ((passM ra rb 2).run (TS0 [] [0, 0, 0, 3])).2.acc.length = 4 := by rfl
  rw [e1] at hO ⊢
  generalize ((passM ra rb 2).run (TS0 [] [0, 0, 0, 3])).2 = S1 at *
  obtain ⟨A1, c1, A1', c1', As1, k1, n1, rfl⟩ := hO.parts
  rw [e2] at *
  simp only [Option.getD_some, Option.isSome_some]
  replace g1 := g1.ext hx3
  replace x1 := x1.trans hx3
  clear e1 e2 hO hA hsz hx3 hmf
  have hmf : ∀ (fn : Fn) (first cap : Array Value) (w : World), (Instr.makeFunc fn first cap).run Tryz.prog w = .ok (.func fn first cap) w := fun _ _ _ _ => rfl
  go_wp2_with fail
  have g2 := Blk.new w3 (.cells #[.bool true, .slice A1 4 c1, .slice A1' S1.nts.length c1', .slice As1 n1 k1] 36)
  have hA := ints_new (w3.alloc (.cells #[.bool true, .slice A1 4 c1, .slice A1' S1.nts.length c1', .slice As1 n1 k1] 36)) [0, 1] (by simp)
  replace g1 := (g1.alloc (.cells #[.bool true, .slice A1 4 c1, .slice A1' S1.nts.length c1', .slice As1 n1 k1] 36)).alloc (.cells (([0, 1] : List Int).map (Value.int .i64)).toArray 3)
  replace g2 := g2.alloc (.cells (([0, 1] : List Int).map (Value.int .i64)).toArray 3)
  replace x1 := (x1.alloc (.cells #[.bool true, .slice A1 4 c1, .slice A1' S1.nts.length c1', .slice As1 n1 k1] 36)).alloc (.cells (([0, 1] : List Int).map (Value.int .i64)).toArray 3)
  simp only [World.size_alloc, List.map_cons, List.map_nil, List.length_cons, List.length_nil] at hA g1 g2 x1
  have hsz : w3.heap.size + 1 < (World.alloc (World.alloc w3 (.cells #[.bool true, .slice A1 4 c1, .slice A1' S1.nts.length c1', .slice As1 n1 k1] 36)) (.cells #[.int .i64 0, .int .i64 1] 3)).heap.size := by simp
  generalize World.alloc (World.alloc w3 _) _ = W0 at *
  refine (play_int 84 #[.pointer (some ⟨w2.heap.size, 0, none⟩)] (passM ra rb 0) none 0 [] (some ⟨w3.heap.size + 1, 0, none⟩) 2 [0, 1] W0 (Ints.nil _) (by simp) hA (by decide) (fun k hk => by simp only [Value.ownBlock, Option.some.injEq] at hk; omega) (fun _ _ => rfl) (fun W p hxW hP => ?_)).mono ?_
  · exact alive31b _ p _ ra rb b cr w2.heap.size W hP (regsP hb hc (x1.trans hxW) hP x1.size) hra hrb (by decide) (by decide) ((g1.ext hxW).cells 0)
  rintro e w4 ⟨v4, rfl, hO, hx4⟩
  have e1 : ((passM ra rb 0).run (TS0 [] [0, 1])).1 = some 1 := by rfl
  have e2 : ((passM ra rb 0).run (TS0 [] [0, 1])).2.acc.length = 2 := by rfl
  rw [e1] at hO ⊢
  generalize ((passM ra rb 0).run (TS0 [] [0, 1])).2 = S2 at *
  obtain ⟨A2, c2, A2', c2', As2, k2, n2, rfl⟩ := hO.parts
  rw [e2] at *
  simp only [Option.getD_some, Option.isSome_some]
  replace g2 := g2.ext hx4
  replace x1 := x1.trans hx4
  clear e1 e2 hO hA hsz hx4 hmf g1
  have c_g2 := g2.cells
  have hfin := Lib.hid (hX.trans (x1.alloc (.cells #[.bool true, .slice A2 2 c2, .slice A2' S2.nts.length c2', .slice As2 n2 k2] 36)))
  have c_g3 := (g2.alloc (.cells #[.bool true, .slice A2 2 c2, .slice A2' S2.nts.length c2', .slice As2 n2 k2] 36)).cells
  go_wp2_with fail
  go_ret
  exact ⟨rfl, hfin.out⟩
set_option maxRecDepth 100000 in
set_option maxHeartbeats 1000000 in
theorem splits_walk (N Mode Side Me : Int) (vL vA : Value) (Ll La : List Int) (w : World) (hL : Ints w vL Ll) (hA : Ints w vA La) :
    Calls Tryz.prog 3 #[.agg #[.int .i64 N, .int .i64 Mode, .int .i64 Side, .int .i64 Me, vL, vA]] w fun e w' => e = .returned (.bool true) ∧ Ext w w' := by
  obtain ⟨Al, cl, rfl, p1, p2⟩ := hL.slice
  obtain ⟨Aa, ca, rfl, p3, p4⟩ := hA.slice
  have hmf : ∀ (fn : Fn) (first cap : Array Value) (w : World), (Instr.makeFunc fn first cap).run Tryz.prog w = .ok (.func fn first cap) w := fun _ _ _ _ => rfl
  have hX := Ext.refl w
  have b1 := Blk.new w (.cells #[.int .i64 N, .int .i64 Mode, .int .i64 Side, .int .i64 Me, .slice Al Ll.length cl, .slice Aa La.length ca] 24)
  replace hX := hX.alloc (.cells #[.int .i64 N, .int .i64 Mode, .int .i64 Side, .int .i64 Me, .slice Al Ll.length cl, .slice Aa La.length ca] 24)
  have c_b1 := b1.cells
  go_enter Tryz.func3, Tryz.ntmps3
  go_wp2_with fail
  refine (swants_p N _).mono ?_
  rintro e w1 ⟨v1, rfl, hW, hx⟩
  replace hX := hX.trans hx
  replace b1 := b1.ext hx
  clear c_b1 hx
  have c_b1 := b1.cells
  have hWh := Lib.hid hW
  obtain ⟨Aw, cw, rfl, _, _, _⟩ := hW
  go_wp2_with fail
  refine (rwants31_r N _).mono ?_
  rintro e w2 ⟨v2, rfl, hW2, hx⟩
  replace hX := hX.trans hx
  replace b1 := b1.ext hx
  clear c_b1
  have c_b1 := b1.cells
  have hW1 := hWh.out.ext hx
  clear hx hWh
  have hW2h := Lib.hid hW2
  obtain ⟨Aw2, cw2, rfl, _, _, _⟩ := hW2
  go_wp2_with fail
  refine (same_w _ _ _ _ hW1 hW2h.out (by simp)).mono ?_
  rintro e w3 ⟨rfl, hx⟩
  replace hX := hX.trans hx
  replace b1 := b1.ext hx
  clear c_b1
  have c_b1 := b1.cells
  replace hW1 := hW1.ext hx
  clear hx hW2h
  have hSm := some_r _ _ N Mode w3 hW1 (by simp)
  clear hW1
  go_wp2_with fail
  refine hSm.mono ?_
  rintro e w4 ⟨v4, rfl, hx, hrow⟩
  replace hX := hX.trans hx
  replace b1 := b1.ext hx
  clear c_b1 hSm hx
  have c_b1 := b1.cells
  generalize hrs : (layM [⟨-1, nM N⟩, ⟨-1, 1⟩] N Mode 3 2).getD [] = rs at *
  obtain ⟨Ar, cr, rfl, r1, r2, hV⟩ := Recs.of_row hrow
  clear hrow
  have hVh := Lib.hid hV
  have hrsh := Lib.hid hrs
  clear hV hrs
  have g1 := Blk.new w4 (.cells #[.slice Ar rs.length cr] 28)
  have x1 := (Ext.refl w4).alloc (.cells #[.slice Ar rs.length cr] 28)
  have c_g1 := g1.cells
  replace b1 := b1.alloc (.cells #[.slice Ar rs.length cr] 28)
  have c_b1' := b1.cells
  have hXW := hX.alloc (.cells #[.slice Ar rs.length cr] 28)
  by_cases h1 : Ll.length ≤ 1000 ∧ La.length ≤ 1500 ∧ rs.length = 2
  · obtain ⟨h1, h2, h3⟩ := h1
    have d1 : decide ((1000 : Int) < (Ll.length : Int)) = false := by rw [decide_eq_false_iff_not]; omega
    have d2 : decide ((1500 : Int) < (La.length : Int)) = false := by rw [decide_eq_false_iff_not]; omega
    obtain ⟨x, y, rfl⟩ : ∃ x y, rs = [x, y] := by
      match rs, h3 with
      | [x, y], _ => exact ⟨x, y, rfl⟩
    have hly : layM [⟨-1, nM N⟩, ⟨-1, 1⟩] N Mode 3 2 = some [x, y] := by
      have := hrsh.out
      cases hc : layM [⟨-1, nM N⟩, ⟨-1, 1⟩] N Mode 3 2 with
      | none => rw [hc] at this; cases this
      | some rs => rw [hc] at this; simpa using this
    obtain ⟨⟨_, _, n1, n2, _, _⟩, hwr, _⟩ := layM_args hly
    obtain ⟨x', hx', hxl⟩ := layM_at hly (i := 0) rfl
    obtain ⟨y', hy', hyl⟩ := layM_at hly (i := 1) rfl
    obtain rfl : x = x' := by simpa using hx'
    obtain rfl : y = y' := by simpa using hy'
    obtain ⟨hxo, hxn, _⟩ := hxl.ok ⟨n1, n2⟩ (hwr _ (by simp))
    obtain ⟨hyo, hyn, _⟩ := hyl.ok ⟨n1, n2⟩ (hwr _ (by simp))
    have hw1 := IntWalk.i64_in (N - 1) (by omega)
    have ht := wrapI_bd Me (N - 1)
    rw [show clamp (N - 1) 1099511627776 = N - 1 from by unfold clamp within; omega] at ht
    obtain ⟨b, rfl, hb, hc⟩ := hVh.out (by simp [regVals])
    clear hrsh hVh hly hxl hyl hx' hy' hwr h3
    simp only [List.length_cons, List.length_nil] at *
    go_wp2_with fail
    refine (wrap_r Me (N - 1) _).mono ?_
    rintro e w' ⟨rfl, rfl⟩
    generalize wrapI Me (N - 1) = t at *
    go_wp2_with fail
    have g2 := Blk.new (w4.alloc (.cells #[.slice (some ⟨b, 0, none⟩) 2 cr] 28)) (.cells #[.int .i64 t] 3)
    replace g1 := g1.alloc (.cells #[.int .i64 t] 3)
    replace b1 := b1.alloc (.cells #[.int .i64 t] 3)
    replace x1 := x1.alloc (.cells #[.int .i64 t] 3)
    replace hX := hXW.alloc (.cells #[.int .i64 t] 3)
    simp only [World.size_alloc] at g2
    clear c_b1 c_b1' c_g1 hXW
    generalize World.alloc (World.alloc w4 _) _ = W1 at *
    have hE := (Ext.refl W1).drew
    have hS : ∀ w', Ext W1 w' → (∀ i, w'.cell? ⟨w.heap.size, i, none⟩ = (#[.int .i64 N, .int .i64 Mode, .int .i64 Side, .int .i64 Me, .slice Al Ll.length cl, .slice Aa La.length ca] : Array Value)[i]?) := fun w' hx => (b1.ext hx).cells
    have hLW := Lib.hid (hL.ext hX)
    have hAW := Lib.hid (hA.ext hX)
    clear hL hA
    go_region_held2 (fun w' => ∀ i, w'.cell? ⟨w.heap.size, i, none⟩ = (#[.int .i64 N, .int .i64 Mode, .int .i64 Side, .int .i64 Me, .slice Al Ll.length cl, .slice Aa La.length ca] : Array Value)[i]?) (exact hS _ hE)
      (first
        | (go_at_call_of 16 (Value.int IntKind.i64 1048576)
           refine (tame_r _ La 1048576 _ (hAW.out.ext hE)).mono ?_
           rintro e w5 ⟨va, rfl, hra, hxa⟩
           replace hE := hE.trans hxa)
        | (go_at_call_of 16 (Value.int IntKind.i64 1024)
           refine (tame_r _ Ll 1024 _ (hLW.out.ext hE)).mono ?_
           rintro e w6 ⟨vl, rfl, hrl, hxl⟩
           replace hE := hE.trans hxl))
    rename_i hh
    clear hh hS hLW hAW b1
    have hIa := hra.ints.ext hxl
    have hIl := hrl.ints
    have hba : ∀ k, va.ownBlock = some k → k < w6.heap.size := fun k hk => Nat.lt_of_lt_of_le (hra.lt k hk).2 hxl.size
    have la : (tameL La 1048576).length ≤ 1500 := by unfold tameL; simp; omega
    have ll : (tameL Ll 1024).length ≤ 1000 := by unfold tameL; simp; omega
    clear hra hrl hxa hxl
    generalize tameL La 1048576 = a at *
    generalize tameL Ll 1024 = l at *
    obtain ⟨Aq, cq, rfl, _, _⟩ := hIa.slice
    obtain ⟨Al', cl', rfl, _, _⟩ := hIl.slice
    have hPl := play_int 18 #[.pointer (some ⟨w4.heap.size, 0, none⟩), .pointer (some ⟨w4.heap.size + 1, 0, none⟩)] (passM x y t) Al' cl' l Aq cq a w6 hIl (by omega) hIa (by unfold maxAns; omega) hba (fun _ _ => rfl) (fun W p hxW hP =>
      closure31 _ p _ x y t b cr w4.heap.size (w4.heap.size + 1) W hP (regsP hb hc (x1.trans (hE.trans hxW)) hP (x1.trans hE).size) hxo hyo ht.1 (by omega) (by omega) ((g1.ext (hE.trans hxW)).cells 0) ((g2.ext (hE.trans hxW)).cells 0))
    have hIah := Lib.hid hIa
    have hIlh := Lib.hid hIl
    clear hIa hIl
    go_wp2_with fail
    refine hPl.mono ?_
    rintro e w7 ⟨v3, rfl, hO, hx7⟩
    generalize hr : (passM x y t).run (TS0 l a) = r at hO ⊢
    clear hPl
    generalize hq : r.1.getD 0 = q
    have hOh := Lib.hid hO
    obtain ⟨A3, c3, A3', c3', As3, k3, n3, rfl⟩ := hO.parts
    clear hO
    go_wp2_with fail
    have g3 := Blk.new w7 (.cells #[.bool r.fst.isSome, .slice A3 r.snd.acc.length c3, .slice A3' r.snd.nts.length c3', .slice As3 n3 k3] 36)
    have x2 := hx7.alloc (.cells #[.bool r.fst.isSome, .slice A3 r.snd.acc.length c3, .slice A3' r.snd.nts.length c3', .slice As3 n3 k3] 36)
    have hOh2 := Lib.hid (hOh.out.ext ((Ext.refl w7).alloc (.cells #[.bool r.fst.isSome, .slice A3 r.snd.acc.length c3, .slice A3' r.snd.nts.length c3', .slice As3 n3 k3] 36)))
    clear hOh hx7
    generalize World.alloc w7 _ = W2 at *
    have hN := new_any Al' cl' l Aq cq a W2 (hIlh.out.ext x2) (hIah.out.ext x2) (by omega) (by unfold maxAns; omega) (fun k hk => Nat.lt_of_lt_of_le (hba k hk) x2.size)
    clear hIlh hIah hba
    refine hN.mono ?_
    rintro e w8 ⟨pm, rfl, hR, hx8⟩
    have y1 := g1.ext (hE.trans (x2.trans hx8))
    have y2 := g2.ext (hE.trans (x2.trans hx8))
    have c_y1 := y1.cells
    have c_y2 := y2.cells
    clear hN
    go_wp2_with fail
    have hx4 : Ext w4 W2 := x1.trans (hE.trans x2)
    refine (pass_r W2.heap.size pm (TS0 l a) x y t b cr w8 hR (regsR hb hc (hx4.trans hx8) hR hx4.size) hxo hyo ht.1 (by omega) (by omega)).mono ?_
    rintro e w9 ⟨z, o', S', rfl, hRef, hz0, hR9, hK9⟩
    have hx9 : Ext W2 w9 := Below.trans hx8 hK9.below
    have hrun := hRef.outcome
    rw [hr] at hrun
    have hz : q = z := by
      rw [← hq, hrun]
      cases o' with
      | true => exact (hz0 rfl).symm
      | false => rfl
    subst hz
    have hsome : r.1.isSome = !o' := by rw [hrun]; cases o' <;> rfl
    have hS2 : r.2 = S' := by rw [hrun]
    have hO9 := hOh2.out.ext hx9
    rw [hsome, hS2] at hO9 g3
    clear hrun hRef hz0 hq hR hK9 hx8 y1 y2 c_y1 c_y2 hOh2 g1 g2
    replace g3 := g3.ext hx9
    have c_g3 := g3.cells
    have hRh := Lib.hid hR9
    have hOh := Lib.hid hO9
    have hXf := Lib.hid (hX.trans (hE.trans (x2.trans hx9)))
    clear hR9 hO9 hX hE x2 hx9 x1 hx4
    have hqq : (q == q) = true := by simp
    go_wp2_with fail
    have hE := (Ext.refl w9).drew
    have hS : ∀ w', Ext w9 w' → (∀ i, w'.cell? ⟨w7.heap.size, i, none⟩ = (#[.bool (!o'), .slice A3 S'.acc.length c3, .slice A3' S'.nts.length c3', .slice As3 n3 k3] : Array Value)[i]?) := fun w' hx => (g3.ext hx).cells
    go_region_held2 (fun w' => ∀ i, w'.cell? ⟨w7.heap.size, i, none⟩ = (#[.bool (!o'), .slice A3 S'.acc.length c3, .slice A3' S'.nts.length c3', .slice As3 n3 k3] : Array Value)[i]?) (exact hS _ hE)
      (first
        | (go_at_call 23
           refine (dout_r W2.heap.size pm o' S' _ (hRh.out.ext hE)).mono ?_
           rintro e w10 ⟨v5, rfl, hO5, hx5⟩
           replace hE := hE.trans hx5)
        | (go_at_call 22
           refine (same_r _ _ (!o') S' _ (hOh.out.ext hE) hO5).mono ?_
           rintro e w11 ⟨rfl, hx6⟩
           replace hE := hE.trans hx6)
        | (go_at_call 14
           refine (alive31 _).mono ?_
           rintro e w12 ⟨rfl, hx7⟩
           replace hE := hE.trans hx7))
    have hf := Lib.hid (hXf.out.trans hE)
    go_wp2_with fail
    go_ret
    exact ⟨rfl, hf.out⟩
  · by_cases h2 : 1000 < Ll.length
    · have d1 : decide ((1000 : Int) < (Ll.length : Int)) = true := by rw [decide_eq_true_eq]; omega
      go_wp2_with fail
      refine (alive31 _).mono ?_
      rintro e w5 ⟨rfl, hx⟩
      have hf := Lib.hid (hXW.trans hx)
      go_wp2_with fail
      go_ret
      exact ⟨rfl, hf.out⟩
    · have d1 : decide ((1000 : Int) < (Ll.length : Int)) = false := by rw [decide_eq_false_iff_not]; omega
      by_cases h3 : 1500 < La.length
      · have d2 : decide ((1500 : Int) < (La.length : Int)) = true := by rw [decide_eq_true_eq]; omega
        go_wp2_with fail
        refine (alive31 _).mono ?_
        rintro e w5 ⟨rfl, hx⟩
        have hf := Lib.hid (hXW.trans hx)
        go_wp2_with fail
        go_ret
        exact ⟨rfl, hf.out⟩
      · have d2 : decide ((1500 : Int) < (La.length : Int)) = false := by rw [decide_eq_false_iff_not]; omega
        have d3 : ((rs.length : Int) != 2) = true := by rw [bne_iff_ne]; omega
        go_wp2_with fail
        refine (alive31 _).mono ?_
        rintro e w5 ⟨rfl, hx⟩
        have hf := Lib.hid (hXW.trans hx)
        go_wp2_with fail
        go_ret
        exact ⟨rfl, hf.out⟩
end Go.Proofs.YtpcohbpeglledaaGreat
/-
  SplitterPlays: the input opened.
-/
namespace Go.Proofs.YtpcohbpeglledaaGreat.splitterPlays
open Go.ChangeShapes Go.WideShapes Go.ChangeAt Go.RowKit Kv
set_option maxRecDepth 100000 in
theorem main (H : Type) (enc : TypeId × Value → H) (W : World) (base : Nat) (args : Array Value) (ds : List (DataW H)) (p : List MemPlace)
    (hval : ∀ (j : Nat) t v, Tryz.f3.params[j]? = some t → args[j]? = some v → Value.okWide Tryz.prog W .any base t v)
    (hA : DataW.TrodAll enc Tryz.prog W 0 (fun _ => true) true Tryz.f3.params.toList args.toList ds p) (_hL : laidMetH Tryz.prog Rows.splitterPlaysRow.laid W) :
    Calls Tryz.prog 3 args W fun e w' => e = .returned (.bool true) ∧ Ext W w' := by
  rw [Tryz.params3] at hA hval
  obtain ⟨v0, vs0, d0, ds0, p0, q0, hargs, rfl, rfl, h0, r0⟩ := trodAll_cons hA
  obtain ⟨rfl, rfl, rfl⟩ := trodAll_nil r0
  obtain rfl : args = #[v0] := by cases args; simp_all
  obtain ⟨c0, c1, c2, c3, c4, c5, y0, y1, y2, y3, y4, y5, m, rfl, g0, g1, g2, g3, g4, g5⟩ := open_agg6 Tryz.underlying24 (by kernel_rfl) (by kernel_rfl) (hval 0 24 v0 rfl rfl) h0
  obtain ⟨x0, e0, -, -⟩ := DataW.trod_int Tryz.underlying3 g0
  obtain ⟨x1, e1, -, -⟩ := DataW.trod_int Tryz.underlying3 g1
  obtain ⟨x2, e2, -, -⟩ := DataW.trod_int Tryz.underlying3 g2
  obtain ⟨x3, e3, -, -⟩ := DataW.trod_int Tryz.underlying3 g3
  obtain ⟨Ll, hL, -⟩ := ints_trod g4
  obtain ⟨La, hLa, -⟩ := ints_trod g5
  simp at e0 e1 e2 e3
  subst e0 e1 e2 e3
  exact splits_walk x0 x1 x2 x3 c4 c5 Ll La W hL hLa
end Go.Proofs.YtpcohbpeglledaaGreat.splitterPlays
/-
  SplitterPlays holds: whoever passes a splitter does what the document says, access by access, whatever it is answered.
-/
namespace Go.Proofs.YtpcohbpeglledaaGreat.splitterPlays
open Go.ChangeShapes Go.WideShapes Go.ChangeAt Go.RowKit

theorem laidOut : laidOutB Tryz.prog = true := by kernel_rfl
set_option maxRecDepth 100000 in
theorem contract (H : Type) (enc : TypeId × Value → H) (W : World) (base : Nat) (args : Array Value) (ds gs : List (DataW H)) (before : List MemPlace)
    (hval : ∀ (j : Nat) t v, Tryz.f3.params[j]? = some t → args[j]? = some v → Value.okWide Tryz.prog W .any base t v)
    (hW : DataW.Whole enc Tryz.prog Tryz.f3.params.toList Rows.splitterPlaysSpec.vars false W args.toList ds gs before) (hL : laidMetH Tryz.prog Rows.splitterPlaysRow.laid W) :
    Calls Tryz.prog 3 args W fun e W' => ∃ v, e = .returned v ∧ Rows.splitterPlaysSpec.post enc Tryz.prog Tryz.f3 false true false false W args v W' := by
  refine (main H enc W base args ds before hval (by obtain ⟨p, q, hA, hV, hpq, _, _⟩ := hW; obtain ⟨_, rfl⟩ := trodVars_none hV; rw [List.append_nil] at hpq; subst hpq; exact hA) hL).mono fun e W' ⟨he, hg⟩ => ⟨_, he, ?_⟩
  refine law_post (tb := 4) laidOut ?_ (by kernel_rfl) Tryz.underlying4 rfl ?_ hW hg
  · rw [Tryz.params3]
    intro t ht
    simp only [List.mem_cons, List.not_mem_nil, or_false] at ht
    rcases ht with rfl <;> exact ⟨by kernel_rfl, of_decide_eq_true (by kernel_rfl)⟩
  · intro ds hl
    rw [Tryz.params3] at hl
    match ds, hl with
    | [d0], _ => rfl
set_option maxRecDepth 100000 in
theorem laid_met (os : Os) : laidMet Tryz.prog Rows.splitterPlaysRow.laid (((World.holding Tryz.prog os ⟨#[], #[], []⟩)).forCall (fun _ _ => 0) ⟨#[], #[.agg #[.int .i64 0, .int .i64 0, .int .i64 0, .int .i64 0, .slice none 0 0, .slice none 0 0]], []⟩).memory :=
  laidMet_of_run' 8 (by kernel_rfl) (by kernel_rfl)
set_option maxRecDepth 100000 in
theorem reads (os : Os) {H : Type} (enc : TypeId × Value → H) : ∃ places, DataW.whole enc Tryz.prog (((World.holding Tryz.prog os ⟨#[], #[], []⟩)).forCall (fun _ _ => 0) ⟨#[], #[.agg #[.int .i64 0, .int .i64 0, .int .i64 0, .int .i64 0, .slice none 0 0, .slice none 0 0]], []⟩).memory Tryz.f3.params.toList Rows.splitterPlaysSpec.vars false (#[.agg #[.int .i64 0, .int .i64 0, .int .i64 0, .int .i64 0, .slice none 0 0, .slice none 0 0]] : Array Value).toList 8 = some ([.agg [.lit (.int .i64 0), .lit (.int .i64 0), .lit (.int .i64 0), .lit (.int .i64 0), .nil, .nil]], [], places) :=
  ⟨[], by kernel_rfl⟩
set_option maxRecDepth 100000 in
theorem lifted (os : Os) (started : os.Started) (H : Type) (enc : TypeId × Value → H) (F : Stop.Interp) :
    ReturnsInHanded {} Tryz.checked os 3 .any ((OpenSpec.ofChange Rows.splitterPlaysSpec).preRow enc Tryz.prog Tryz.f3 Rows.splitterPlaysRow.domain false Rows.splitterPlaysRow.laid) (((OpenSpec.ofChange Rows.splitterPlaysSpec).at F).post enc Tryz.prog Tryz.f3 false true false false) := by
  obtain ⟨places, hx⟩ := reads os enc
  refine returnsInHanded_of_row (C := Tryz.checked) (s := (OpenSpec.ofChange Rows.splitterPlaysSpec)) own started (by kernel_rfl) Tryz.func3
    (witness_row_at (enc := enc) (C := Tryz.checked) false (World.holding Tryz.prog os ⟨#[], #[], []⟩) #[.agg #[.int .i64 0, .int .i64 0, .int .i64 0, .int .i64 0, .slice none 0 0, .slice none 0 0]] rfl (by kernel_rfl) (by kernel_rfl) (by kernel_rfl)
      (OpenSpec.preRow_of_cond 8 hx (by kernel_rfl) (fun k hk => by cases hk) (by kernel_rfl) (laid_met os))) ?_
  intro W base args ds gs before hval hW _ _ _ hL _ _
  exact contract H enc W base args ds gs before hval hW hL
theorem said : Rows.SplitterPlaysSaid :=
  OpenClaim.holds_of_cond 3 Tryz.f3 rfl rfl rfl rfl rfl rfl rfl ⟨rfl, rfl, rfl, rfl, rfl⟩ rfl rfl rfl rfl rfl (by kernel_rfl) Tryz.func3 (by kernel_rfl)
    (of_decide_eq_true (by kernel_rfl)) (by unfold Func.isWrapper; first | (rw [if_pos (by decide +kernel)]; kernel_rfl) | (rw [if_neg (by decide +kernel)]; exact ⟨rfl, rfl⟩))
    (fun os started H enc _ F => by rw [OpenClaim.pre_eq_preRow]; exact lifted os started H enc F)

end Go.Proofs.YtpcohbpeglledaaGreat.splitterPlays
