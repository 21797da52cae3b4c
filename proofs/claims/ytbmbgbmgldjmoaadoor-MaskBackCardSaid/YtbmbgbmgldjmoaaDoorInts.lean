/-
  Slices of ints: one that can be read ('Ints'), one that the call itself owns and appends to ('IntRow').
-/
import Derived.Test.YtbmbgbmgldjmoaaDoorExt
import Derived.Maps.AppendAt
namespace Go.Proofs.YtbmbgbmgldjmoaaDoor
open Go.RowKit Kv
/-- The slice value v reads as the ints l. -/
def Ints (w : World) (v : Value) (l : List Int) : Prop :=
  ∃ A c, v = .slice A l.length c ∧ l.length ≤ c ∧ c ≤ 9223372036854775807 ∧ (l ≠ [] → ∃ b off, A = some ⟨b, off, none⟩ ∧ b < w.heap.size ∧ ∀ i x, l[i]? = some x → w.cell? ⟨b, off + i, none⟩ = some (.int .i64 x))
theorem Ints.ext {w w' : World} {v : Value} {l : List Int} (h : Ints w v l) (hx : Ext w w') : Ints w' v l := by
  obtain ⟨A, c, rfl, h1, h2, h3⟩ := h
  refine ⟨A, c, rfl, h1, h2, fun hl => ?_⟩
  obtain ⟨b, off, rfl, hb, hc⟩ := h3 hl
  exact ⟨b, off, rfl, Nat.lt_of_lt_of_le hb (Ext.size hx), fun i x hi => (Ext.cell hx (p := ⟨b, off + i, none⟩) hb).trans (hc i x hi)⟩
theorem Ints.nil (w : World) : Ints w (.slice none 0 0) [] := ⟨none, 0, rfl, by simp, by omega, fun h => absurd rfl h⟩
/-- At an element. -/
theorem Ints.at_ {w : World} {A : Option Addr} {n c : Nat} {l : List Int} (h : Ints w (.slice A n c) l) {i : Nat} (hi : i < n) :
    ∃ b off, A = some ⟨b, off, none⟩ ∧ b < w.heap.size ∧ w.cell? ⟨b, off + i, none⟩ = some (.int .i64 (l.getD i 0)) := by
  obtain ⟨A', c', he, h1, h2, h3⟩ := h
  injection he with e1 e2 e3
  subst e1 e2 e3
  have hl : l ≠ [] := by rintro rfl; simp at hi
  obtain ⟨b, off, rfl, hb, hc⟩ := h3 hl
  refine ⟨b, off, rfl, hb, ?_⟩
  have : l[i]? = some (l.getD i 0) := by simp [List.getD, List.getElem?_eq_getElem hi]
  exact hc i _ this
theorem Ints.slice {w : World} {v : Value} {l : List Int} (h : Ints w v l) : ∃ A c, v = .slice A l.length c ∧ l.length ≤ c ∧ c ≤ 9223372036854775807 := by
  obtain ⟨A, c, rfl, h1, h2, _⟩ := h
  exact ⟨A, c, rfl, h1, h2⟩

def IntRow (w : World) (base : Nat) (v : Value) (l : List Int) : Prop := w.ownsRow base 3 1 v l.length (l.map (Value.int .i64))
theorem IntRow.nil (w : World) (base : Nat) : IntRow w base (.slice none 0 0) [] := World.ownsRow_nil _ _ _ _
theorem IntRow.ints {w : World} {base : Nat} {v : Value} {l : List Int} (h : IntRow w base v l) : Ints w v l := by
  have h' := h
  obtain ⟨hl, h2⟩ := h
  rcases h2 with ⟨rfl, h0⟩ | ⟨g, cap, cur, rfl, hg, hh, hn, hm, hs, ht⟩
  · obtain rfl : l = [] := List.eq_nil_of_length_eq_zero h0
    exact Ints.nil w
  · refine ⟨_, _, rfl, hn, by unfold maxLen at hm; exact hm, fun _ => ⟨g, 0, rfl, ?_, fun i x hi => ?_⟩⟩
    · rcases Nat.lt_or_ge g w.heap.size with hlt | hge
      · exact hlt
      · rw [Array.getElem?_eq_none hge] at hh; cases hh
    · have hc := World.ownsRow.cells h' (g := g) rfl i (.int .i64 x) (by rw [List.getElem?_map, hi]; rfl)
      rw [Addr.add_lit] at hc
      exact hc
theorem info_int : (Tryd.prog.info? 3).map (fun i => (i.zero, i.size, i.bytes)) = some (some (.int .i64 0), 1, 8) := by kernel_rfl
theorem ints_one (l : List Int) : ∀ u ∈ l.map (Value.int .i64), u.oneCell' = true := by
  intro u hu
  obtain ⟨x, _, rfl⟩ := List.mem_map.1 hu
  rfl
/-- 'append(v, x)': one int, out of the new cell that holds it. -/
theorem append_int {ops : Array Oper} {rest : List Oper} {o : Oper} {a : Act} {Q : Exit → Act → World → Prop} {w : World} (hgd : o.guard = none) (s x : Operand)
    (ho : o.op = .call { callee := .builtin .append, args := #[s, x], argTypes := #[25, 25] })
    (base : Nat) (v : Value) (l : List Int) (y : Int) (hown : IntRow w base v l) (hs : a.eval s = v) (hx : a.eval x = .slice (some ⟨w.heap.size, 0, none⟩) 1 1)
    (hlen : l.length < 1000000000000) (hbase : base ≤ w.heap.size)
    (h : ∀ v' w', IntRow w' base v' (l ++ [y]) → (w.alloc (.cells #[.int .i64 y] 3)).grownBy w' v.ownBlock → wpList Tryd.prog ops Q rest (a.put o.dst v') w') :
    wpList Tryd.prog ops Q (o :: rest) a (w.alloc (.cells #[.int .i64 y] 3)) := by
  obtain ⟨i0, hi, hz0, hz1, hz2⟩ := info_parts info_int
  refine wpList_append_own _ hgd s x 25 ho base 3 i0 (.int .i64 0) 1 8 Tryd.underlying25 hi hz0 hz1 hz2 rfl (by decide) v l.length _ hs (World.ownsRow.alloc hown _) ⟨w.heap.size, 0, none⟩ 1 1 [.int .i64 y] hx rfl (cell_one_new _ _ _) (by simp [Value.oneCell']) (by unfold maxLen; omega) (by omega) (by simp; omega) fun v' w' h1 h2 _ => ?_
  refine h v' w' ?_ h2
  unfold IntRow
  rw [List.length_append, List.map_append]
  exact h1
/-- Behind an append nothing of what was there when the call began has turned. -/
theorem Ext.appended {w wr w' : World} {v : Value} {l : List Int} {o : Obj} (h : Ext w wr) (hown : IntRow wr w.heap.size v l) (hg : (wr.alloc o).grownBy w' v.ownBlock) : Ext w w' := by
  refine Below.grown (Below.alloc h h.size o) hg (by have := h.size; simp; omega) fun k hk => ?_
  obtain ⟨_, h2⟩ := hown
  rcases h2 with ⟨rfl, _⟩ | ⟨g, cap, cur, rfl, hgb, _⟩
  · simp [Value.ownBlock] at hk
  · simp [Value.ownBlock] at hk
    omega
end Go.Proofs.YtbmbgbmgldjmoaaDoor
