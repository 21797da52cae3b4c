/-
  Plain mathematics of plans: which registers a list of wants gets.
-/
import Derived.Test.YtpcohbpeglledaaJB2
import Derived.Deep.DeepCutAuto
/-
  Plain mathematics of plans: which registers a list of wants gets.
-/
namespace Kv
structure Want where
  wr : Int
  top : Int
def topM (t : Int) : Int := if clamp t 255 = 0 then 1 else clamp t 255
def kindM (mode w : Int) : Int := if mode = 2 then (if 0 ≤ w then 6 else 7) else 1
def regOf (n mode b l : Int) (q : Want) : Reg := ⟨kindM mode q.wr, b, l, n, q.wr, -1, topM q.top⟩
def cellsM (r : Reg) : Int := if r.kind = 1 then 1 else if r.kind = 6 then 16 * (r.n - 1) * (r.n - 1) else 16 * (r.n - 1) * (r.n - 1) * r.n
def localsM (r : Reg) : Int := if r.kind = 1 then 0 else if r.kind = 6 then 2 + 18 * (r.n - 1) * (r.n - 1) else r.n * (2 + 18 * (r.n - 1) * (r.n - 1))
def fineM (r : Reg) : Bool := decide (r.base ≤ 32768) && decide (r.loc ≤ 32768) && decide (r.base + cellsM r ≤ 32768) && decide (r.loc + localsM r ≤ 32768)
def layFrom (n mode : Int) : List Want → Int → Int → Option (List Reg)
  | [], _, _ => some []
  | q :: l, b, c => if fineM (regOf n mode b c q) then (layFrom n mode l (b + cellsM (regOf n mode b c q)) (c + localsM (regOf n mode b c q))).map (regOf n mode b c q :: ·) else none
def argsM (l : List Want) (n mode b c : Int) : Bool := decide (1 ≤ mode ∧ mode ≤ 2 ∧ 1 ≤ n ∧ n ≤ 8 ∧ 0 ≤ b ∧ 0 ≤ c) && l.all fun q => decide (-1 ≤ q.wr ∧ q.wr < n)
/-- The registers, or none. -/
def layM (l : List Want) (n mode b c : Int) : Option (List Reg) := if argsM l n mode b c then layFrom n mode l b c else none
theorem topM_bd (t : Int) : 1 ≤ topM t ∧ topM t ≤ 255 := by
  unfold topM clamp within
  split <;> omega
theorem cells_nat (r : Reg) (h : 1 ≤ r.n ∧ r.n ≤ 8) : 0 ≤ cellsM r ∧ cellsM r ≤ 6272 ∧ 0 ≤ localsM r ∧ localsM r ≤ 7072 := by
  obtain ⟨h1, h2⟩ := h
  have : r.n = 1 ∨ r.n = 2 ∨ r.n = 3 ∨ r.n = 4 ∨ r.n = 5 ∨ r.n = 6 ∨ r.n = 7 ∨ r.n = 8 := by omega
  unfold cellsM localsM
  rcases this with h | h | h | h | h | h | h | h <;> rw [h] <;> (split <;> (try split) <;> omega)
/-- What a laid register is. -/
structure Laid (n mode : Int) (q : Want) (r : Reg) : Prop where
  is : ∃ b c, r = regOf n mode b c q ∧ 0 ≤ b ∧ 0 ≤ c
  fine : fineM r = true
theorem layFrom_laid (n mode : Int) (hn : 1 ≤ n ∧ n ≤ 8) : ∀ (l : List Want) (b c : Int) (rs : List Reg), 0 ≤ b → 0 ≤ c → layFrom n mode l b c = some rs →
    rs.length = l.length ∧ ∀ (i : Nat) q, l[i]? = some q → ∃ r, rs[i]? = some r ∧ Laid n mode q r
  | [], b, c, rs, _, _, h => by
    obtain rfl : [] = rs := by simpa [layFrom] using h
    exact ⟨rfl, fun i q hq => by simp at hq⟩
  | q :: l, b, c, rs, hb, hc, h => by
    unfold layFrom at h
    split at h
    · rename_i hf
      have hz := cells_nat (regOf n mode b c q) hn
      cases hr : layFrom n mode l (b + cellsM (regOf n mode b c q)) (c + localsM (regOf n mode b c q)) with
      | none => rw [hr] at h; cases h
      | some rs' =>
        rw [hr] at h
        obtain rfl : regOf n mode b c q :: rs' = rs := by simpa using h
        obtain ⟨e, g⟩ := layFrom_laid n mode hn l _ _ rs' (by omega) (by omega) hr
        refine ⟨by simp [e], fun i q' hq => ?_⟩
        cases i with
        | zero =>
          obtain rfl : q = q' := by simpa using hq
          exact ⟨_, rfl, ⟨b, c, rfl, hb, hc⟩, hf⟩
        | succ i => exact g i q' (by simpa using hq)
    · cases h
theorem layM_args {l : List Want} {n mode b c : Int} {rs : List Reg} (h : layM l n mode b c = some rs) : (1 ≤ mode ∧ mode ≤ 2 ∧ 1 ≤ n ∧ n ≤ 8 ∧ 0 ≤ b ∧ 0 ≤ c) ∧ (∀ q ∈ l, -1 ≤ q.wr ∧ q.wr < n) ∧ layFrom n mode l b c = some rs := by
  unfold layM at h
  split at h
  · rename_i ha
    unfold argsM at ha
    rw [Bool.and_eq_true, decide_eq_true_eq, List.all_eq_true] at ha
    exact ⟨ha.1, fun q hq => by simpa using ha.2 q hq, h⟩
  · cases h
theorem layM_len {l : List Want} {n mode b c : Int} {rs : List Reg} (h : layM l n mode b c = some rs) : rs.length = l.length := by
  obtain ⟨⟨_, _, hn1, hn2, hb, hc⟩, _, hf⟩ := layM_args h
  exact (layFrom_laid n mode ⟨hn1, hn2⟩ l b c rs hb hc hf).1
theorem layM_at {l : List Want} {n mode b c : Int} {rs : List Reg} (h : layM l n mode b c = some rs) {i : Nat} {q : Want} (hq : l[i]? = some q) : ∃ r, rs[i]? = some r ∧ Laid n mode q r := by
  obtain ⟨⟨_, _, hn1, hn2, hb, hc⟩, _, hf⟩ := layM_args h
  exact (layFrom_laid n mode ⟨hn1, hn2⟩ l b c rs hb hc hf).2 i q hq
theorem Laid.ok {n mode : Int} {q : Want} {r : Reg} (h : Laid n mode q r) (hn : 1 ≤ n ∧ n ≤ 8) (hw : -1 ≤ q.wr ∧ q.wr < n) : r.ok ∧ r.n = n ∧ r.wr = q.wr := by
  obtain ⟨⟨b, c, rfl, hb, hc⟩, hf⟩ := h
  have hf2 : b ≤ 32768 ∧ c ≤ 32768 := by
    unfold fineM regOf at hf
    simp only [Bool.and_eq_true, decide_eq_true_eq] at hf
    omega
  refine ⟨⟨?_, ⟨hb, hf2.1⟩, ⟨hc, hf2.2⟩, hn, fun hk => ?_⟩, rfl, rfl⟩
  · show kindM mode q.wr = 1 ∨ kindM mode q.wr = 6 ∨ kindM mode q.wr = 7
    unfold kindM
    split
    · split <;> omega
    · omega
  · show 0 ≤ q.wr ∧ q.wr < n
    have hk : kindM mode q.wr = 6 := hk
    unfold kindM at hk
    split at hk
    · split at hk <;> omega
    · omega
end Kv
/-
  Registers of the document: the list of a table's readers, and who tells whom.
-/
namespace Go.Proofs.Ytpcohbpeglledaa
open Go.RowKit Kv
theorem tellsD_bd (k a _b : Int) (hk : 1 ≤ k ∧ k ≤ 7) (ha : 0 ≤ a ∧ a < k) : 0 ≤ a * (k - 1) ∧ a * (k - 1) ≤ 36 := by
  have h1 : 0 ≤ a * (k - 1) := Int.mul_nonneg (by omega) (by omega)
  have h2 : a * (k - 1) ≤ 6 * 6 := Int.mul_le_mul (by omega) (by omega) (by omega) (by omega)
  omega
def stepD (i j : Int) : Int := if j > i then j - 1 else j
theorem tells_eq (k a b : Int) : tellsM k a b = k + a * (k - 1) + stepD a b := rfl
theorem stepD_0 (i : Nat) : stepD i 0 = 0 := by unfold stepD; rw [if_neg (by omega)]
theorem stepD_same (i : Nat) : stepD i ((i : Int) + 1) = stepD i i := by unfold stepD; rw [if_pos (by omega), if_neg (by omega)]; omega
theorem stepD_next (i j : Nat) (h : i ≠ j) : stepD i ((j : Int) + 1) = stepD i j + 1 := by unfold stepD; split <;> split <;> omega
theorem stepD_end (i k : Nat) (h : i < k) : stepD i k = (k : Int) - 1 := by unfold stepD; rw [if_pos (by omega)]
theorem stepD_bd (i j : Nat) : 0 ≤ stepD i j ∧ stepD i j ≤ j := by unfold stepD; split <;> omega
end Go.Proofs.Ytpcohbpeglledaa
/-
  Registers of the document: a table written.
-/
namespace Go.Proofs.Ytpcohbpeglledaa
open Go.RowKit Kv
theorem ranks_next (k a : Nat) : ranksFrom (-1) (k + 1) a = (a : Int) :: ranksFrom (-1) k ((a + 1 : Nat) : Int) := by
  show (if (a : Int) = -1 then _ else _) = _
  rw [if_neg (by omega)]
  rfl
theorem forP_cons {σ : Type} (T : Int → σ → Prog σ) (a : Int) (l : List Int) (x : σ) : forP T (a :: l) x = (T a x).bind fun y => forP T l y := rfl
end Go.Proofs.Ytpcohbpeglledaa
/-
  Registers of the document: a table read.
-/
namespace Go.Proofs.Ytpcohbpeglledaa
open Go.RowKit Kv
theorem ranks_but (q k a : Nat) (h : a = q) : ranksFrom q (k + 1) a = ranksFrom q k ((a + 1 : Nat) : Int) := by
  show (if (a : Int) = q then _ else _) = _
  rw [if_pos (by omega)]
  rfl
theorem ranks_not (q k a : Nat) (h : a ≠ q) : ranksFrom q (k + 1) a = (a : Int) :: ranksFrom q k ((a + 1 : Nat) : Int) := by
  show (if (a : Int) = q then _ else _) = _
  rw [if_neg (by omega)]
  rfl
theorem tells_le (k a b : Nat) (hk : 1 ≤ k ∧ k ≤ 7) (ha : a < k) (hb : b < k) : 0 ≤ tellsM k a b ∧ tellsM k a b ≤ 60 := by
  have h1 := tellsD_bd k a b (by omega) (by omega)
  have h2 := stepD_bd a b
  rw [tells_eq]
  omega
end Go.Proofs.Ytpcohbpeglledaa
/-
  Registers of the document: what a number that all write is made of, and what all of them tell.
-/
namespace Kv
open Go Go.RowKit
/-- What all numbers from j on tell, behind what was told. -/
def allA (b l n top me : Int) : Nat → Int → List Int → Prog (List Int)
  | 0, _, out => .ret out
  | k + 1, j, out => (tableR (manyB b n j) (manyL l n j) n j (manyTop top) me).bind fun y => allA b l n top me k (j + 1) (out ++ [y])
def stepM (t : Int) (q : Int × Int) (y : Int) : Int × Int := if q.1 ≤ unHi y t then (unHi y t, unLo y t) else q
theorem allA_many (b l n top me : Int) : ∀ (k : Nat) (j : Int) (out : List Int),
    ((allA b l n top me k j out).bind fun l => .ret (l.foldl (stepM (clamp top 255)) (0, 0))) = manyRs b l n top me k j (out.foldl (stepM (clamp top 255)) (0, 0)).1 (out.foldl (stepM (clamp top 255)) (0, 0)).2
  | 0, j, out => rfl
  | k + 1, j, out => by
    unfold allA manyRs
    rw [Prog.bind_assoc]
    congr 1
    funext y
    rw [allA_many b l n top me k (j + 1) (out ++ [y]), List.foldl_append]
    simp only [List.foldl_cons, List.foldl_nil]
    generalize out.foldl (stepM (clamp top 255)) (0, 0) = q
    unfold stepM
    split <;> rfl
end Kv
namespace Go.Proofs.Ytpcohbpeglledaa
open Go.RowKit Kv
end Go.Proofs.Ytpcohbpeglledaa
/-
  Registers of the document: what all numbers tell, one behind the other.
-/
namespace Go.Proofs.Ytpcohbpeglledaa
open Go.RowKit Kv
/-- A row of ints beside what the document's Mem owns. -/
def RowX (n0 p : Nat) (w : World) (v : Value) (l : List Int) : Prop := w.ownsRow n0 3 1 v l.length (l.map (Value.int .i64)) ∧ ∀ g, v.ownBlock = some g → ¬ ownR [3, 4, 5] w p g
section
variable {n0 B p : Nat} {w w' w1 w0 : World} {o : Bool} {S : TS} {v : Value} {l : List Int}
theorem RowX.nil (n0 p : Nat) (w : World) : RowX n0 p w (.slice none 0 0) [] := ⟨World.ownsRow_nil _ _ _ _, fun g h => by simp [Value.ownBlock] at h⟩
theorem RowX.keep (h : RowX n0 p w v l) (k : KeepR B p w w') : RowX n0 p w' v l := by
  obtain ⟨⟨h1, h2⟩, h3⟩ := h
  rcases h2 with h2 | ⟨g, cap, cur, rfl, hg, hh, r1, r2, r3, r4⟩
  · exact ⟨⟨h1, .inl h2⟩, fun g e => by rw [h2.1] at e; simp [Value.ownBlock] at e⟩
  · obtain ⟨k1, k2⟩ := k.rest g (Array.getElem?_eq_some_iff.1 hh).1 (h3 g rfl)
    exact ⟨⟨h1, .inr ⟨g, cap, cur, rfl, hg, k1.trans hh, r1, r2, r3, r4⟩⟩, fun b e => by simp only [Value.ownBlock, Option.some.injEq] at e; subst e; exact k2⟩
end
end Go.Proofs.Ytpcohbpeglledaa
/-
  Registers of the document: a number that all write, written and read.
-/
namespace Go.Proofs.Ytpcohbpeglledaa
open Go.RowKit Kv
theorem pack_clamp255 (a v top : Int) : packI a (clamp v (clamp top 255)) (clamp top 255) = packI a v (clamp top 255) := by
  have h : 0 ≤ clamp top 255 ∧ clamp top 255 ≤ 255 := by unfold clamp within; omega
  generalize clamp top 255 = T at *
  unfold packI
  congr 1
  unfold room clamp within
  omega
end Go.Proofs.Ytpcohbpeglledaa
/-
  Registers of the document: writing and reading one, of whichever kind.
-/
namespace Go.Proofs.Ytpcohbpeglledaa
open Go.RowKit Kv
end Go.Proofs.Ytpcohbpeglledaa
/-
  The splitter: passing it, by the document.
-/
namespace Kv
open Go Go.RowKit
/-- Passing a splitter of two registers. -/
def passM (x y : Reg) (me : Int) : Prog Int :=
  (regW x me (me + 1)).bind fun _ => (regR y me).bind fun v => if v ≠ 0 then .ret 1 else
    (regW y me 1).bind fun _ => (regR x me).bind fun v => if v = me + 1 then .ret 0 else .ret 2
end Kv
namespace Go.Proofs.Ytpcohbpeglledaa
open Go.RowKit Kv
def regVals (r : Reg) : List Value := [.int .i64 r.kind, .int .i64 r.base, .int .i64 r.loc, .int .i64 r.n, .int .i64 r.wr, .int .i64 r.rd, .int .i64 r.top]
/-- Registers in a row at the head of a block beside what a Mem owns. -/
structure RegsAt (ix : List Nat) (w : World) (p b : Nat) (l : List Reg) : Prop where
  lt : b < w.heap.size
  own : ¬ ownR ix w p b
  cells : ∀ j u, (l.flatMap regVals)[j]? = some u → w.cell? ⟨b, j, none⟩ = some u
theorem RegsAt.keep {ix : List Nat} {B p b : Nat} {w w' : World} {l : List Reg} (h : RegsAt ix w p b l) (k : Keep ix B p w w') : RegsAt ix w' p b l := by
  obtain ⟨h1, h2⟩ := k.rest b h.lt h.own
  exact ⟨Nat.lt_of_lt_of_le h.lt k.size, h2, fun j u hu => (World.cell?_of_block (w := w) (a := ⟨b, j, none⟩) h1).trans (h.cells j u hu)⟩
theorem RegsAt.two {ix : List Nat} {p b : Nat} {w : World} {x y : Reg} (h : RegsAt ix w p b [x, y]) :
    (w.cell? ⟨b, 0, none⟩ = some (.int .i64 x.kind) ∧ w.cell? ⟨b, 1, none⟩ = some (.int .i64 x.base) ∧ w.cell? ⟨b, 2, none⟩ = some (.int .i64 x.loc) ∧ w.cell? ⟨b, 3, none⟩ = some (.int .i64 x.n) ∧ w.cell? ⟨b, 4, none⟩ = some (.int .i64 x.wr) ∧ w.cell? ⟨b, 5, none⟩ = some (.int .i64 x.rd) ∧ w.cell? ⟨b, 6, none⟩ = some (.int .i64 x.top)) ∧
      (w.cell? ⟨b, 7, none⟩ = some (.int .i64 y.kind) ∧ w.cell? ⟨b, 8, none⟩ = some (.int .i64 y.base) ∧ w.cell? ⟨b, 9, none⟩ = some (.int .i64 y.loc) ∧ w.cell? ⟨b, 10, none⟩ = some (.int .i64 y.n) ∧ w.cell? ⟨b, 11, none⟩ = some (.int .i64 y.wr) ∧ w.cell? ⟨b, 12, none⟩ = some (.int .i64 y.rd) ∧ w.cell? ⟨b, 13, none⟩ = some (.int .i64 y.top)) :=
  ⟨⟨h.cells 0 _ rfl, h.cells 1 _ rfl, h.cells 2 _ rfl, h.cells 3 _ rfl, h.cells 4 _ rfl, h.cells 5 _ rfl, h.cells 6 _ rfl⟩, ⟨h.cells 7 _ rfl, h.cells 8 _ rfl, h.cells 9 _ rfl, h.cells 10 _ rfl, h.cells 11 _ rfl, h.cells 12 _ rfl, h.cells 13 _ rfl⟩⟩
end Go.Proofs.Ytpcohbpeglledaa
/-
  Rows of wants and of registers: reading them, appending to them.
-/
namespace Go.Proofs.Ytpcohbpeglledaa
open Go.RowKit Kv
theorem flat_at {α : Type} (f : α → List Value) (k : Nat) (hf : ∀ a, (f a).length = k) : ∀ (l : List α) (i j : Nat) (a : α), l[i]? = some a → j < k → (l.flatMap f)[k * i + j]? = (f a)[j]?
  | [], i, j, a, h, _ => by simp at h
  | x :: l, 0, j, a, h, hj => by
    obtain rfl : x = a := by simpa using h
    rw [List.flatMap_cons, Nat.mul_zero, Nat.zero_add, List.getElem?_append_left (by rw [hf]; exact hj)]
  | x :: l, i + 1, j, a, h, hj => by
    have := flat_at f k hf l i j a (by simpa using h) hj
    rw [List.flatMap_cons, List.getElem?_append_right (by rw [hf, Nat.mul_add]; omega), hf, show k * (i + 1) + j - k = k * i + j by rw [Nat.mul_add]; omega]
    exact this
theorem flat_len {α : Type} (f : α → List Value) (k : Nat) (hf : ∀ a, (f a).length = k) : ∀ l : List α, (l.flatMap f).length = k * l.length
  | [] => rfl
  | x :: l => by rw [List.flatMap_cons, List.length_append, hf, flat_len f k hf l, List.length_cons, Nat.mul_add]; omega
def wantVals (q : Want) : List Value := [.int .i64 q.wr, .int .i64 q.top]
/-- A slice of so many records that can be read. -/
def Recs (w : World) (v : Value) (n : Nat) (vals : List Value) : Prop := ∃ A c, v = .slice A n c ∧ n ≤ c ∧ c ≤ 9223372036854775807 ∧ Vals w A vals
theorem Recs.ext {w w' : World} {v : Value} {n : Nat} {vals : List Value} (h : Recs w v n vals) (hx : Ext w w') : Recs w' v n vals := by
  obtain ⟨A, c, e, h1, h2, h3⟩ := h
  exact ⟨A, c, e, h1, h2, h3.ext hx⟩
theorem Recs.of_row {w : World} {B e size n : Nat} {v : Value} {xs : List Value} (h : w.ownsRow B e size v n xs) : Recs w v n xs := vals_row h
/-- The slice v reads as the wants l. -/
def WantsAt (w : World) (v : Value) (l : List Want) : Prop := Recs w v l.length (l.flatMap wantVals)
/-- The slice v reads as the registers l. -/
def RegsV (w : World) (v : Value) (l : List Reg) : Prop := Recs w v l.length (l.flatMap regVals)
theorem want_at {w : World} {A : Option Addr} {l : List Want} (h : Vals w A (l.flatMap wantVals)) {i : Nat} {q : Want} (hi : l[i]? = some q) :
    ∃ b, A = some ⟨b, 0, none⟩ ∧ b < w.heap.size ∧ w.cell? ⟨b, i * 2, none⟩ = some (.int .i64 q.wr) ∧ w.cell? ⟨b, i * 2 + 1, none⟩ = some (.int .i64 q.top) := by
  have h0 := flat_at wantVals 2 (fun _ => rfl) l i 0 q hi (by omega)
  have h1 := flat_at wantVals 2 (fun _ => rfl) l i 1 q hi (by omega)
  obtain ⟨b, rfl, hb, hc⟩ := h (fun e => by rw [e] at h0; simp [wantVals] at h0)
  rw [Nat.mul_comm i 2]
  exact ⟨b, rfl, hb, hc _ _ h0, hc _ _ h1⟩
/-- The seven cells of a register from an offset on. -/
structure RegCells (w : World) (b o : Nat) (r : Reg) : Prop where
  kind : w.cell? ⟨b, o, none⟩ = some (.int .i64 r.kind)
  base : w.cell? ⟨b, o + 1, none⟩ = some (.int .i64 r.base)
  loc : w.cell? ⟨b, o + 2, none⟩ = some (.int .i64 r.loc)
  n : w.cell? ⟨b, o + 3, none⟩ = some (.int .i64 r.n)
  wr : w.cell? ⟨b, o + 4, none⟩ = some (.int .i64 r.wr)
  rd : w.cell? ⟨b, o + 5, none⟩ = some (.int .i64 r.rd)
  top : w.cell? ⟨b, o + 6, none⟩ = some (.int .i64 r.top)
theorem reg_cells {w : World} {b : Nat} {l : List Reg} (hc : ∀ (i : Nat) u, (l.flatMap regVals)[i]? = some u → w.cell? ⟨b, i, none⟩ = some u) {i : Nat} {r : Reg} (hi : l[i]? = some r) : RegCells w b (i * 7) r := by
  have f := fun j hj => flat_at regVals 7 (fun _ => rfl) l i j r hi hj
  rw [Nat.mul_comm i 7]
  exact ⟨hc _ _ (f 0 (by omega)), hc _ _ (f 1 (by omega)), hc _ _ (f 2 (by omega)), hc _ _ (f 3 (by omega)), hc _ _ (f 4 (by omega)), hc _ _ (f 5 (by omega)), hc _ _ (f 6 (by omega))⟩
theorem reg_at {w : World} {A : Option Addr} {l : List Reg} (h : Vals w A (l.flatMap regVals)) {i : Nat} {r : Reg} (hi : l[i]? = some r) : ∃ b, A = some ⟨b, 0, none⟩ ∧ b < w.heap.size ∧ RegCells w b (i * 7) r := by
  have h0 := flat_at regVals 7 (fun _ => rfl) l i 0 r hi (by omega)
  obtain ⟨b, rfl, hb, hc⟩ := h (fun e => by rw [e] at h0; simp [regVals] at h0)
  exact ⟨b, rfl, hb, reg_cells hc hi⟩
theorem info_reg : (Try.prog.info? 41).map (fun i => (i.zero, i.size, i.bytes)) = some (some (.agg #[.int .i64 0, .int .i64 0, .int .i64 0, .int .i64 0, .int .i64 0, .int .i64 0, .int .i64 0]), 7, 56) := by kernel_rfl
theorem info_want : (Try.prog.info? 59).map (fun i => (i.zero, i.size, i.bytes)) = some (some (.agg #[.int .i64 0, .int .i64 0]), 2, 16) := by kernel_rfl
/-- A record appended, out of the new cells that hold it, to a row of the call's own. -/
theorem append_rec {ops : Array Oper} {rest : List Oper} {o : Oper} {a : Act} {Q : Exit → Act → World → Prop} {w0 w : World} {e t : TypeId} {z : Value} {size bytes : Nat}
    (hinfo : (Try.prog.info? e).map (fun i => (i.zero, i.size, i.bytes)) = some (some z, size, bytes)) (hund : Try.prog.underlying t = some (.slice e)) (hzs : z.cells.size = size) (hsz : 0 < size) (hby : bytes ≤ 100)
    (hgd : o.guard = none) (s x : Operand) (ho : o.op = .call { callee := .builtin .append, args := #[s, x], argTypes := #[t, t] })
    (v : Value) (n : Nat) (xs news : List Value) (hX : Ext w0 w) (hown : w.ownsRow w0.heap.size e size v n xs) (hs : a.eval s = v) (hx : a.eval x = .slice (some ⟨w.heap.size, 0, none⟩) 1 1)
    (hnl : news.length = size) (h1 : ∀ u ∈ news, u.oneCell' = true) (hlen : n < 1000000000)
    (h : ∀ v' w', w'.ownsRow w0.heap.size e size v' (n + 1) (xs ++ news) → Ext w0 w' → (∀ k, k < w.heap.size → v.ownBlock ≠ some k → w'.heap[k]? = w.heap[k]?) → wpList Try.prog ops Q rest (a.put o.dst v') w') :
    wpList Try.prog ops Q (o :: rest) a (w.alloc (.cells news.toArray e)) := by
  obtain ⟨i0, hi, hz0, hz1, hz2⟩ := info_parts hinfo
  refine wpList_append_own_at _ hgd s x t ho w0.heap.size e i0 z size bytes hund hi hz0 hz1 hz2 hzs hsz v n xs hs (World.ownsRow.alloc hown _) ⟨w.heap.size, 0, none⟩ 1 1 news hx (by omega) ?_ h1 (by unfold maxLen; omega) ?_ (by have := hX.size; simp; omega) fun v' w' h2 h3 _ _ => ?_
  · intro j u hu
    rw [Addr.add_lit, Nat.zero_add]
    refine (cell_of_heap (w := w.alloc (.cells news.toArray e)) (b := w.heap.size) (cs := news.toArray) (t := e) (fz := (0, 0)) (heap_alloc_new w _) j).trans (by simpa using hu)
  · have : (n + 1) * bytes ≤ (n + 1) * 100 := Nat.mul_le_mul_left _ hby
    omega
  · refine h v' w' h2 (Below.grown (Below.alloc hX hX.size _) h3 (by have := hX.size; simp; omega) fun k hk => ?_) (fun k hk hv => (h3.block k (by simp; omega) (fun e => hv e.symm)).trans (Below.heap_alloc w _ k hk))
    rcases hown.2 with ⟨rfl, _⟩ | ⟨g, cap, cur, rfl, hgb, _⟩
    · simp [Value.ownBlock] at hk
    · simp [Value.ownBlock] at hk
      omega
end Go.Proofs.Ytpcohbpeglledaa
/-
  Plans of the document: how many cells and locals a register has.
-/
namespace Go.Proofs.Ytpcohbpeglledaa
open Go.RowKit Kv
theorem cells_bd (n : Int) (h1 : 1 ≤ n) (h2 : n ≤ 8) : (0 ≤ 16 * (n - 1) ∧ 16 * (n - 1) ≤ 112) ∧ (0 ≤ 16 * (n - 1) * (n - 1) ∧ 16 * (n - 1) * (n - 1) ≤ 784) ∧ (0 ≤ 16 * (n - 1) * (n - 1) * n ∧ 16 * (n - 1) * (n - 1) * n ≤ 6272) := by
  have a1 : 0 ≤ 16 * (n - 1) * (n - 1) := Int.mul_nonneg (by omega) (by omega)
  have a2 : 16 * (n - 1) * (n - 1) ≤ 112 * 7 := Int.mul_le_mul (by omega) (by omega) (by omega) (by omega)
  have a3 : 0 ≤ 16 * (n - 1) * (n - 1) * n := Int.mul_nonneg a1 (by omega)
  have a4 : 16 * (n - 1) * (n - 1) * n ≤ 784 * 8 := Int.mul_le_mul (by omega) (by omega) (by omega) (by omega)
  omega
theorem locals_bd (n : Int) (h1 : 1 ≤ n) (h2 : n ≤ 8) : (0 ≤ 18 * (n - 1) ∧ 18 * (n - 1) ≤ 126) ∧ (0 ≤ 18 * (n - 1) * (n - 1) ∧ 18 * (n - 1) * (n - 1) ≤ 882) ∧ (0 ≤ n * (2 + 18 * (n - 1) * (n - 1)) ∧ n * (2 + 18 * (n - 1) * (n - 1)) ≤ 7072) := by
  have a1 : 0 ≤ 18 * (n - 1) * (n - 1) := Int.mul_nonneg (by omega) (by omega)
  have a2 : 18 * (n - 1) * (n - 1) ≤ 126 * 7 := Int.mul_le_mul (by omega) (by omega) (by omega) (by omega)
  have a3 : 0 ≤ n * (2 + 18 * (n - 1) * (n - 1)) := Int.mul_nonneg (by omega) (by omega)
  have a4 : n * (2 + 18 * (n - 1) * (n - 1)) ≤ 8 * 884 := Int.mul_le_mul (by omega) (by omega) (by omega) (by omega)
  omega
theorem cells_r (r : Reg) (w : World) (hk : r.kind = 1 ∨ r.kind = 6 ∨ r.kind = 7) (hn : 1 ≤ r.n ∧ r.n ≤ 8) : Calls Try.prog 73 #[encR r] w fun e w' => e = .returned (.int .i64 (cellsM r)) ∧ Ext w w' := by
  obtain ⟨kind, base, loc, n, wr, rd, top⟩ := r
  simp only at hk hn
  have hb := cells_bd n hn.1 hn.2
  unfold encR cellsM
  simp only
  have hX := Ext.refl w
  have b1 := Blk.new w (.cells #[.int .i64 kind, .int .i64 base, .int .i64 loc, .int .i64 n, .int .i64 wr, .int .i64 rd, .int .i64 top] 41)
  replace hX := hX.alloc (.cells #[.int .i64 kind, .int .i64 base, .int .i64 loc, .int .i64 n, .int .i64 wr, .int .i64 rd, .int .i64 top] 41)
  have c_b1 := b1.cells
  go_enter Try.func73, Try.ntmps73
  go_wp2_with fail
  refine (rn_r ⟨kind, base, loc, n, wr, rd, top⟩ _ hn.1 hn.2).mono ?_
  rintro e w2 ⟨rfl, hx⟩
  clear c_b1
  replace b1 := b1.ext hx
  have c_b1 := b1.cells
  replace hX := hX.trans hx
  clear hx
  rcases hk with rfl | rfl | rfl
  · go_wp2_with fail
    go_ret
    exact ⟨rfl, hX⟩
  · go_wp2_with fail
    go_ret
    exact ⟨rfl, hX⟩
  · go_wp2_with fail
    go_ret
    exact ⟨rfl, hX⟩
theorem locals_r (r : Reg) (w : World) (hk : r.kind = 1 ∨ r.kind = 6 ∨ r.kind = 7) (hn : 1 ≤ r.n ∧ r.n ≤ 8) : Calls Try.prog 74 #[encR r] w fun e w' => e = .returned (.int .i64 (localsM r)) ∧ Ext w w' := by
  obtain ⟨kind, base, loc, n, wr, rd, top⟩ := r
  simp only at hk hn
  have hb := locals_bd n hn.1 hn.2
  unfold encR localsM
  simp only
  have hX := Ext.refl w
  have b1 := Blk.new w (.cells #[.int .i64 kind, .int .i64 base, .int .i64 loc, .int .i64 n, .int .i64 wr, .int .i64 rd, .int .i64 top] 41)
  replace hX := hX.alloc (.cells #[.int .i64 kind, .int .i64 base, .int .i64 loc, .int .i64 n, .int .i64 wr, .int .i64 rd, .int .i64 top] 41)
  have c_b1 := b1.cells
  go_enter Try.func74, Try.ntmps74
  go_wp2_with fail
  refine (rn_r ⟨kind, base, loc, n, wr, rd, top⟩ _ hn.1 hn.2).mono ?_
  rintro e w2 ⟨rfl, hx⟩
  clear c_b1
  replace b1 := b1.ext hx
  have c_b1 := b1.cells
  replace hX := hX.trans hx
  clear hx
  rcases hk with rfl | rfl | rfl
  · go_wp2_with fail
    go_ret
    exact ⟨rfl, hX⟩
  · go_wp2_with fail
    go_ret
    exact ⟨rfl, hX⟩
  · go_wp2_with fail
    go_ret
    exact ⟨rfl, hX⟩
theorem thread_in (n t : Int) (must : Bool) (w : World) (h : 0 ≤ t ∧ t < n) : Calls Try.prog 92 #[.int .i64 n, .int .i64 t, .bool must] w fun e w' => e = .returned (.bool true) ∧ w = w' := by
  obtain ⟨h1, h2⟩ := h
  go_enter Try.func92, Try.ntmps92
  go_wp2_with fail
  go_ret
  exact ⟨rfl, rfl⟩
theorem thread_none (n : Int) (w : World) : Calls Try.prog 92 #[.int .i64 n, .int .i64 (-1), .bool false] w fun e w' => e = .returned (.bool true) ∧ w = w' := by
  go_enter Try.func92, Try.ntmps92
  go_wp2_with fail
  go_ret
  exact ⟨rfl, rfl⟩
theorem thread_any (n t : Int) (must : Bool) (w : World) (h : (0 ≤ t ∧ t < n) ∨ (t = -1 ∧ must = false)) : Calls Try.prog 92 #[.int .i64 n, .int .i64 t, .bool must] w fun e w' => e = .returned (.bool true) ∧ w = w' := by
  rcases h with h | ⟨rfl, rfl⟩
  · exact thread_in n t must w h
  · exact thread_none n w
end Go.Proofs.Ytpcohbpeglledaa
/-
  Plans of the document: which registers may be.
-/
namespace Go.Proofs.Ytpcohbpeglledaa
open Go.RowKit Kv
/-- What a plan's register is ahead of its being fine. -/
structure Drawn (r : Reg) : Prop where
  kind : r.kind = 1 ∨ r.kind = 6 ∨ r.kind = 7
  base : 0 ≤ r.base
  loc : 0 ≤ r.loc
  n : 1 ≤ r.n ∧ r.n ≤ 8
  wr : -1 ≤ r.wr ∧ r.wr < r.n
  wr6 : r.kind = 6 → 0 ≤ r.wr
  rd : r.rd = -1
  top : 1 ≤ r.top ∧ r.top ≤ 255
set_option maxRecDepth 100000 in
set_option maxHeartbeats 2000000 in
theorem fine1_r (base loc n wr top C D : Int) (w : World) (hb : 0 ≤ base) (hl : 0 ≤ loc) (hn : 1 ≤ n ∧ n ≤ 8) (hw : -1 ≤ wr ∧ wr < n) (ht : 1 ≤ top ∧ top ≤ 255) (hz : 0 ≤ C ∧ C ≤ 6272 ∧ 0 ≤ D ∧ D ≤ 7072)
    (hC : ∀ w, Calls Try.prog 73 #[.agg #[.int .i64 1, .int .i64 base, .int .i64 loc, .int .i64 n, .int .i64 wr, .int .i64 (-1), .int .i64 top]] w fun e w' => e = .returned (.int .i64 C) ∧ Ext w w')
    (hL : ∀ w, Calls Try.prog 74 #[.agg #[.int .i64 1, .int .i64 base, .int .i64 loc, .int .i64 n, .int .i64 wr, .int .i64 (-1), .int .i64 top]] w fun e w' => e = .returned (.int .i64 D) ∧ Ext w w') :
    Calls Try.prog 72 #[.agg #[.int .i64 1, .int .i64 base, .int .i64 loc, .int .i64 n, .int .i64 wr, .int .i64 (-1), .int .i64 top]] w fun e w' => e = .returned (.bool (decide (base ≤ 32768) && decide (loc ≤ 32768) && decide (base + C ≤ 32768) && decide (loc + D ≤ 32768))) ∧ Ext w w' := by
  have d1 : decide (base < 0) = false := by simpa using hb
  have d2 : decide (loc < 0) = false := by simpa using hl
  have d3 : decide (n < 1) = false := by simpa using hn.1
  have d4 : decide (8 < n) = false := by simpa using hn.2
  have d7 : decide (1 ≤ top) = true := by simpa using ht.1
  have hX := Ext.refl w
  have b1 := Blk.new w (.cells #[.int .i64 1, .int .i64 base, .int .i64 loc, .int .i64 n, .int .i64 wr, .int .i64 (-1), .int .i64 top] 41)
  replace hX := hX.alloc (.cells #[.int .i64 1, .int .i64 base, .int .i64 loc, .int .i64 n, .int .i64 wr, .int .i64 (-1), .int .i64 top] 41)
  have c_b1 := b1.cells
  by_cases e1 : base ≤ 32768
  · have d5 : decide (32768 < base) = false := by simpa using e1
    by_cases e2 : loc ≤ 32768
    · have d6 : decide (32768 < loc) = false := by simpa using e2
      have e1' : decide (base ≤ 32768) = true := by simpa using e1
      have e2' : decide (loc ≤ 32768) = true := by simpa using e2
      rw [e1', e2', Bool.true_and, Bool.true_and]
      clear e1' e2'
      have h1w := IntWalk.i64_in (base + C) (by omega)
      have h2w := IntWalk.i64_in (loc + D) (by omega)
      go_enter Try.func72, Try.ntmps72
      go_wp2_with fail
      refine (thread_any n wr false _ (by rcases Int.lt_or_le wr 0 with e | e; exact .inr ⟨by omega, rfl⟩; exact .inl ⟨e, hw.2⟩)).mono ?_
      rintro e w' ⟨rfl, rfl⟩
      go_wp2_with fail
      refine (thread_none n _).mono ?_
      rintro e w' ⟨rfl, rfl⟩
      go_wp2_with fail
      have k1 := b1.alloc (.cells #[.int .i64 0, .int .i64 1099511627776, .int .i64 1, .int .i64 255, .int .i64 1, .int .i64 1099511627776, .int .i64 1048576, .int .i64 255] 3)
      have k2 := Blk.new (w.alloc (.cells #[.int .i64 1, .int .i64 base, .int .i64 loc, .int .i64 n, .int .i64 wr, .int .i64 (-1), .int .i64 top] 41)) (.cells #[.int .i64 0, .int .i64 1099511627776, .int .i64 1, .int .i64 255, .int .i64 1, .int .i64 1099511627776, .int .i64 1048576, .int .i64 255] 3)
      have hXW := hX.alloc (.cells #[.int .i64 0, .int .i64 1099511627776, .int .i64 1, .int .i64 255, .int .i64 1, .int .i64 1099511627776, .int .i64 1048576, .int .i64 255] 3)
      simp only [World.size_alloc] at k2
      clear b1 c_b1 hX
      generalize World.alloc (World.alloc _ _) _ = W at *
      have hX := (Ext.refl W).drew
      have hS : ∀ w', Ext W w' → (∀ i, w'.cell? ⟨w.heap.size, i, none⟩ = (#[.int .i64 1, .int .i64 base, .int .i64 loc, .int .i64 n, .int .i64 wr, .int .i64 (-1), .int .i64 top] : Array Value)[i]?) ∧ (∀ i, w'.cell? ⟨w.heap.size + 1, i, none⟩ = (#[.int .i64 0, .int .i64 1099511627776, .int .i64 1, .int .i64 255, .int .i64 1, .int .i64 1099511627776, .int .i64 1048576, .int .i64 255] : Array Value)[i]?) := fun w' hx => ⟨(k1.ext hx).cells, (k2.ext hx).cells⟩
      have d8 : decide (top ≤ 1099511627776) = true := by rw [decide_eq_true_eq]; omega
      by_cases hc : base + C ≤ 32768
      · have d9 : decide (base + C ≤ 32768) = true := by simpa using hc
        go_region_held2 (fun w' => (∀ i, w'.cell? ⟨w.heap.size, i, none⟩ = (#[.int .i64 1, .int .i64 base, .int .i64 loc, .int .i64 n, .int .i64 wr, .int .i64 (-1), .int .i64 top] : Array Value)[i]?) ∧ (∀ i, w'.cell? ⟨w.heap.size + 1, i, none⟩ = (#[.int .i64 0, .int .i64 1099511627776, .int .i64 1, .int .i64 255, .int .i64 1, .int .i64 1099511627776, .int .i64 1048576, .int .i64 255] : Array Value)[i]?)) (exact hS _ hX)
        (first
            | (go_at_call 73
               refine (hC _).mono ?_
               rintro e w2 ⟨rfl, hx⟩
               replace hX := hX.trans hx
               clear hx)
            | (go_at_call 74
               refine (hL _).mono ?_
               rintro e w2 ⟨rfl, hx⟩
               replace hX := hX.trans hx
               clear hx))
        go_wp2_with fail
        go_ret
        exact ⟨ret_bool (by rw [d9, Bool.true_and]), hXW.trans hX⟩
      · have d9 : decide (base + C ≤ 32768) = false := by simpa using hc
        refine wp_region_held_drew (S := fun w' => (∀ i, w'.cell? ⟨w.heap.size, i, none⟩ = (#[.int .i64 1, .int .i64 base, .int .i64 loc, .int .i64 n, .int .i64 wr, .int .i64 (-1), .int .i64 top] : Array Value)[i]?) ∧ (∀ i, w'.cell? ⟨w.heap.size + 1, i, none⟩ = (#[.int .i64 0, .int .i64 1099511627776, .int .i64 1, .int .i64 255, .int .i64 1, .int .i64 1099511627776, .int .i64 1048576, .int .i64 255] : Array Value)[i]?)) rfl (hS _ hX) (fun hHeld => ?_)
        refine wpAnyH_take (i := 0) (v := ?_) rfl (by kernel_rfl) (by kernel_rfl) (by kernel_rfl) (fun _ _ _ h => h) (Or.inl ⟨by kernel_rfl, ?_⟩) (by assumption) ?_
        rotate_left
        · (intro w hSw; (try dsimp only at hSw); go_simp; try with_reducible rfl)
        try simp only [put_pack]
        refine wpAnyH_take (i := 1) (v := ?_) rfl (by kernel_rfl) (by kernel_rfl) (by kernel_rfl) (fun _ _ _ h => h) (Or.inl ⟨by kernel_rfl, ?_⟩) (by assumption) ?_
        rotate_left
        · (intro w hSw; (try dsimp only at hSw); go_simp; try with_reducible rfl)
        try simp only [put_pack]
        refine wpAnyH_take (i := 2) (v := ?_) rfl (by kernel_rfl) (by kernel_rfl) (by kernel_rfl) (fun _ _ _ h => h) (Or.inl ⟨by kernel_rfl, ?_⟩) (by assumption) ?_
        rotate_left
        · (intro w hSw; (try dsimp only at hSw); go_simp; try with_reducible rfl)
        try simp only [put_pack]
        refine wpAnyH_take (i := 3) (v := ?_) rfl (by kernel_rfl) (by kernel_rfl) (by kernel_rfl) (fun _ _ _ h => h) (Or.inl ⟨by kernel_rfl, ?_⟩) (by assumption) ?_
        rotate_left
        · (intro w hSw; (try dsimp only at hSw); go_simp; try with_reducible rfl)
        try simp only [put_pack]
        refine wpAnyH_take (i := 4) (v := ?_) rfl (by kernel_rfl) (by kernel_rfl) (by kernel_rfl) (fun _ _ _ h => h) (Or.inl ⟨by kernel_rfl, ?_⟩) (by assumption) ?_
        rotate_left
        · (intro w hSw; (try dsimp only at hSw); go_simp; try with_reducible rfl)
        try simp only [put_pack]
        refine wpAnyH_take (i := 5) (v := ?_) rfl (by kernel_rfl) (by kernel_rfl) (by kernel_rfl) (fun _ _ _ h => h) (Or.inl ⟨by kernel_rfl, ?_⟩) (by assumption) ?_
        rotate_left
        · (intro w hSw; (try dsimp only at hSw); go_simp; try with_reducible rfl)
        try simp only [put_pack]
        refine wpAnyH_take (i := 6) (v := ?_) rfl (by kernel_rfl) (by kernel_rfl) (by kernel_rfl) (fun _ _ _ h => h) (Or.inl ⟨by kernel_rfl, ?_⟩) (by assumption) ?_
        rotate_left
        · (intro w hSw; (try dsimp only at hSw); go_simp; try with_reducible rfl)
        try simp only [put_pack]
        refine wpAnyH_take (i := 7) (v := ?_) rfl (by kernel_rfl) (by kernel_rfl) (by kernel_rfl) (fun _ _ _ h => h) (Or.inl ⟨by kernel_rfl, ?_⟩) (by assumption) ?_
        rotate_left
        · (intro w hSw; (try dsimp only at hSw); go_simp; try with_reducible rfl)
        try simp only [put_pack]
        refine wpAnyH_take (i := 8) (v := ?_) rfl (by kernel_rfl) (by kernel_rfl) (by kernel_rfl) (fun _ _ _ h => h) (Or.inl ⟨by kernel_rfl, ?_⟩) (by assumption) ?_
        rotate_left
        · (intro w hSw; (try dsimp only at hSw); go_simp; try with_reducible rfl)
        try simp only [put_pack]
        refine wpAnyH_take (i := 9) (v := ?_) rfl (by kernel_rfl) (by kernel_rfl) (by kernel_rfl) (fun _ _ _ h => h) (Or.inl ⟨by kernel_rfl, ?_⟩) (by assumption) ?_
        rotate_left
        · (intro w hSw; (try dsimp only at hSw); go_simp; try with_reducible rfl)
        try simp only [put_pack]
        refine wpAnyH_take (i := 10) (v := ?_) rfl (by kernel_rfl) (by kernel_rfl) (by kernel_rfl) (fun _ _ _ h => h) (Or.inl ⟨by kernel_rfl, ?_⟩) (by assumption) ?_
        rotate_left
        · (intro w hSw; (try dsimp only at hSw); go_simp; try with_reducible rfl)
        try simp only [put_pack]
        refine wpAnyH_take (i := 11) (v := ?_) rfl (by kernel_rfl) (by kernel_rfl) (by kernel_rfl) (fun _ _ _ h => h) (Or.inl ⟨by kernel_rfl, ?_⟩) (by assumption) ?_
        rotate_left
        · (intro w hSw; (try dsimp only at hSw); go_simp; try with_reducible rfl)
        try simp only [put_pack]
        refine wpAnyH_take (i := 12) (v := ?_) rfl (by kernel_rfl) (by kernel_rfl) (by kernel_rfl) (fun _ _ _ h => h) (Or.inl ⟨by kernel_rfl, ?_⟩) (by assumption) ?_
        rotate_left
        · (intro w hSw; (try dsimp only at hSw); go_simp; try with_reducible rfl)
        try simp only [put_pack]
        refine wpAnyH_take (i := 13) (v := ?_) rfl (by kernel_rfl) (by kernel_rfl) (by kernel_rfl) (fun _ _ _ h => h) (Or.inl ⟨by kernel_rfl, ?_⟩) (by assumption) ?_
        rotate_left
        · (intro w hSw; (try dsimp only at hSw); go_simp; try with_reducible rfl)
        try simp only [put_pack]
        refine wpAnyH_take (i := 14) (v := ?_) rfl (by kernel_rfl) (by kernel_rfl) (by kernel_rfl) (fun _ _ _ h => h) (Or.inl ⟨by kernel_rfl, ?_⟩) (by assumption) ?_
        rotate_left
        · (intro w hSw; (try dsimp only at hSw); go_simp; try with_reducible rfl)
        try simp only [put_pack]
        refine wpAnyH_take (i := 15) (v := ?_) rfl (by kernel_rfl) (by kernel_rfl) (by kernel_rfl) (fun _ _ _ h => h) (Or.inl ⟨by kernel_rfl, ?_⟩) (by assumption) ?_
        rotate_left
        · (intro w hSw; (try dsimp only at hSw); go_simp; try with_reducible rfl)
        try simp only [put_pack]
        refine wpAnyH_take (i := 16) (v := ?_) rfl (by kernel_rfl) (by kernel_rfl) (by kernel_rfl) (fun _ _ _ h => h) (Or.inl ⟨by kernel_rfl, ?_⟩) (by assumption) ?_
        rotate_left
        · (intro w hSw; (try dsimp only at hSw); go_simp; try with_reducible rfl)
        try simp only [put_pack]
        refine wpAnyH_ready (rs := [17]) (by kernel_rfl) (by simp) ?_
        refine AllReadyH.cons rfl (fun K hKK => ?_) AllReadyH.nil
        go_simp
        refine (hC _).mono ?_
        rintro e w2 ⟨rfl, hx⟩
        replace hX := hX.trans hx
        clear hx
        refine hKK.out _ _ (hS _ hX) (fun hHeld => ?_)
        clear hKK K
        try dsimp only
        refine wpAnyH_take (i := 18) (v := ?_) rfl (by kernel_rfl) (by kernel_rfl) (by kernel_rfl) (fun _ _ _ h => h) (Or.inl ⟨by kernel_rfl, ?_⟩) (by assumption) ?_
        rotate_left
        · (intro w hSw; (try dsimp only at hSw); go_simp; try with_reducible rfl)
        try simp only [put_pack]
        refine wpAnyH_take (i := 19) (v := ?_) rfl (by kernel_rfl) (by kernel_rfl) (by kernel_rfl) (fun _ _ _ h => h) (Or.inl ⟨by kernel_rfl, ?_⟩) (by assumption) ?_
        rotate_left
        · (intro w hSw; (try dsimp only at hSw); go_simp; try with_reducible rfl)
        try simp only [put_pack]
        refine wpAnyH_take (i := 20) (v := ?_) rfl (by kernel_rfl) (by kernel_rfl) (by kernel_rfl) (fun _ _ _ h => h) (Or.inl ⟨by kernel_rfl, ?_⟩) (by assumption) ?_
        rotate_left
        · (intro w hSw; (try dsimp only at hSw); go_simp; try with_reducible rfl)
        try simp only [put_pack]
        refine wpAnyH_take (i := 21) (v := ?_) rfl (by kernel_rfl) (by kernel_rfl) (by kernel_rfl) (fun _ _ _ h => h) (Or.inl ⟨by kernel_rfl, ?_⟩) (by assumption) ?_
        rotate_left
        · (intro w hSw; (try dsimp only at hSw); go_simp; try with_reducible rfl)
        try simp only [put_pack]
        refine wpAnyH_take (i := 22) (v := undef) rfl (by kernel_rfl) (by kernel_rfl) (by kernel_rfl) (fun _ _ _ h => h) (Or.inr ⟨by kernel_rfl, rfl⟩) (by assumption) ?_
        try simp only [put_pack]
        refine wpAnyH_take (i := 23) (v := undef) rfl (by kernel_rfl) (by kernel_rfl) (by kernel_rfl) (fun _ _ _ h => h) (Or.inr ⟨by kernel_rfl, rfl⟩) (by assumption) ?_
        try simp only [put_pack]
        refine wpAnyH_take (i := 24) (v := undef) rfl (by kernel_rfl) (by kernel_rfl) (by kernel_rfl) (fun _ _ _ h => h) (Or.inr ⟨by kernel_rfl, rfl⟩) (by assumption) ?_
        try simp only [put_pack]
        refine wpAnyH_take (i := 25) (v := undef) rfl (by kernel_rfl) (by kernel_rfl) (by kernel_rfl) (fun _ _ _ h => h) (Or.inr ⟨by kernel_rfl, rfl⟩) (by assumption) ?_
        try simp only [put_pack]
        refine wpAnyH_take (i := 26) (v := undef) rfl (by kernel_rfl) (by kernel_rfl) (by kernel_rfl) (fun _ _ _ h => h) (Or.inr ⟨by kernel_rfl, rfl⟩) (by assumption) ?_
        try simp only [put_pack]
        refine wpAnyH_take (i := 27) (v := undef) rfl (by kernel_rfl) (by kernel_rfl) (by kernel_rfl) (fun _ _ _ h => h) (Or.inr ⟨by kernel_rfl, rfl⟩) (by assumption) ?_
        try simp only [put_pack]
        refine wpAnyH_take (i := 28) (v := ?_) rfl (by kernel_rfl) (by kernel_rfl) (by kernel_rfl) (fun _ _ _ h => h) (Or.inl ⟨by kernel_rfl, ?_⟩) (by assumption) ?_
        rotate_left
        · (intro w hSw; (try dsimp only at hSw); go_simp; try with_reducible rfl)
        try simp only [put_pack]
        refine wpAnyH_take (i := 29) (v := ?_) rfl (by kernel_rfl) (by kernel_rfl) (by kernel_rfl) (fun _ _ _ h => h) (Or.inl ⟨by kernel_rfl, ?_⟩) (by assumption) ?_
        rotate_left
        · (intro w hSw; (try dsimp only at hSw); go_simp; try with_reducible rfl)
        try simp only [put_pack]
        refine wpAnyH_done (by kernel_rfl) ?_ _
        go_wp2_with fail
        go_ret
        exact ⟨ret_bool (by simp), hXW.trans hX⟩
    · have d6 : decide (32768 < loc) = true := by rw [decide_eq_true_eq]; omega
      have e2' : decide (loc ≤ 32768) = false := by simpa using e2
      rw [e2', Bool.and_false, Bool.false_and, Bool.false_and]
      go_enter Try.func72, Try.ntmps72
      go_wp2_with fail
      go_ret
      exact ⟨rfl, hX⟩
  · have d5 : decide (32768 < base) = true := by rw [decide_eq_true_eq]; omega
    have e2' : decide (base ≤ 32768) = false := by simpa using e1
    rw [e2', Bool.false_and, Bool.false_and, Bool.false_and]
    go_enter Try.func72, Try.ntmps72
    go_wp2_with fail
    go_ret
    exact ⟨rfl, hX⟩
set_option maxRecDepth 100000 in
set_option maxHeartbeats 2000000 in
theorem fine6_r (base loc n wr top C D : Int) (w : World) (hb : 0 ≤ base) (hl : 0 ≤ loc) (hn : 1 ≤ n ∧ n ≤ 8) (hw : 0 ≤ wr ∧ wr < n) (ht : 1 ≤ top ∧ top ≤ 255) (hz : 0 ≤ C ∧ C ≤ 6272 ∧ 0 ≤ D ∧ D ≤ 7072)
    (hC : ∀ w, Calls Try.prog 73 #[.agg #[.int .i64 6, .int .i64 base, .int .i64 loc, .int .i64 n, .int .i64 wr, .int .i64 (-1), .int .i64 top]] w fun e w' => e = .returned (.int .i64 C) ∧ Ext w w')
    (hL : ∀ w, Calls Try.prog 74 #[.agg #[.int .i64 6, .int .i64 base, .int .i64 loc, .int .i64 n, .int .i64 wr, .int .i64 (-1), .int .i64 top]] w fun e w' => e = .returned (.int .i64 D) ∧ Ext w w') :
    Calls Try.prog 72 #[.agg #[.int .i64 6, .int .i64 base, .int .i64 loc, .int .i64 n, .int .i64 wr, .int .i64 (-1), .int .i64 top]] w fun e w' => e = .returned (.bool (decide (base ≤ 32768) && decide (loc ≤ 32768) && decide (base + C ≤ 32768) && decide (loc + D ≤ 32768))) ∧ Ext w w' := by
  have d1 : decide (base < 0) = false := by simpa using hb
  have d2 : decide (loc < 0) = false := by simpa using hl
  have d3 : decide (n < 1) = false := by simpa using hn.1
  have d4 : decide (8 < n) = false := by simpa using hn.2
  have d7 : decide (1 ≤ top) = true := by simpa using ht.1
  have hX := Ext.refl w
  have b1 := Blk.new w (.cells #[.int .i64 6, .int .i64 base, .int .i64 loc, .int .i64 n, .int .i64 wr, .int .i64 (-1), .int .i64 top] 41)
  replace hX := hX.alloc (.cells #[.int .i64 6, .int .i64 base, .int .i64 loc, .int .i64 n, .int .i64 wr, .int .i64 (-1), .int .i64 top] 41)
  have c_b1 := b1.cells
  by_cases e1 : base ≤ 32768
  · have d5 : decide (32768 < base) = false := by simpa using e1
    by_cases e2 : loc ≤ 32768
    · have d6 : decide (32768 < loc) = false := by simpa using e2
      have e1' : decide (base ≤ 32768) = true := by simpa using e1
      have e2' : decide (loc ≤ 32768) = true := by simpa using e2
      rw [e1', e2', Bool.true_and, Bool.true_and]
      clear e1' e2'
      have h1w := IntWalk.i64_in (base + C) (by omega)
      have h2w := IntWalk.i64_in (loc + D) (by omega)
      go_enter Try.func72, Try.ntmps72
      go_wp2_with fail
      refine (thread_any n wr true _ (by omega)).mono ?_
      rintro e w' ⟨rfl, rfl⟩
      go_wp2_with fail
      refine (thread_none n _).mono ?_
      rintro e w' ⟨rfl, rfl⟩
      go_wp2_with fail
      have k1 := b1.alloc (.cells #[.int .i64 0, .int .i64 1099511627776, .int .i64 1, .int .i64 255, .int .i64 1, .int .i64 1099511627776, .int .i64 1048576, .int .i64 255] 3)
      have k2 := Blk.new (w.alloc (.cells #[.int .i64 6, .int .i64 base, .int .i64 loc, .int .i64 n, .int .i64 wr, .int .i64 (-1), .int .i64 top] 41)) (.cells #[.int .i64 0, .int .i64 1099511627776, .int .i64 1, .int .i64 255, .int .i64 1, .int .i64 1099511627776, .int .i64 1048576, .int .i64 255] 3)
      have hXW := hX.alloc (.cells #[.int .i64 0, .int .i64 1099511627776, .int .i64 1, .int .i64 255, .int .i64 1, .int .i64 1099511627776, .int .i64 1048576, .int .i64 255] 3)
      simp only [World.size_alloc] at k2
      clear b1 c_b1 hX
      generalize World.alloc (World.alloc _ _) _ = W at *
      have hX := (Ext.refl W).drew
      have hS : ∀ w', Ext W w' → (∀ i, w'.cell? ⟨w.heap.size, i, none⟩ = (#[.int .i64 6, .int .i64 base, .int .i64 loc, .int .i64 n, .int .i64 wr, .int .i64 (-1), .int .i64 top] : Array Value)[i]?) ∧ (∀ i, w'.cell? ⟨w.heap.size + 1, i, none⟩ = (#[.int .i64 0, .int .i64 1099511627776, .int .i64 1, .int .i64 255, .int .i64 1, .int .i64 1099511627776, .int .i64 1048576, .int .i64 255] : Array Value)[i]?) := fun w' hx => ⟨(k1.ext hx).cells, (k2.ext hx).cells⟩
      have d8 : decide (top ≤ 1048576) = true := by rw [decide_eq_true_eq]; omega
      by_cases hc : base + C ≤ 32768
      · have d9 : decide (base + C ≤ 32768) = true := by simpa using hc
        go_region_held2 (fun w' => (∀ i, w'.cell? ⟨w.heap.size, i, none⟩ = (#[.int .i64 6, .int .i64 base, .int .i64 loc, .int .i64 n, .int .i64 wr, .int .i64 (-1), .int .i64 top] : Array Value)[i]?) ∧ (∀ i, w'.cell? ⟨w.heap.size + 1, i, none⟩ = (#[.int .i64 0, .int .i64 1099511627776, .int .i64 1, .int .i64 255, .int .i64 1, .int .i64 1099511627776, .int .i64 1048576, .int .i64 255] : Array Value)[i]?)) (exact hS _ hX)
        (first
            | (go_at_call 73
               refine (hC _).mono ?_
               rintro e w2 ⟨rfl, hx⟩
               replace hX := hX.trans hx
               clear hx)
            | (go_at_call 74
               refine (hL _).mono ?_
               rintro e w2 ⟨rfl, hx⟩
               replace hX := hX.trans hx
               clear hx))
        go_wp2_with fail
        go_ret
        exact ⟨ret_bool (by rw [d9, Bool.true_and]), hXW.trans hX⟩
      · have d9 : decide (base + C ≤ 32768) = false := by simpa using hc
        refine wp_region_held_drew (S := fun w' => (∀ i, w'.cell? ⟨w.heap.size, i, none⟩ = (#[.int .i64 6, .int .i64 base, .int .i64 loc, .int .i64 n, .int .i64 wr, .int .i64 (-1), .int .i64 top] : Array Value)[i]?) ∧ (∀ i, w'.cell? ⟨w.heap.size + 1, i, none⟩ = (#[.int .i64 0, .int .i64 1099511627776, .int .i64 1, .int .i64 255, .int .i64 1, .int .i64 1099511627776, .int .i64 1048576, .int .i64 255] : Array Value)[i]?)) rfl (hS _ hX) (fun hHeld => ?_)
        refine wpAnyH_take (i := 0) (v := ?_) rfl (by kernel_rfl) (by kernel_rfl) (by kernel_rfl) (fun _ _ _ h => h) (Or.inl ⟨by kernel_rfl, ?_⟩) (by assumption) ?_
        rotate_left
        · (intro w hSw; (try dsimp only at hSw); go_simp; try with_reducible rfl)
        try simp only [put_pack]
        refine wpAnyH_take (i := 1) (v := ?_) rfl (by kernel_rfl) (by kernel_rfl) (by kernel_rfl) (fun _ _ _ h => h) (Or.inl ⟨by kernel_rfl, ?_⟩) (by assumption) ?_
        rotate_left
        · (intro w hSw; (try dsimp only at hSw); go_simp; try with_reducible rfl)
        try simp only [put_pack]
        refine wpAnyH_take (i := 2) (v := ?_) rfl (by kernel_rfl) (by kernel_rfl) (by kernel_rfl) (fun _ _ _ h => h) (Or.inl ⟨by kernel_rfl, ?_⟩) (by assumption) ?_
        rotate_left
        · (intro w hSw; (try dsimp only at hSw); go_simp; try with_reducible rfl)
        try simp only [put_pack]
        refine wpAnyH_take (i := 3) (v := ?_) rfl (by kernel_rfl) (by kernel_rfl) (by kernel_rfl) (fun _ _ _ h => h) (Or.inl ⟨by kernel_rfl, ?_⟩) (by assumption) ?_
        rotate_left
        · (intro w hSw; (try dsimp only at hSw); go_simp; try with_reducible rfl)
        try simp only [put_pack]
        refine wpAnyH_take (i := 4) (v := ?_) rfl (by kernel_rfl) (by kernel_rfl) (by kernel_rfl) (fun _ _ _ h => h) (Or.inl ⟨by kernel_rfl, ?_⟩) (by assumption) ?_
        rotate_left
        · (intro w hSw; (try dsimp only at hSw); go_simp; try with_reducible rfl)
        try simp only [put_pack]
        refine wpAnyH_take (i := 5) (v := ?_) rfl (by kernel_rfl) (by kernel_rfl) (by kernel_rfl) (fun _ _ _ h => h) (Or.inl ⟨by kernel_rfl, ?_⟩) (by assumption) ?_
        rotate_left
        · (intro w hSw; (try dsimp only at hSw); go_simp; try with_reducible rfl)
        try simp only [put_pack]
        refine wpAnyH_take (i := 6) (v := ?_) rfl (by kernel_rfl) (by kernel_rfl) (by kernel_rfl) (fun _ _ _ h => h) (Or.inl ⟨by kernel_rfl, ?_⟩) (by assumption) ?_
        rotate_left
        · (intro w hSw; (try dsimp only at hSw); go_simp; try with_reducible rfl)
        try simp only [put_pack]
        refine wpAnyH_take (i := 7) (v := ?_) rfl (by kernel_rfl) (by kernel_rfl) (by kernel_rfl) (fun _ _ _ h => h) (Or.inl ⟨by kernel_rfl, ?_⟩) (by assumption) ?_
        rotate_left
        · (intro w hSw; (try dsimp only at hSw); go_simp; try with_reducible rfl)
        try simp only [put_pack]
        refine wpAnyH_take (i := 8) (v := ?_) rfl (by kernel_rfl) (by kernel_rfl) (by kernel_rfl) (fun _ _ _ h => h) (Or.inl ⟨by kernel_rfl, ?_⟩) (by assumption) ?_
        rotate_left
        · (intro w hSw; (try dsimp only at hSw); go_simp; try with_reducible rfl)
        try simp only [put_pack]
        refine wpAnyH_take (i := 9) (v := ?_) rfl (by kernel_rfl) (by kernel_rfl) (by kernel_rfl) (fun _ _ _ h => h) (Or.inl ⟨by kernel_rfl, ?_⟩) (by assumption) ?_
        rotate_left
        · (intro w hSw; (try dsimp only at hSw); go_simp; try with_reducible rfl)
        try simp only [put_pack]
        refine wpAnyH_take (i := 10) (v := ?_) rfl (by kernel_rfl) (by kernel_rfl) (by kernel_rfl) (fun _ _ _ h => h) (Or.inl ⟨by kernel_rfl, ?_⟩) (by assumption) ?_
        rotate_left
        · (intro w hSw; (try dsimp only at hSw); go_simp; try with_reducible rfl)
        try simp only [put_pack]
        refine wpAnyH_take (i := 11) (v := ?_) rfl (by kernel_rfl) (by kernel_rfl) (by kernel_rfl) (fun _ _ _ h => h) (Or.inl ⟨by kernel_rfl, ?_⟩) (by assumption) ?_
        rotate_left
        · (intro w hSw; (try dsimp only at hSw); go_simp; try with_reducible rfl)
        try simp only [put_pack]
        refine wpAnyH_take (i := 12) (v := ?_) rfl (by kernel_rfl) (by kernel_rfl) (by kernel_rfl) (fun _ _ _ h => h) (Or.inl ⟨by kernel_rfl, ?_⟩) (by assumption) ?_
        rotate_left
        · (intro w hSw; (try dsimp only at hSw); go_simp; try with_reducible rfl)
        try simp only [put_pack]
        refine wpAnyH_take (i := 13) (v := ?_) rfl (by kernel_rfl) (by kernel_rfl) (by kernel_rfl) (fun _ _ _ h => h) (Or.inl ⟨by kernel_rfl, ?_⟩) (by assumption) ?_
        rotate_left
        · (intro w hSw; (try dsimp only at hSw); go_simp; try with_reducible rfl)
        try simp only [put_pack]
        refine wpAnyH_take (i := 14) (v := ?_) rfl (by kernel_rfl) (by kernel_rfl) (by kernel_rfl) (fun _ _ _ h => h) (Or.inl ⟨by kernel_rfl, ?_⟩) (by assumption) ?_
        rotate_left
        · (intro w hSw; (try dsimp only at hSw); go_simp; try with_reducible rfl)
        try simp only [put_pack]
        refine wpAnyH_take (i := 15) (v := ?_) rfl (by kernel_rfl) (by kernel_rfl) (by kernel_rfl) (fun _ _ _ h => h) (Or.inl ⟨by kernel_rfl, ?_⟩) (by assumption) ?_
        rotate_left
        · (intro w hSw; (try dsimp only at hSw); go_simp; try with_reducible rfl)
        try simp only [put_pack]
        refine wpAnyH_take (i := 16) (v := ?_) rfl (by kernel_rfl) (by kernel_rfl) (by kernel_rfl) (fun _ _ _ h => h) (Or.inl ⟨by kernel_rfl, ?_⟩) (by assumption) ?_
        rotate_left
        · (intro w hSw; (try dsimp only at hSw); go_simp; try with_reducible rfl)
        try simp only [put_pack]
        refine wpAnyH_ready (rs := [17]) (by kernel_rfl) (by simp) ?_
        refine AllReadyH.cons rfl (fun K hKK => ?_) AllReadyH.nil
        go_simp
        refine (hC _).mono ?_
        rintro e w2 ⟨rfl, hx⟩
        replace hX := hX.trans hx
        clear hx
        refine hKK.out _ _ (hS _ hX) (fun hHeld => ?_)
        clear hKK K
        try dsimp only
        refine wpAnyH_take (i := 18) (v := ?_) rfl (by kernel_rfl) (by kernel_rfl) (by kernel_rfl) (fun _ _ _ h => h) (Or.inl ⟨by kernel_rfl, ?_⟩) (by assumption) ?_
        rotate_left
        · (intro w hSw; (try dsimp only at hSw); go_simp; try with_reducible rfl)
        try simp only [put_pack]
        refine wpAnyH_take (i := 19) (v := ?_) rfl (by kernel_rfl) (by kernel_rfl) (by kernel_rfl) (fun _ _ _ h => h) (Or.inl ⟨by kernel_rfl, ?_⟩) (by assumption) ?_
        rotate_left
        · (intro w hSw; (try dsimp only at hSw); go_simp; try with_reducible rfl)
        try simp only [put_pack]
        refine wpAnyH_take (i := 20) (v := ?_) rfl (by kernel_rfl) (by kernel_rfl) (by kernel_rfl) (fun _ _ _ h => h) (Or.inl ⟨by kernel_rfl, ?_⟩) (by assumption) ?_
        rotate_left
        · (intro w hSw; (try dsimp only at hSw); go_simp; try with_reducible rfl)
        try simp only [put_pack]
        refine wpAnyH_take (i := 21) (v := ?_) rfl (by kernel_rfl) (by kernel_rfl) (by kernel_rfl) (fun _ _ _ h => h) (Or.inl ⟨by kernel_rfl, ?_⟩) (by assumption) ?_
        rotate_left
        · (intro w hSw; (try dsimp only at hSw); go_simp; try with_reducible rfl)
        try simp only [put_pack]
        refine wpAnyH_take (i := 22) (v := undef) rfl (by kernel_rfl) (by kernel_rfl) (by kernel_rfl) (fun _ _ _ h => h) (Or.inr ⟨by kernel_rfl, rfl⟩) (by assumption) ?_
        try simp only [put_pack]
        refine wpAnyH_take (i := 23) (v := undef) rfl (by kernel_rfl) (by kernel_rfl) (by kernel_rfl) (fun _ _ _ h => h) (Or.inr ⟨by kernel_rfl, rfl⟩) (by assumption) ?_
        try simp only [put_pack]
        refine wpAnyH_take (i := 24) (v := undef) rfl (by kernel_rfl) (by kernel_rfl) (by kernel_rfl) (fun _ _ _ h => h) (Or.inr ⟨by kernel_rfl, rfl⟩) (by assumption) ?_
        try simp only [put_pack]
        refine wpAnyH_take (i := 25) (v := undef) rfl (by kernel_rfl) (by kernel_rfl) (by kernel_rfl) (fun _ _ _ h => h) (Or.inr ⟨by kernel_rfl, rfl⟩) (by assumption) ?_
        try simp only [put_pack]
        refine wpAnyH_take (i := 26) (v := undef) rfl (by kernel_rfl) (by kernel_rfl) (by kernel_rfl) (fun _ _ _ h => h) (Or.inr ⟨by kernel_rfl, rfl⟩) (by assumption) ?_
        try simp only [put_pack]
        refine wpAnyH_take (i := 27) (v := undef) rfl (by kernel_rfl) (by kernel_rfl) (by kernel_rfl) (fun _ _ _ h => h) (Or.inr ⟨by kernel_rfl, rfl⟩) (by assumption) ?_
        try simp only [put_pack]
        refine wpAnyH_take (i := 28) (v := ?_) rfl (by kernel_rfl) (by kernel_rfl) (by kernel_rfl) (fun _ _ _ h => h) (Or.inl ⟨by kernel_rfl, ?_⟩) (by assumption) ?_
        rotate_left
        · (intro w hSw; (try dsimp only at hSw); go_simp; try with_reducible rfl)
        try simp only [put_pack]
        refine wpAnyH_take (i := 29) (v := ?_) rfl (by kernel_rfl) (by kernel_rfl) (by kernel_rfl) (fun _ _ _ h => h) (Or.inl ⟨by kernel_rfl, ?_⟩) (by assumption) ?_
        rotate_left
        · (intro w hSw; (try dsimp only at hSw); go_simp; try with_reducible rfl)
        try simp only [put_pack]
        refine wpAnyH_done (by kernel_rfl) ?_ _
        go_wp2_with fail
        go_ret
        exact ⟨ret_bool (by simp), hXW.trans hX⟩
    · have d6 : decide (32768 < loc) = true := by rw [decide_eq_true_eq]; omega
      have e2' : decide (loc ≤ 32768) = false := by simpa using e2
      rw [e2', Bool.and_false, Bool.false_and, Bool.false_and]
      go_enter Try.func72, Try.ntmps72
      go_wp2_with fail
      go_ret
      exact ⟨rfl, hX⟩
  · have d5 : decide (32768 < base) = true := by rw [decide_eq_true_eq]; omega
    have e2' : decide (base ≤ 32768) = false := by simpa using e1
    rw [e2', Bool.false_and, Bool.false_and, Bool.false_and]
    go_enter Try.func72, Try.ntmps72
    go_wp2_with fail
    go_ret
    exact ⟨rfl, hX⟩
set_option maxRecDepth 100000 in
set_option maxHeartbeats 2000000 in
theorem fine7_r (base loc n wr top C D : Int) (w : World) (hb : 0 ≤ base) (hl : 0 ≤ loc) (hn : 1 ≤ n ∧ n ≤ 8) (hw : -1 ≤ wr ∧ wr < n) (ht : 1 ≤ top ∧ top ≤ 255) (hz : 0 ≤ C ∧ C ≤ 6272 ∧ 0 ≤ D ∧ D ≤ 7072)
    (hC : ∀ w, Calls Try.prog 73 #[.agg #[.int .i64 7, .int .i64 base, .int .i64 loc, .int .i64 n, .int .i64 wr, .int .i64 (-1), .int .i64 top]] w fun e w' => e = .returned (.int .i64 C) ∧ Ext w w')
    (hL : ∀ w, Calls Try.prog 74 #[.agg #[.int .i64 7, .int .i64 base, .int .i64 loc, .int .i64 n, .int .i64 wr, .int .i64 (-1), .int .i64 top]] w fun e w' => e = .returned (.int .i64 D) ∧ Ext w w') :
    Calls Try.prog 72 #[.agg #[.int .i64 7, .int .i64 base, .int .i64 loc, .int .i64 n, .int .i64 wr, .int .i64 (-1), .int .i64 top]] w fun e w' => e = .returned (.bool (decide (base ≤ 32768) && decide (loc ≤ 32768) && decide (base + C ≤ 32768) && decide (loc + D ≤ 32768))) ∧ Ext w w' := by
  have d1 : decide (base < 0) = false := by simpa using hb
  have d2 : decide (loc < 0) = false := by simpa using hl
  have d3 : decide (n < 1) = false := by simpa using hn.1
  have d4 : decide (8 < n) = false := by simpa using hn.2
  have d7 : decide (1 ≤ top) = true := by simpa using ht.1
  have hX := Ext.refl w
  have b1 := Blk.new w (.cells #[.int .i64 7, .int .i64 base, .int .i64 loc, .int .i64 n, .int .i64 wr, .int .i64 (-1), .int .i64 top] 41)
  replace hX := hX.alloc (.cells #[.int .i64 7, .int .i64 base, .int .i64 loc, .int .i64 n, .int .i64 wr, .int .i64 (-1), .int .i64 top] 41)
  have c_b1 := b1.cells
  by_cases e1 : base ≤ 32768
  · have d5 : decide (32768 < base) = false := by simpa using e1
    by_cases e2 : loc ≤ 32768
    · have d6 : decide (32768 < loc) = false := by simpa using e2
      have e1' : decide (base ≤ 32768) = true := by simpa using e1
      have e2' : decide (loc ≤ 32768) = true := by simpa using e2
      rw [e1', e2', Bool.true_and, Bool.true_and]
      clear e1' e2'
      have h1w := IntWalk.i64_in (base + C) (by omega)
      have h2w := IntWalk.i64_in (loc + D) (by omega)
      go_enter Try.func72, Try.ntmps72
      go_wp2_with fail
      refine (thread_any n wr false _ (by rcases Int.lt_or_le wr 0 with e | e; exact .inr ⟨by omega, rfl⟩; exact .inl ⟨e, hw.2⟩)).mono ?_
      rintro e w' ⟨rfl, rfl⟩
      go_wp2_with fail
      refine (thread_none n _).mono ?_
      rintro e w' ⟨rfl, rfl⟩
      go_wp2_with fail
      have k1 := b1.alloc (.cells #[.int .i64 0, .int .i64 1099511627776, .int .i64 1, .int .i64 255, .int .i64 1, .int .i64 1099511627776, .int .i64 1048576, .int .i64 255] 3)
      have k2 := Blk.new (w.alloc (.cells #[.int .i64 7, .int .i64 base, .int .i64 loc, .int .i64 n, .int .i64 wr, .int .i64 (-1), .int .i64 top] 41)) (.cells #[.int .i64 0, .int .i64 1099511627776, .int .i64 1, .int .i64 255, .int .i64 1, .int .i64 1099511627776, .int .i64 1048576, .int .i64 255] 3)
      have hXW := hX.alloc (.cells #[.int .i64 0, .int .i64 1099511627776, .int .i64 1, .int .i64 255, .int .i64 1, .int .i64 1099511627776, .int .i64 1048576, .int .i64 255] 3)
      simp only [World.size_alloc] at k2
      clear b1 c_b1 hX
      generalize World.alloc (World.alloc _ _) _ = W at *
      have hX := (Ext.refl W).drew
      have hS : ∀ w', Ext W w' → (∀ i, w'.cell? ⟨w.heap.size, i, none⟩ = (#[.int .i64 7, .int .i64 base, .int .i64 loc, .int .i64 n, .int .i64 wr, .int .i64 (-1), .int .i64 top] : Array Value)[i]?) ∧ (∀ i, w'.cell? ⟨w.heap.size + 1, i, none⟩ = (#[.int .i64 0, .int .i64 1099511627776, .int .i64 1, .int .i64 255, .int .i64 1, .int .i64 1099511627776, .int .i64 1048576, .int .i64 255] : Array Value)[i]?) := fun w' hx => ⟨(k1.ext hx).cells, (k2.ext hx).cells⟩
      have d8 : decide (top ≤ 255) = true := by rw [decide_eq_true_eq]; omega
      by_cases hc : base + C ≤ 32768
      · have d9 : decide (base + C ≤ 32768) = true := by simpa using hc
        go_region_held2 (fun w' => (∀ i, w'.cell? ⟨w.heap.size, i, none⟩ = (#[.int .i64 7, .int .i64 base, .int .i64 loc, .int .i64 n, .int .i64 wr, .int .i64 (-1), .int .i64 top] : Array Value)[i]?) ∧ (∀ i, w'.cell? ⟨w.heap.size + 1, i, none⟩ = (#[.int .i64 0, .int .i64 1099511627776, .int .i64 1, .int .i64 255, .int .i64 1, .int .i64 1099511627776, .int .i64 1048576, .int .i64 255] : Array Value)[i]?)) (exact hS _ hX)
        (first
            | (go_at_call 73
               refine (hC _).mono ?_
               rintro e w2 ⟨rfl, hx⟩
               replace hX := hX.trans hx
               clear hx)
            | (go_at_call 74
               refine (hL _).mono ?_
               rintro e w2 ⟨rfl, hx⟩
               replace hX := hX.trans hx
               clear hx))
        go_wp2_with fail
        go_ret
        exact ⟨ret_bool (by rw [d9, Bool.true_and]), hXW.trans hX⟩
      · have d9 : decide (base + C ≤ 32768) = false := by simpa using hc
        refine wp_region_held_drew (S := fun w' => (∀ i, w'.cell? ⟨w.heap.size, i, none⟩ = (#[.int .i64 7, .int .i64 base, .int .i64 loc, .int .i64 n, .int .i64 wr, .int .i64 (-1), .int .i64 top] : Array Value)[i]?) ∧ (∀ i, w'.cell? ⟨w.heap.size + 1, i, none⟩ = (#[.int .i64 0, .int .i64 1099511627776, .int .i64 1, .int .i64 255, .int .i64 1, .int .i64 1099511627776, .int .i64 1048576, .int .i64 255] : Array Value)[i]?)) rfl (hS _ hX) (fun hHeld => ?_)
        refine wpAnyH_take (i := 0) (v := ?_) rfl (by kernel_rfl) (by kernel_rfl) (by kernel_rfl) (fun _ _ _ h => h) (Or.inl ⟨by kernel_rfl, ?_⟩) (by assumption) ?_
        rotate_left
        · (intro w hSw; (try dsimp only at hSw); go_simp; try with_reducible rfl)
        try simp only [put_pack]
        refine wpAnyH_take (i := 1) (v := ?_) rfl (by kernel_rfl) (by kernel_rfl) (by kernel_rfl) (fun _ _ _ h => h) (Or.inl ⟨by kernel_rfl, ?_⟩) (by assumption) ?_
        rotate_left
        · (intro w hSw; (try dsimp only at hSw); go_simp; try with_reducible rfl)
        try simp only [put_pack]
        refine wpAnyH_take (i := 2) (v := ?_) rfl (by kernel_rfl) (by kernel_rfl) (by kernel_rfl) (fun _ _ _ h => h) (Or.inl ⟨by kernel_rfl, ?_⟩) (by assumption) ?_
        rotate_left
        · (intro w hSw; (try dsimp only at hSw); go_simp; try with_reducible rfl)
        try simp only [put_pack]
        refine wpAnyH_take (i := 3) (v := ?_) rfl (by kernel_rfl) (by kernel_rfl) (by kernel_rfl) (fun _ _ _ h => h) (Or.inl ⟨by kernel_rfl, ?_⟩) (by assumption) ?_
        rotate_left
        · (intro w hSw; (try dsimp only at hSw); go_simp; try with_reducible rfl)
        try simp only [put_pack]
        refine wpAnyH_take (i := 4) (v := ?_) rfl (by kernel_rfl) (by kernel_rfl) (by kernel_rfl) (fun _ _ _ h => h) (Or.inl ⟨by kernel_rfl, ?_⟩) (by assumption) ?_
        rotate_left
        · (intro w hSw; (try dsimp only at hSw); go_simp; try with_reducible rfl)
        try simp only [put_pack]
        refine wpAnyH_take (i := 5) (v := ?_) rfl (by kernel_rfl) (by kernel_rfl) (by kernel_rfl) (fun _ _ _ h => h) (Or.inl ⟨by kernel_rfl, ?_⟩) (by assumption) ?_
        rotate_left
        · (intro w hSw; (try dsimp only at hSw); go_simp; try with_reducible rfl)
        try simp only [put_pack]
        refine wpAnyH_take (i := 6) (v := ?_) rfl (by kernel_rfl) (by kernel_rfl) (by kernel_rfl) (fun _ _ _ h => h) (Or.inl ⟨by kernel_rfl, ?_⟩) (by assumption) ?_
        rotate_left
        · (intro w hSw; (try dsimp only at hSw); go_simp; try with_reducible rfl)
        try simp only [put_pack]
        refine wpAnyH_take (i := 7) (v := ?_) rfl (by kernel_rfl) (by kernel_rfl) (by kernel_rfl) (fun _ _ _ h => h) (Or.inl ⟨by kernel_rfl, ?_⟩) (by assumption) ?_
        rotate_left
        · (intro w hSw; (try dsimp only at hSw); go_simp; try with_reducible rfl)
        try simp only [put_pack]
        refine wpAnyH_take (i := 8) (v := ?_) rfl (by kernel_rfl) (by kernel_rfl) (by kernel_rfl) (fun _ _ _ h => h) (Or.inl ⟨by kernel_rfl, ?_⟩) (by assumption) ?_
        rotate_left
        · (intro w hSw; (try dsimp only at hSw); go_simp; try with_reducible rfl)
        try simp only [put_pack]
        refine wpAnyH_take (i := 9) (v := ?_) rfl (by kernel_rfl) (by kernel_rfl) (by kernel_rfl) (fun _ _ _ h => h) (Or.inl ⟨by kernel_rfl, ?_⟩) (by assumption) ?_
        rotate_left
        · (intro w hSw; (try dsimp only at hSw); go_simp; try with_reducible rfl)
        try simp only [put_pack]
        refine wpAnyH_take (i := 10) (v := ?_) rfl (by kernel_rfl) (by kernel_rfl) (by kernel_rfl) (fun _ _ _ h => h) (Or.inl ⟨by kernel_rfl, ?_⟩) (by assumption) ?_
        rotate_left
        · (intro w hSw; (try dsimp only at hSw); go_simp; try with_reducible rfl)
        try simp only [put_pack]
        refine wpAnyH_take (i := 11) (v := ?_) rfl (by kernel_rfl) (by kernel_rfl) (by kernel_rfl) (fun _ _ _ h => h) (Or.inl ⟨by kernel_rfl, ?_⟩) (by assumption) ?_
        rotate_left
        · (intro w hSw; (try dsimp only at hSw); go_simp; try with_reducible rfl)
        try simp only [put_pack]
        refine wpAnyH_take (i := 12) (v := ?_) rfl (by kernel_rfl) (by kernel_rfl) (by kernel_rfl) (fun _ _ _ h => h) (Or.inl ⟨by kernel_rfl, ?_⟩) (by assumption) ?_
        rotate_left
        · (intro w hSw; (try dsimp only at hSw); go_simp; try with_reducible rfl)
        try simp only [put_pack]
        refine wpAnyH_take (i := 13) (v := ?_) rfl (by kernel_rfl) (by kernel_rfl) (by kernel_rfl) (fun _ _ _ h => h) (Or.inl ⟨by kernel_rfl, ?_⟩) (by assumption) ?_
        rotate_left
        · (intro w hSw; (try dsimp only at hSw); go_simp; try with_reducible rfl)
        try simp only [put_pack]
        refine wpAnyH_take (i := 14) (v := ?_) rfl (by kernel_rfl) (by kernel_rfl) (by kernel_rfl) (fun _ _ _ h => h) (Or.inl ⟨by kernel_rfl, ?_⟩) (by assumption) ?_
        rotate_left
        · (intro w hSw; (try dsimp only at hSw); go_simp; try with_reducible rfl)
        try simp only [put_pack]
        refine wpAnyH_take (i := 15) (v := ?_) rfl (by kernel_rfl) (by kernel_rfl) (by kernel_rfl) (fun _ _ _ h => h) (Or.inl ⟨by kernel_rfl, ?_⟩) (by assumption) ?_
        rotate_left
        · (intro w hSw; (try dsimp only at hSw); go_simp; try with_reducible rfl)
        try simp only [put_pack]
        refine wpAnyH_take (i := 16) (v := ?_) rfl (by kernel_rfl) (by kernel_rfl) (by kernel_rfl) (fun _ _ _ h => h) (Or.inl ⟨by kernel_rfl, ?_⟩) (by assumption) ?_
        rotate_left
        · (intro w hSw; (try dsimp only at hSw); go_simp; try with_reducible rfl)
        try simp only [put_pack]
        refine wpAnyH_ready (rs := [17]) (by kernel_rfl) (by simp) ?_
        refine AllReadyH.cons rfl (fun K hKK => ?_) AllReadyH.nil
        go_simp
        refine (hC _).mono ?_
        rintro e w2 ⟨rfl, hx⟩
        replace hX := hX.trans hx
        clear hx
        refine hKK.out _ _ (hS _ hX) (fun hHeld => ?_)
        clear hKK K
        try dsimp only
        refine wpAnyH_take (i := 18) (v := ?_) rfl (by kernel_rfl) (by kernel_rfl) (by kernel_rfl) (fun _ _ _ h => h) (Or.inl ⟨by kernel_rfl, ?_⟩) (by assumption) ?_
        rotate_left
        · (intro w hSw; (try dsimp only at hSw); go_simp; try with_reducible rfl)
        try simp only [put_pack]
        refine wpAnyH_take (i := 19) (v := ?_) rfl (by kernel_rfl) (by kernel_rfl) (by kernel_rfl) (fun _ _ _ h => h) (Or.inl ⟨by kernel_rfl, ?_⟩) (by assumption) ?_
        rotate_left
        · (intro w hSw; (try dsimp only at hSw); go_simp; try with_reducible rfl)
        try simp only [put_pack]
        refine wpAnyH_take (i := 20) (v := ?_) rfl (by kernel_rfl) (by kernel_rfl) (by kernel_rfl) (fun _ _ _ h => h) (Or.inl ⟨by kernel_rfl, ?_⟩) (by assumption) ?_
        rotate_left
        · (intro w hSw; (try dsimp only at hSw); go_simp; try with_reducible rfl)
        try simp only [put_pack]
        refine wpAnyH_take (i := 21) (v := ?_) rfl (by kernel_rfl) (by kernel_rfl) (by kernel_rfl) (fun _ _ _ h => h) (Or.inl ⟨by kernel_rfl, ?_⟩) (by assumption) ?_
        rotate_left
        · (intro w hSw; (try dsimp only at hSw); go_simp; try with_reducible rfl)
        try simp only [put_pack]
        refine wpAnyH_take (i := 22) (v := undef) rfl (by kernel_rfl) (by kernel_rfl) (by kernel_rfl) (fun _ _ _ h => h) (Or.inr ⟨by kernel_rfl, rfl⟩) (by assumption) ?_
        try simp only [put_pack]
        refine wpAnyH_take (i := 23) (v := undef) rfl (by kernel_rfl) (by kernel_rfl) (by kernel_rfl) (fun _ _ _ h => h) (Or.inr ⟨by kernel_rfl, rfl⟩) (by assumption) ?_
        try simp only [put_pack]
        refine wpAnyH_take (i := 24) (v := undef) rfl (by kernel_rfl) (by kernel_rfl) (by kernel_rfl) (fun _ _ _ h => h) (Or.inr ⟨by kernel_rfl, rfl⟩) (by assumption) ?_
        try simp only [put_pack]
        refine wpAnyH_take (i := 25) (v := undef) rfl (by kernel_rfl) (by kernel_rfl) (by kernel_rfl) (fun _ _ _ h => h) (Or.inr ⟨by kernel_rfl, rfl⟩) (by assumption) ?_
        try simp only [put_pack]
        refine wpAnyH_take (i := 26) (v := undef) rfl (by kernel_rfl) (by kernel_rfl) (by kernel_rfl) (fun _ _ _ h => h) (Or.inr ⟨by kernel_rfl, rfl⟩) (by assumption) ?_
        try simp only [put_pack]
        refine wpAnyH_take (i := 27) (v := undef) rfl (by kernel_rfl) (by kernel_rfl) (by kernel_rfl) (fun _ _ _ h => h) (Or.inr ⟨by kernel_rfl, rfl⟩) (by assumption) ?_
        try simp only [put_pack]
        refine wpAnyH_take (i := 28) (v := ?_) rfl (by kernel_rfl) (by kernel_rfl) (by kernel_rfl) (fun _ _ _ h => h) (Or.inl ⟨by kernel_rfl, ?_⟩) (by assumption) ?_
        rotate_left
        · (intro w hSw; (try dsimp only at hSw); go_simp; try with_reducible rfl)
        try simp only [put_pack]
        refine wpAnyH_take (i := 29) (v := ?_) rfl (by kernel_rfl) (by kernel_rfl) (by kernel_rfl) (fun _ _ _ h => h) (Or.inl ⟨by kernel_rfl, ?_⟩) (by assumption) ?_
        rotate_left
        · (intro w hSw; (try dsimp only at hSw); go_simp; try with_reducible rfl)
        try simp only [put_pack]
        refine wpAnyH_done (by kernel_rfl) ?_ _
        go_wp2_with fail
        go_ret
        exact ⟨ret_bool (by simp), hXW.trans hX⟩
    · have d6 : decide (32768 < loc) = true := by rw [decide_eq_true_eq]; omega
      have e2' : decide (loc ≤ 32768) = false := by simpa using e2
      rw [e2', Bool.and_false, Bool.false_and, Bool.false_and]
      go_enter Try.func72, Try.ntmps72
      go_wp2_with fail
      go_ret
      exact ⟨rfl, hX⟩
  · have d5 : decide (32768 < base) = true := by rw [decide_eq_true_eq]; omega
    have e2' : decide (base ≤ 32768) = false := by simpa using e1
    rw [e2', Bool.false_and, Bool.false_and, Bool.false_and]
    go_enter Try.func72, Try.ntmps72
    go_wp2_with fail
    go_ret
    exact ⟨rfl, hX⟩
theorem fine_r (r : Reg) (w : World) (h : Drawn r) : Calls Try.prog 72 #[encR r] w fun e w' => e = .returned (.bool (fineM r)) ∧ Ext w w' := by
  obtain ⟨hk, hb, hl, hn, hw, hw6, hrd, ht⟩ := h
  have hC := fun w => cells_r r w hk hn
  have hL := fun w => locals_r r w hk hn
  have hz := cells_nat r hn
  obtain ⟨kind, base, loc, n, wr, rd, top⟩ := r
  simp only at hk hb hl hn hw hw6 hrd ht
  subst hrd
  unfold fineM
  rcases hk with rfl | rfl | rfl
  · exact fine1_r base loc n wr top _ _ w hb hl hn hw ht hz hC hL
  · exact fine6_r base loc n wr top _ _ w hb hl hn ⟨hw6 rfl, hw.2⟩ ht hz hC hL
  · exact fine7_r base loc n wr top _ _ w hb hl hn hw ht hz hC hL
end Go.Proofs.Ytpcohbpeglledaa
/-
  Plans of the document: laying registers.
-/
namespace Go.Proofs.Ytpcohbpeglledaa
open Go.RowKit Kv
@[go_sem] theorem build_reg (a b c d e f g : Int) (w : World) : (Instr.build 41 #[(0, .int .i64 a), (1, .int .i64 b), (2, .int .i64 c), (3, .int .i64 d), (4, .int .i64 e), (5, .int .i64 f), (6, .int .i64 g)]).run Try.prog w = .ok (.agg #[.int .i64 a, .int .i64 b, .int .i64 c, .int .i64 d, .int .i64 e, .int .i64 f, .int .i64 g]) w := run_build w 41 _ _ (by kernel_rfl)
/-- What laying comes to. -/
def LayPost (B : Nat) (w : World) (o : Option (List Reg)) (e : Ending) (w' : World) : Prop :=
  Ext w w' ∧ match o with
    | some rs => ∃ v, e = .returned (.tuple #[v, .int .i64 0]) ∧ w'.ownsRow B 41 7 v rs.length (rs.flatMap regVals)
    | none => ∃ x : Int, x ≠ 0 ∧ e = .returned (.tuple #[.slice none 0 0, .int .i64 x])
theorem layFrom_cons (n mode : Int) (q : Want) (l : List Want) (b c : Int) : layFrom n mode (q :: l) b c = if fineM (regOf n mode b c q) then (layFrom n mode l (b + cellsM (regOf n mode b c q)) (c + localsM (regOf n mode b c q))).map (regOf n mode b c q :: ·) else none := rfl
theorem argsM_false {l : List Want} {n mode b c : Int} (h : ¬ (1 ≤ mode ∧ mode ≤ 2 ∧ 1 ≤ n ∧ n ≤ 8 ∧ 0 ≤ b ∧ 0 ≤ c)) : layM l n mode b c = none := by
  unfold layM argsM
  rw [show decide (1 ≤ mode ∧ mode ≤ 2 ∧ 1 ≤ n ∧ n ≤ 8 ∧ 0 ≤ b ∧ 0 ≤ c) = false from by simpa using h]
  rfl
theorem argsM_bad {l : List Want} {n mode b c : Int} {i : Nat} {q : Want} (hq : l[i]? = some q) (h : ¬ (-1 ≤ q.wr ∧ q.wr < n)) : layM l n mode b c = none := by
  unfold layM argsM
  have : (l.all fun q => decide (-1 ≤ q.wr ∧ q.wr < n)) = false := by
    rw [List.all_eq_false]
    exact ⟨q, List.mem_of_getElem? hq, by simpa using h⟩
  rw [this, Bool.and_false]
  rfl
theorem argsM_good {l : List Want} {n mode b c : Int} (h : 1 ≤ mode ∧ mode ≤ 2 ∧ 1 ≤ n ∧ n ≤ 8 ∧ 0 ≤ b ∧ 0 ≤ c) (hq : ∀ (k : Nat) q, l[k]? = some q → -1 ≤ q.wr ∧ q.wr < n) : layM l n mode b c = layFrom n mode l b c := by
  unfold layM argsM
  rw [show decide (1 ≤ mode ∧ mode ≤ 2 ∧ 1 ≤ n ∧ n ≤ 8 ∧ 0 ≤ b ∧ 0 ≤ c) = true from by simpa using h]
  have : (l.all fun q => decide (-1 ≤ q.wr ∧ q.wr < n)) = true := by
    rw [List.all_eq_true]
    intro q hm
    obtain ⟨k, hk⟩ := List.getElem?_of_mem hm
    simpa using hq k q hk
  rw [this]
  rfl
set_option maxRecDepth 100000 in
set_option maxHeartbeats 2000000 in
theorem lay_r (va : Value) (l : List Want) (n mode base loc : Int) (w : World) (h : WantsAt w va l) (hlen : l.length ≤ 1000) :
    Calls Try.prog 38 #[va, .int .i64 n, .int .i64 mode, .int .i64 base, .int .i64 loc] w (LayPost w.heap.size w (layM l n mode base loc)) := by
  obtain ⟨A, c, rfl, q1, q2, hv⟩ := h
  by_cases h0 : 1 ≤ mode ∧ mode ≤ 2 ∧ 1 ≤ n ∧ n ≤ 8 ∧ 0 ≤ base ∧ 0 ≤ loc
  · have hmd : mode = 1 ∨ mode = 2 := by omega
    rcases hmd with rfl | rfl
    · have hgood := Lib.hid (fun hq => argsM_good (l := l) h0 hq)
      have hbad := Lib.hid (fun (i : Nat) q hq hx => argsM_bad (l := l) (n := n) (mode := 1) (b := base) (c := loc) (i := i) (q := q) hq hx)
      obtain ⟨-, -, n1, n2, b1, l1⟩ := h0
      go_enter Try.func38, Try.ntmps38
      have d3 : decide (n < 1) = false := by rw [decide_eq_false_iff_not]; omega
      have d4 : decide (8 < n) = false := by rw [decide_eq_false_iff_not]; omega
      have d5 : decide (base < 0) = false := by rw [decide_eq_false_iff_not]; omega
      have d6 : decide (loc < 0) = false := by rw [decide_eq_false_iff_not]; omega
      go_wp2_with fail
      go_loopw [12] (fun i wr => ∃ j : Nat, i = .int .i64 j ∧ j ≤ l.length ∧ Hid (∀ (k : Nat) q, k < j → l[k]? = some q → -1 ≤ q.wr ∧ q.wr < n) ∧ w = wr) (fun i _ => l.length - (intOf i).toNat)
      case atStart => exact ⟨0, rfl, by omega, fun k q hk => by omega, rfl⟩
      case round =>
        obtain ⟨j, rfl, hj, hs, rfl⟩ := hrel
        by_cases hl : j < l.length
        · obtain ⟨q, hq⟩ : ∃ q, l[j]? = some q := ⟨_, List.getElem?_eq_getElem hl⟩
          obtain ⟨b, rfl, hb, e1, e2⟩ := want_at hv hq
          by_cases f1 : q.wr < -1
          · have d7 : decide (q.wr < -1) = true := by simpa using f1
            have hf := Lib.hid (hbad.out j q hq (by omega))
            clear hq hgood hbad hs
            go_wp2_with fail
            rw [hf.out]
            refine bodyPost_ret (v := .tuple #[.slice none 0 0, .int .i64 1]) (by simp [results, Try.results38, go_sem]) rfl ?_
            exact ⟨Ext.refl _, 1, by decide, rfl⟩
          · have d7 : decide (q.wr < -1) = false := by rw [decide_eq_false_iff_not]; omega
            by_cases f2 : n ≤ q.wr
            · have d8 : decide (n ≤ q.wr) = true := by simpa using f2
              have hf := Lib.hid (hbad.out j q hq (by omega))
              clear hq hgood hbad hs
              go_wp2_with fail
              rw [hf.out]
              refine bodyPost_ret (v := .tuple #[.slice none 0 0, .int .i64 1]) (by simp [results, Try.results38, go_sem]) rfl ?_
              exact ⟨Ext.refl _, 1, by decide, rfl⟩
            · have d8 : decide (n ≤ q.wr) = false := by rw [decide_eq_false_iff_not]; omega
              have hs2 : Hid (∀ (k : Nat) q, k < j + 1 → l[k]? = some q → -1 ≤ q.wr ∧ q.wr < n) := Lib.hid fun k q' hk hq' => by
                by_cases e : k = j
                · subst e
                  rw [hq] at hq'
                  obtain rfl : q = q' := by simpa using hq'
                  omega
                · exact hs.out k q' (by omega) hq'
              clear hq hs hgood hbad
              go_wp2_with fail
              refine ⟨⟨j + 1, by go_num, by omega, hs2, by trivial⟩, ?_⟩
              simp [intOf]; omega
        · have hlay := Lib.hid (hgood.out fun k q hq => hs.out k q (by have := (List.getElem?_eq_some_iff.1 hq).1; omega) hq)
          have hwr := Lib.hid (fun (k : Nat) (q : Want) (hq : l[k]? = some q) => hs.out k q (by have := (List.getElem?_eq_some_iff.1 hq).1; omega) hq)
          clear hgood hbad hs
          go_wp2_with fail
          go_loopw [3, 4, 13, 14] (fun b' c' v i wr => ∃ (j : Nat) (bi ci : Int) (pre : List Reg), b' = .int .i64 bi ∧ c' = .int .i64 ci ∧ i = .int .i64 j ∧ j ≤ l.length ∧ pre.length = j ∧ 0 ≤ bi ∧ 0 ≤ ci ∧ Hid (layFrom n 1 l base loc = (layFrom n 1 (l.drop j) bi ci).map (pre ++ ·)) ∧ wr.ownsRow w.heap.size 41 7 v j (pre.flatMap regVals) ∧ Ext w wr) (fun _ _ _ i _ => l.length - (intOf i).toNat)
          case atStart => exact ⟨0, base, loc, [], rfl, rfl, rfl, by omega, rfl, b1, l1, by unfold Hid; simp, World.ownsRow_nil _ _ _ _, Ext.refl _⟩
          case round =>
            obtain ⟨j, bi, ci, pre, rfl, rfl, rfl, hj, hpl, hbi, hci, hM, hown, hE⟩ := hrel
            by_cases hl : j < l.length
            · obtain ⟨q, hq⟩ : ∃ q, l[j]? = some q := ⟨_, List.getElem?_eq_getElem hl⟩
              obtain ⟨b, rfl, hb, e1, e2⟩ := want_at (hv.ext hE) hq
              obtain ⟨w1, w2⟩ := hwr.out j q hq
              have hdr : l.drop j = q :: l.drop (j + 1) := by
                rw [List.drop_eq_getElem_cons hl]
                congr 1
                rw [List.getElem?_eq_getElem hl] at hq
                simpa using hq
              have hMh := Lib.hid hM
              have hownh := Lib.hid hown
              have hdrh := Lib.hid hdr
              clear hM hown hdr hq
              have hS : ∀ w', Ext wr w' → w'.cell? ⟨b, j * 2, none⟩ = some (.int .i64 q.wr) ∧ w'.cell? ⟨b, j * 2 + 1, none⟩ = some (.int .i64 q.top) := fun w' hx => ⟨(hx.cell (p := ⟨b, j * 2, none⟩) hb).trans e1, (hx.cell (p := ⟨b, j * 2 + 1, none⟩) hb).trans e2⟩
              go_upto_region 12 with fail
              go_cut [15] (fun r wx => r = .pointer (some ⟨wr.heap.size, 0, none⟩) ∧ wx = (wr.alloc (.cells #[.int .i64 1, .int .i64 bi, .int .i64 ci, .int .i64 n, .int .i64 q.wr, .int .i64 (-1), .int .i64 (clamp q.top 255)] 41)).drew)
              case first =>
                go_region_held2 (fun w' => w'.cell? ⟨b, j * 2, none⟩ = some (.int .i64 q.wr) ∧ w'.cell? ⟨b, j * 2 + 1, none⟩ = some (.int .i64 q.top)) (first | exact hS _ ((Ext.refl _).drew) | (refine hS _ ?_; repeat first | with_reducible exact Ext.refl _ | with_reducible refine Ext.drew ?_ | with_reducible refine Ext.setCell ?_ (Nat.le_refl _) _ | with_reducible refine Ext.alloc ?_ _))
                  (first
                    | (go_at_call 71
                       refine (clamp_r _ _ _).mono ?_
                       rintro e w' ⟨rfl, rfl⟩))
                all_goals
                  go_wp2_with fail
                  go_meet
                  exact ⟨rfl, rfl⟩
              case rest =>
                obtain ⟨rfl, rfl⟩ := hcut
                have g1 := Blk.new wr (.cells #[.int .i64 1, .int .i64 bi, .int .i64 ci, .int .i64 n, .int .i64 q.wr, .int .i64 (-1), .int .i64 (clamp q.top 255)] 41)
                have x1 : Ext wr (wr.alloc (.cells #[.int .i64 1, .int .i64 bi, .int .i64 ci, .int .i64 n, .int .i64 q.wr, .int .i64 (-1), .int .i64 (clamp q.top 255)] 41)).drew := ((Ext.refl wr).alloc _).drew
                replace g1 := g1.drew
                generalize World.drew _ = W1 at *
                have c_1 := g1.cells
                have fz := frozen_of_heap g1
                go_upto_if 82 with fail
                go_cut [15] (fun r wx => r = .pointer (some ⟨wr.heap.size, 0, none⟩) ∧ Blk wx wr.heap.size (.cells #[.int .i64 1, .int .i64 bi, .int .i64 ci, .int .i64 n, .int .i64 q.wr, .int .i64 (-1), .int .i64 (topM q.top)] 41) ∧ Ext wr wx)
                case first =>
                  by_cases hz : clamp q.top 255 = 0
                  · have hz2 : (clamp q.top 255 == 0) = true := by simpa using hz
                    go_wp2_with fail
                    go_meet
                    refine ⟨rfl, ?_, x1.setCell (Nat.le_refl _) _⟩
                    have := heap_setCell (i := 6) g1 (.int .i64 1)
                    rw [show topM q.top = 1 from by unfold topM; rw [if_pos hz]]
                    exact this
                  · have hz2 : (clamp q.top 255 == 0) = false := by simpa using hz
                    go_wp2_with fail
                    go_meet
                    refine ⟨rfl, ?_, x1⟩
                    rw [show topM q.top = clamp q.top 255 from by unfold topM; rw [if_neg hz]]
                    exact g1
                case rest =>
                  obtain ⟨rfl, g2, x2⟩ := hcut
                  clear g1 x1 c_1 fz W1
                  obtain ⟨e3, e4⟩ := hS wc x2
                  have c_2 := g2.cells
                  have fz := frozen_of_heap g2
                  have hk : kindM 1 q.wr = 1 := by unfold kindM; rw [if_neg (by omega)]
                  have hrg : regOf n 1 bi ci q = ⟨1, bi, ci, n, q.wr, -1, topM q.top⟩ := by unfold regOf; rw [hk]
                  have htm := topM_bd q.top
                  have hdn : Drawn ⟨1, bi, ci, n, q.wr, -1, topM q.top⟩ := ⟨by simp, hbi, hci, ⟨n1, n2⟩, ⟨w1, w2⟩, (fun h => by cases h), rfl, htm⟩
                  have hlf := Lib.hid (show layFrom n 1 (l.drop j) bi ci = if fineM ⟨1, bi, ci, n, q.wr, -1, topM q.top⟩ then (layFrom n 1 (l.drop (j + 1)) (bi + cellsM ⟨1, bi, ci, n, q.wr, -1, topM q.top⟩) (ci + localsM ⟨1, bi, ci, n, q.wr, -1, topM q.top⟩)).map (⟨1, bi, ci, n, q.wr, -1, topM q.top⟩ :: ·) else none from by rw [hdrh.out, layFrom_cons, hrg])
                  have hFF := fun W => fine_r ⟨1, bi, ci, n, q.wr, -1, topM q.top⟩ W hdn
                  have hCC := fun W => cells_r ⟨1, bi, ci, n, q.wr, -1, topM q.top⟩ W (by simp) ⟨n1, n2⟩
                  have hLL := fun W => locals_r ⟨1, bi, ci, n, q.wr, -1, topM q.top⟩ W (by simp) ⟨n1, n2⟩
                  have hcn := cells_nat ⟨1, bi, ci, n, q.wr, -1, topM q.top⟩ ⟨n1, n2⟩
                  have hfb : fineM ⟨1, bi, ci, n, q.wr, -1, topM q.top⟩ = true → bi ≤ 32768 ∧ ci ≤ 32768 := by
                    unfold fineM
                    simp only [Bool.and_eq_true, decide_eq_true_eq]
                    omega
                  clear hdn hk hrg htm hdrh
                  unfold encR at hFF hCC hLL
                  generalize topM q.top = tp at *
                  generalize cellsM _ = C at *
                  generalize localsM _ = D at *
                  generalize hfm : fineM _ = F at *
                  clear hfm
                  go_wp2_with fail
                  have g3 := g2
                  have x3 := x2
                  generalize wc = W at *
                  clear g2 x2 c_2 fz e3 e4
                  refine (hFF _).mono ?_
                  rintro e w3 ⟨rfl, hx⟩
                  clear hFF
                  replace g3 := g3.ext hx
                  replace x3 := x3.trans hx
                  clear hx
                  have c_3 := g3.cells
                  cases F with
                  | false =>
                    have hres := Lib.hid (show layM l n 1 base loc = none from by rw [hlay.out, hMh.out, hlf.out]; rfl)
                    go_wp2_with fail
                    rw [hres.out]
                    exact bodyPost_ret (v := .tuple #[.slice none 0 0, .int .i64 6]) (by simp [results, Try.results38, go_sem]) rfl ⟨hE.trans x3, 6, by decide, rfl⟩
                  | true =>
                    obtain ⟨hb1, hb2⟩ := hfb rfl
                    have s1 := IntWalk.i64_in (bi + C) (by omega)
                    have s2 := IntWalk.i64_in (ci + D) (by omega)
                    have hown3 := row_ext hownh.out x3
                    have hRn : Hid (u13.ownBlock ≠ some wr.heap.size) := Lib.hid fun e => by have := (hownh.out.lt _ e).2; omega
                    have hE3 := hE.trans x3
                    have hM2 := Lib.hid (show layFrom n 1 l base loc = (layFrom n 1 (l.drop (j + 1)) (bi + C) (ci + D)).map ((pre ++ [⟨1, bi, ci, n, q.wr, -1, tp⟩]) ++ ·) from by
                      rw [hMh.out, hlf.out]
                      simp only [if_true, Option.map_map]
                      congr 1
                      funext x
                      simp)
                    clear hfb hlf hMh hownh hb1 hb2
                    go_wp2_with (at_builtin; refine append_rec info_reg Try.underlying25 rfl (by decide) (by decide) rfl _ _ rfl _ j (pre.flatMap regVals) [.int .i64 1, .int .i64 bi, .int .i64 ci, .int .i64 n, .int .i64 q.wr, .int .i64 (-1), .int .i64 tp] hE3 hown3 rfl rfl rfl (by simp [Value.oneCell']) (by omega) ?_)
                    intro v' w4 ho4 hx4 hbk
                    have g4 : Blk w4 wr.heap.size _ := (hbk _ g3.lt hRn.out).trans g3
                    have c_4 := g4.cells
                    clear hbk hown3 hE3 c_3 hRn g3 x3
                    go_wp2_with fail
                    refine (hCC _).mono ?_
                    rintro e w5 ⟨rfl, hx⟩
                    replace g4 := g4.ext hx
                    replace ho4 := row_ext ho4 hx
                    replace hx4 := hx4.trans hx
                    clear c_4 hx hCC
                    have c_4 := g4.cells
                    go_wp2_with fail
                    refine (hLL _).mono ?_
                    rintro e w6 ⟨rfl, hx⟩
                    replace ho4 := row_ext ho4 hx
                    replace hx4 := hx4.trans hx
                    clear c_4 g4 hx hLL
                    have ho5 := Lib.hid ho4
                    clear ho4
                    go_wp2_with fail
                    refine ⟨⟨j + 1, bi + C, ci + D, pre ++ [⟨1, bi, ci, n, q.wr, -1, tp⟩], rfl, rfl, by go_num, by omega, by simp [hpl], by omega, by omega, hM2, by rw [List.flatMap_append]; exact ho5.out, hx4⟩, ?_⟩
                    simp [intOf]; omega
            · have hf : layFrom n 1 l base loc = some pre := by
                rw [hM.out, List.drop_eq_nil_of_le (by omega)]
                simp [layFrom]
              have hres := Lib.hid (hlay.out.trans hf)
              clear hM hf hlay hwr
              have hownh := Lib.hid hown
              clear hown
              go_wp2_with fail
              rw [hres.out]
              refine bodyPost_ret (v := .tuple #[u13, .int .i64 0]) (by simp [results, Try.results38, go_sem]) rfl ?_
              exact ⟨hE, u13, rfl, by rw [hpl]; exact hownh.out⟩

    · have hgood := Lib.hid (fun hq => argsM_good (l := l) h0 hq)
      have hbad := Lib.hid (fun (i : Nat) q hq hx => argsM_bad (l := l) (n := n) (mode := 2) (b := base) (c := loc) (i := i) (q := q) hq hx)
      obtain ⟨-, -, n1, n2, b1, l1⟩ := h0
      go_enter Try.func38, Try.ntmps38
      have d3 : decide (n < 1) = false := by rw [decide_eq_false_iff_not]; omega
      have d4 : decide (8 < n) = false := by rw [decide_eq_false_iff_not]; omega
      have d5 : decide (base < 0) = false := by rw [decide_eq_false_iff_not]; omega
      have d6 : decide (loc < 0) = false := by rw [decide_eq_false_iff_not]; omega
      go_wp2_with fail
      go_loopw [12] (fun i wr => ∃ j : Nat, i = .int .i64 j ∧ j ≤ l.length ∧ Hid (∀ (k : Nat) q, k < j → l[k]? = some q → -1 ≤ q.wr ∧ q.wr < n) ∧ w = wr) (fun i _ => l.length - (intOf i).toNat)
      case atStart => exact ⟨0, rfl, by omega, fun k q hk => by omega, rfl⟩
      case round =>
        obtain ⟨j, rfl, hj, hs, rfl⟩ := hrel
        by_cases hl : j < l.length
        · obtain ⟨q, hq⟩ : ∃ q, l[j]? = some q := ⟨_, List.getElem?_eq_getElem hl⟩
          obtain ⟨b, rfl, hb, e1, e2⟩ := want_at hv hq
          by_cases f1 : q.wr < -1
          · have d7 : decide (q.wr < -1) = true := by simpa using f1
            have hf := Lib.hid (hbad.out j q hq (by omega))
            clear hq hgood hbad hs
            go_wp2_with fail
            rw [hf.out]
            refine bodyPost_ret (v := .tuple #[.slice none 0 0, .int .i64 1]) (by simp [results, Try.results38, go_sem]) rfl ?_
            exact ⟨Ext.refl _, 1, by decide, rfl⟩
          · have d7 : decide (q.wr < -1) = false := by rw [decide_eq_false_iff_not]; omega
            by_cases f2 : n ≤ q.wr
            · have d8 : decide (n ≤ q.wr) = true := by simpa using f2
              have hf := Lib.hid (hbad.out j q hq (by omega))
              clear hq hgood hbad hs
              go_wp2_with fail
              rw [hf.out]
              refine bodyPost_ret (v := .tuple #[.slice none 0 0, .int .i64 1]) (by simp [results, Try.results38, go_sem]) rfl ?_
              exact ⟨Ext.refl _, 1, by decide, rfl⟩
            · have d8 : decide (n ≤ q.wr) = false := by rw [decide_eq_false_iff_not]; omega
              have hs2 : Hid (∀ (k : Nat) q, k < j + 1 → l[k]? = some q → -1 ≤ q.wr ∧ q.wr < n) := Lib.hid fun k q' hk hq' => by
                by_cases e : k = j
                · subst e
                  rw [hq] at hq'
                  obtain rfl : q = q' := by simpa using hq'
                  omega
                · exact hs.out k q' (by omega) hq'
              clear hq hs hgood hbad
              go_wp2_with fail
              refine ⟨⟨j + 1, by go_num, by omega, hs2, by trivial⟩, ?_⟩
              simp [intOf]; omega
        · have hlay := Lib.hid (hgood.out fun k q hq => hs.out k q (by have := (List.getElem?_eq_some_iff.1 hq).1; omega) hq)
          have hwr := Lib.hid (fun (k : Nat) (q : Want) (hq : l[k]? = some q) => hs.out k q (by have := (List.getElem?_eq_some_iff.1 hq).1; omega) hq)
          clear hgood hbad hs
          go_wp2_with fail
          go_loopw [3, 4, 13, 14] (fun b' c' v i wr => ∃ (j : Nat) (bi ci : Int) (pre : List Reg), b' = .int .i64 bi ∧ c' = .int .i64 ci ∧ i = .int .i64 j ∧ j ≤ l.length ∧ pre.length = j ∧ 0 ≤ bi ∧ 0 ≤ ci ∧ Hid (layFrom n 2 l base loc = (layFrom n 2 (l.drop j) bi ci).map (pre ++ ·)) ∧ wr.ownsRow w.heap.size 41 7 v j (pre.flatMap regVals) ∧ Ext w wr) (fun _ _ _ i _ => l.length - (intOf i).toNat)
          case atStart => exact ⟨0, base, loc, [], rfl, rfl, rfl, by omega, rfl, b1, l1, by unfold Hid; simp, World.ownsRow_nil _ _ _ _, Ext.refl _⟩
          case round =>
            obtain ⟨j, bi, ci, pre, rfl, rfl, rfl, hj, hpl, hbi, hci, hM, hown, hE⟩ := hrel
            by_cases hl : j < l.length
            · obtain ⟨q, hq⟩ : ∃ q, l[j]? = some q := ⟨_, List.getElem?_eq_getElem hl⟩
              obtain ⟨b, rfl, hb, e1, e2⟩ := want_at (hv.ext hE) hq
              obtain ⟨w1, w2⟩ := hwr.out j q hq
              have hdr : l.drop j = q :: l.drop (j + 1) := by
                rw [List.drop_eq_getElem_cons hl]
                congr 1
                rw [List.getElem?_eq_getElem hl] at hq
                simpa using hq
              have hMh := Lib.hid hM
              have hownh := Lib.hid hown
              have hdrh := Lib.hid hdr
              clear hM hown hdr hq
              have hS : ∀ w', Ext wr w' → w'.cell? ⟨b, j * 2, none⟩ = some (.int .i64 q.wr) ∧ w'.cell? ⟨b, j * 2 + 1, none⟩ = some (.int .i64 q.top) := fun w' hx => ⟨(hx.cell (p := ⟨b, j * 2, none⟩) hb).trans e1, (hx.cell (p := ⟨b, j * 2 + 1, none⟩) hb).trans e2⟩
              go_upto_region 12 with fail
              go_cut [15] (fun r wx => r = .pointer (some ⟨wr.heap.size, 0, none⟩) ∧ wx = (wr.alloc (.cells #[.int .i64 1, .int .i64 bi, .int .i64 ci, .int .i64 n, .int .i64 q.wr, .int .i64 (-1), .int .i64 (clamp q.top 255)] 41)).drew)
              case first =>
                go_region_held2 (fun w' => w'.cell? ⟨b, j * 2, none⟩ = some (.int .i64 q.wr) ∧ w'.cell? ⟨b, j * 2 + 1, none⟩ = some (.int .i64 q.top)) (first | exact hS _ ((Ext.refl _).drew) | (refine hS _ ?_; repeat first | with_reducible exact Ext.refl _ | with_reducible refine Ext.drew ?_ | with_reducible refine Ext.setCell ?_ (Nat.le_refl _) _ | with_reducible refine Ext.alloc ?_ _))
                  (first
                    | (go_at_call 71
                       refine (clamp_r _ _ _).mono ?_
                       rintro e w' ⟨rfl, rfl⟩))
                all_goals
                  go_wp2_with fail
                  go_meet
                  exact ⟨rfl, rfl⟩
              case rest =>
                obtain ⟨rfl, rfl⟩ := hcut
                have g1 := Blk.new wr (.cells #[.int .i64 1, .int .i64 bi, .int .i64 ci, .int .i64 n, .int .i64 q.wr, .int .i64 (-1), .int .i64 (clamp q.top 255)] 41)
                have x1 : Ext wr (wr.alloc (.cells #[.int .i64 1, .int .i64 bi, .int .i64 ci, .int .i64 n, .int .i64 q.wr, .int .i64 (-1), .int .i64 (clamp q.top 255)] 41)).drew := ((Ext.refl wr).alloc _).drew
                replace g1 := g1.drew
                generalize World.drew _ = W1 at *
                have c_1 := g1.cells
                have fz := frozen_of_heap g1
                go_upto_if 82 with fail
                go_cut [15] (fun r wx => r = .pointer (some ⟨wr.heap.size, 0, none⟩) ∧ Blk wx wr.heap.size (.cells #[.int .i64 1, .int .i64 bi, .int .i64 ci, .int .i64 n, .int .i64 q.wr, .int .i64 (-1), .int .i64 (topM q.top)] 41) ∧ Ext wr wx)
                case first =>
                  by_cases hz : clamp q.top 255 = 0
                  · have hz2 : (clamp q.top 255 == 0) = true := by simpa using hz
                    go_wp2_with fail
                    go_meet
                    refine ⟨rfl, ?_, x1.setCell (Nat.le_refl _) _⟩
                    have := heap_setCell (i := 6) g1 (.int .i64 1)
                    rw [show topM q.top = 1 from by unfold topM; rw [if_pos hz]]
                    exact this
                  · have hz2 : (clamp q.top 255 == 0) = false := by simpa using hz
                    go_wp2_with fail
                    go_meet
                    refine ⟨rfl, ?_, x1⟩
                    rw [show topM q.top = clamp q.top 255 from by unfold topM; rw [if_neg hz]]
                    exact g1
                case rest =>
                  obtain ⟨rfl, g2, x2⟩ := hcut
                  clear g1 x1 c_1 fz W1
                  obtain ⟨e3, e4⟩ := hS wc x2
                  have c_2 := g2.cells
                  have fz := frozen_of_heap g2
                  by_cases hw0 : 0 ≤ q.wr
                  · have dw : decide (0 ≤ q.wr) = true := by simpa using hw0
                    have dv : decide (q.wr < 0) = false := by rw [decide_eq_false_iff_not]; omega
                    have hk : kindM 2 q.wr = 6 := by unfold kindM; rw [if_pos rfl, if_pos hw0]
                    have hrg : regOf n 2 bi ci q = ⟨6, bi, ci, n, q.wr, -1, topM q.top⟩ := by unfold regOf; rw [hk]
                    have htm := topM_bd q.top
                    have hdn : Drawn ⟨6, bi, ci, n, q.wr, -1, topM q.top⟩ := ⟨by simp, hbi, hci, ⟨n1, n2⟩, ⟨w1, w2⟩, fun _ => hw0, rfl, htm⟩
                    have hlf := Lib.hid (show layFrom n 2 (l.drop j) bi ci = if fineM ⟨6, bi, ci, n, q.wr, -1, topM q.top⟩ then (layFrom n 2 (l.drop (j + 1)) (bi + cellsM ⟨6, bi, ci, n, q.wr, -1, topM q.top⟩) (ci + localsM ⟨6, bi, ci, n, q.wr, -1, topM q.top⟩)).map (⟨6, bi, ci, n, q.wr, -1, topM q.top⟩ :: ·) else none from by rw [hdrh.out, layFrom_cons, hrg])
                    have hFF := fun W => fine_r ⟨6, bi, ci, n, q.wr, -1, topM q.top⟩ W hdn
                    have hCC := fun W => cells_r ⟨6, bi, ci, n, q.wr, -1, topM q.top⟩ W (by simp) ⟨n1, n2⟩
                    have hLL := fun W => locals_r ⟨6, bi, ci, n, q.wr, -1, topM q.top⟩ W (by simp) ⟨n1, n2⟩
                    have hcn := cells_nat ⟨6, bi, ci, n, q.wr, -1, topM q.top⟩ ⟨n1, n2⟩
                    have hfb : fineM ⟨6, bi, ci, n, q.wr, -1, topM q.top⟩ = true → bi ≤ 32768 ∧ ci ≤ 32768 := by
                      unfold fineM
                      simp only [Bool.and_eq_true, decide_eq_true_eq]
                      omega
                    clear hdn hk hrg htm hdrh
                    unfold encR at hFF hCC hLL
                    generalize topM q.top = tp at *
                    generalize cellsM _ = C at *
                    generalize localsM _ = D at *
                    generalize hfm : fineM _ = F at *
                    clear hfm
                    go_wp2_with fail
                    have g3 := heap_setCell (i := 0) g2 (.int .i64 6)
                    have x3 := x2.setCell (p := ⟨wr.heap.size, 0, none⟩) (Nat.le_refl _) (.int .i64 6)
                    replace g3 : Blk (wc.setCell ⟨wr.heap.size, 0, none⟩ (.int .i64 6)) wr.heap.size (.cells #[.int .i64 6, .int .i64 bi, .int .i64 ci, .int .i64 n, .int .i64 q.wr, .int .i64 (-1), .int .i64 tp] 41) := g3
                    generalize wc.setCell _ _ = W at *
                    clear g2 x2 c_2 fz e3 e4
                    refine (hFF _).mono ?_
                    rintro e w3 ⟨rfl, hx⟩
                    clear hFF
                    replace g3 := g3.ext hx
                    replace x3 := x3.trans hx
                    clear hx
                    have c_3 := g3.cells
                    cases F with
                    | false =>
                      have hres := Lib.hid (show layM l n 2 base loc = none from by rw [hlay.out, hMh.out, hlf.out]; rfl)
                      go_wp2_with fail
                      rw [hres.out]
                      exact bodyPost_ret (v := .tuple #[.slice none 0 0, .int .i64 6]) (by simp [results, Try.results38, go_sem]) rfl ⟨hE.trans x3, 6, by decide, rfl⟩
                    | true =>
                      obtain ⟨hb1, hb2⟩ := hfb rfl
                      have s1 := IntWalk.i64_in (bi + C) (by omega)
                      have s2 := IntWalk.i64_in (ci + D) (by omega)
                      have hown3 := row_ext hownh.out x3
                      have hRn : Hid (u13.ownBlock ≠ some wr.heap.size) := Lib.hid fun e => by have := (hownh.out.lt _ e).2; omega
                      have hE3 := hE.trans x3
                      have hM2 := Lib.hid (show layFrom n 2 l base loc = (layFrom n 2 (l.drop (j + 1)) (bi + C) (ci + D)).map ((pre ++ [⟨6, bi, ci, n, q.wr, -1, tp⟩]) ++ ·) from by
                        rw [hMh.out, hlf.out]
                        simp only [if_true, Option.map_map]
                        congr 1
                        funext x
                        simp)
                      clear hfb hlf hMh hownh hb1 hb2
                      go_wp2_with (at_builtin; refine append_rec info_reg Try.underlying25 rfl (by decide) (by decide) rfl _ _ rfl _ j (pre.flatMap regVals) [.int .i64 6, .int .i64 bi, .int .i64 ci, .int .i64 n, .int .i64 q.wr, .int .i64 (-1), .int .i64 tp] hE3 hown3 rfl rfl rfl (by simp [Value.oneCell']) (by omega) ?_)
                      intro v' w4 ho4 hx4 hbk
                      have g4 : Blk w4 wr.heap.size _ := (hbk _ g3.lt hRn.out).trans g3
                      have c_4 := g4.cells
                      clear hbk hown3 hE3 c_3 hRn g3 x3
                      go_wp2_with fail
                      refine (hCC _).mono ?_
                      rintro e w5 ⟨rfl, hx⟩
                      replace g4 := g4.ext hx
                      replace ho4 := row_ext ho4 hx
                      replace hx4 := hx4.trans hx
                      clear c_4 hx hCC
                      have c_4 := g4.cells
                      go_wp2_with fail
                      refine (hLL _).mono ?_
                      rintro e w6 ⟨rfl, hx⟩
                      replace ho4 := row_ext ho4 hx
                      replace hx4 := hx4.trans hx
                      clear c_4 g4 hx hLL
                      have ho5 := Lib.hid ho4
                      clear ho4
                      go_wp2_with fail
                      refine ⟨⟨j + 1, bi + C, ci + D, pre ++ [⟨6, bi, ci, n, q.wr, -1, tp⟩], rfl, rfl, by go_num, by omega, by simp [hpl], by omega, by omega, hM2, by rw [List.flatMap_append]; exact ho5.out, hx4⟩, ?_⟩
                      simp [intOf]; omega
                  · have dw : decide (0 ≤ q.wr) = false := by simpa using hw0
                    have dv : decide (q.wr < 0) = true := by rw [decide_eq_true_eq]; omega
                    have hk : kindM 2 q.wr = 7 := by unfold kindM; rw [if_pos rfl, if_neg hw0]
                    have hrg : regOf n 2 bi ci q = ⟨7, bi, ci, n, q.wr, -1, topM q.top⟩ := by unfold regOf; rw [hk]
                    have htm := topM_bd q.top
                    have hdn : Drawn ⟨7, bi, ci, n, q.wr, -1, topM q.top⟩ := ⟨by simp, hbi, hci, ⟨n1, n2⟩, ⟨w1, w2⟩, (fun h => by cases h), rfl, htm⟩
                    have hlf := Lib.hid (show layFrom n 2 (l.drop j) bi ci = if fineM ⟨7, bi, ci, n, q.wr, -1, topM q.top⟩ then (layFrom n 2 (l.drop (j + 1)) (bi + cellsM ⟨7, bi, ci, n, q.wr, -1, topM q.top⟩) (ci + localsM ⟨7, bi, ci, n, q.wr, -1, topM q.top⟩)).map (⟨7, bi, ci, n, q.wr, -1, topM q.top⟩ :: ·) else none from by rw [hdrh.out, layFrom_cons, hrg])
                    have hFF := fun W => fine_r ⟨7, bi, ci, n, q.wr, -1, topM q.top⟩ W hdn
                    have hCC := fun W => cells_r ⟨7, bi, ci, n, q.wr, -1, topM q.top⟩ W (by simp) ⟨n1, n2⟩
                    have hLL := fun W => locals_r ⟨7, bi, ci, n, q.wr, -1, topM q.top⟩ W (by simp) ⟨n1, n2⟩
                    have hcn := cells_nat ⟨7, bi, ci, n, q.wr, -1, topM q.top⟩ ⟨n1, n2⟩
                    have hfb : fineM ⟨7, bi, ci, n, q.wr, -1, topM q.top⟩ = true → bi ≤ 32768 ∧ ci ≤ 32768 := by
                      unfold fineM
                      simp only [Bool.and_eq_true, decide_eq_true_eq]
                      omega
                    clear hdn hk hrg htm hdrh
                    unfold encR at hFF hCC hLL
                    generalize topM q.top = tp at *
                    generalize cellsM _ = C at *
                    generalize localsM _ = D at *
                    generalize hfm : fineM _ = F at *
                    clear hfm
                    go_wp2_with fail
                    have g3 := heap_setCell (i := 0) g2 (.int .i64 7)
                    have x3 := x2.setCell (p := ⟨wr.heap.size, 0, none⟩) (Nat.le_refl _) (.int .i64 7)
                    replace g3 : Blk (wc.setCell ⟨wr.heap.size, 0, none⟩ (.int .i64 7)) wr.heap.size (.cells #[.int .i64 7, .int .i64 bi, .int .i64 ci, .int .i64 n, .int .i64 q.wr, .int .i64 (-1), .int .i64 tp] 41) := g3
                    generalize wc.setCell _ _ = W at *
                    clear g2 x2 c_2 fz e3 e4
                    refine (hFF _).mono ?_
                    rintro e w3 ⟨rfl, hx⟩
                    clear hFF
                    replace g3 := g3.ext hx
                    replace x3 := x3.trans hx
                    clear hx
                    have c_3 := g3.cells
                    cases F with
                    | false =>
                      have hres := Lib.hid (show layM l n 2 base loc = none from by rw [hlay.out, hMh.out, hlf.out]; rfl)
                      go_wp2_with fail
                      rw [hres.out]
                      exact bodyPost_ret (v := .tuple #[.slice none 0 0, .int .i64 6]) (by simp [results, Try.results38, go_sem]) rfl ⟨hE.trans x3, 6, by decide, rfl⟩
                    | true =>
                      obtain ⟨hb1, hb2⟩ := hfb rfl
                      have s1 := IntWalk.i64_in (bi + C) (by omega)
                      have s2 := IntWalk.i64_in (ci + D) (by omega)
                      have hown3 := row_ext hownh.out x3
                      have hRn : Hid (u13.ownBlock ≠ some wr.heap.size) := Lib.hid fun e => by have := (hownh.out.lt _ e).2; omega
                      have hE3 := hE.trans x3
                      have hM2 := Lib.hid (show layFrom n 2 l base loc = (layFrom n 2 (l.drop (j + 1)) (bi + C) (ci + D)).map ((pre ++ [⟨7, bi, ci, n, q.wr, -1, tp⟩]) ++ ·) from by
                        rw [hMh.out, hlf.out]
                        simp only [if_true, Option.map_map]
                        congr 1
                        funext x
                        simp)
                      clear hfb hlf hMh hownh hb1 hb2
                      go_wp2_with (at_builtin; refine append_rec info_reg Try.underlying25 rfl (by decide) (by decide) rfl _ _ rfl _ j (pre.flatMap regVals) [.int .i64 7, .int .i64 bi, .int .i64 ci, .int .i64 n, .int .i64 q.wr, .int .i64 (-1), .int .i64 tp] hE3 hown3 rfl rfl rfl (by simp [Value.oneCell']) (by omega) ?_)
                      intro v' w4 ho4 hx4 hbk
                      have g4 : Blk w4 wr.heap.size _ := (hbk _ g3.lt hRn.out).trans g3
                      have c_4 := g4.cells
                      clear hbk hown3 hE3 c_3 hRn g3 x3
                      go_wp2_with fail
                      refine (hCC _).mono ?_
                      rintro e w5 ⟨rfl, hx⟩
                      replace g4 := g4.ext hx
                      replace ho4 := row_ext ho4 hx
                      replace hx4 := hx4.trans hx
                      clear c_4 hx hCC
                      have c_4 := g4.cells
                      go_wp2_with fail
                      refine (hLL _).mono ?_
                      rintro e w6 ⟨rfl, hx⟩
                      replace ho4 := row_ext ho4 hx
                      replace hx4 := hx4.trans hx
                      clear c_4 g4 hx hLL
                      have ho5 := Lib.hid ho4
                      clear ho4
                      go_wp2_with fail
                      refine ⟨⟨j + 1, bi + C, ci + D, pre ++ [⟨7, bi, ci, n, q.wr, -1, tp⟩], rfl, rfl, by go_num, by omega, by simp [hpl], by omega, by omega, hM2, by rw [List.flatMap_append]; exact ho5.out, hx4⟩, ?_⟩
                      simp [intOf]; omega
            · have hf : layFrom n 2 l base loc = some pre := by
                rw [hM.out, List.drop_eq_nil_of_le (by omega)]
                simp [layFrom]
              have hres := Lib.hid (hlay.out.trans hf)
              clear hM hf hlay hwr
              have hownh := Lib.hid hown
              clear hown
              go_wp2_with fail
              rw [hres.out]
              refine bodyPost_ret (v := .tuple #[u13, .int .i64 0]) (by simp [results, Try.results38, go_sem]) rfl ?_
              exact ⟨hE, u13, rfl, by rw [hpl]; exact hownh.out⟩

  · rw [argsM_false h0]
    go_enter Try.func38, Try.ntmps38
    have hfin : LayPost w.heap.size w none (.returned (.tuple #[.slice none 0 0, .int .i64 1])) w := ⟨Ext.refl _, 1, by decide, rfl⟩
    by_cases m1 : mode < 1
    · have d1 : decide (mode < 1) = true := by simpa using m1
      go_wp2_with fail
      exact bodyPost_ret (v := .tuple #[.slice none 0 0, .int .i64 1]) (by simp [results, Try.results38, go_sem]) rfl hfin
    · have d1 : decide (mode < 1) = false := by simpa using m1
      by_cases m2 : 2 < mode
      · have d2 : decide (2 < mode) = true := by simpa using m2
        go_wp2_with fail
        exact bodyPost_ret (v := .tuple #[.slice none 0 0, .int .i64 1]) (by simp [results, Try.results38, go_sem]) rfl hfin
      · have d2 : decide (2 < mode) = false := by simpa using m2
        by_cases m3 : n < 1
        · have d3 : decide (n < 1) = true := by simpa using m3
          go_wp2_with fail
          exact bodyPost_ret (v := .tuple #[.slice none 0 0, .int .i64 1]) (by simp [results, Try.results38, go_sem]) rfl hfin
        · have d3 : decide (n < 1) = false := by simpa using m3
          by_cases m4 : 8 < n
          · have d4 : decide (8 < n) = true := by simpa using m4
            go_wp2_with fail
            exact bodyPost_ret (v := .tuple #[.slice none 0 0, .int .i64 1]) (by simp [results, Try.results38, go_sem]) rfl hfin
          · have d4 : decide (8 < n) = false := by simpa using m4
            by_cases m5 : base < 0
            · have d5 : decide (base < 0) = true := by simpa using m5
              go_wp2_with fail
              exact bodyPost_ret (v := .tuple #[.slice none 0 0, .int .i64 1]) (by simp [results, Try.results38, go_sem]) rfl hfin
            · have d5 : decide (base < 0) = false := by simpa using m5
              have d6 : decide (loc < 0) = true := by rw [decide_eq_true_eq]; omega
              go_wp2_with fail
              exact bodyPost_ret (v := .tuple #[.slice none 0 0, .int .i64 1]) (by simp [results, Try.results38, go_sem]) rfl hfin
end Go.Proofs.Ytpcohbpeglledaa
/-
  Wants of splitters, and of the document; the registers that the laws lay.
-/
namespace Kv
/-- How many threads there are, of any number. -/
def nM (n : Int) : Int := min (max n 1) 8
theorem nM_bd (n : Int) : 1 ≤ nM n ∧ nM n ≤ 8 := by unfold nM; omega
theorem nM_id {n : Int} (h : 1 ≤ n) (h' : n ≤ 8) : nM n = n := by unfold nM; omega
theorem nM_clamp (n : Int) : nM n = if clamp n 8 < 1 then 1 else clamp n 8 := by
  unfold nM clamp within
  split <;> omega
end Kv
namespace Go.Proofs.Ytpcohbpeglledaa
open Go.RowKit Kv
theorem wants_new (w : World) (l : List Want) (hl : l.length ≤ 1000000) : WantsAt (w.alloc (.cells (l.flatMap wantVals).toArray 59)) (.slice (some ⟨w.heap.size, 0, none⟩) l.length l.length) l := by
  refine ⟨_, _, rfl, Nat.le_refl _, by omega, fun _ => ⟨w.heap.size, rfl, by simp, fun i u hu => ?_⟩⟩
  exact (cell_of_heap (heap_alloc_new w (.cells (l.flatMap wantVals).toArray 59)) i).trans (by simpa using hu)
theorem rn_any (r : Reg) (w : World) : Calls Try.prog 93 #[encR r] w fun e w' => e = .returned (.int .i64 (nM r.n)) ∧ Ext w w' := by
  obtain ⟨kind, base, loc, n, wr, rd, top⟩ := r
  have hx := Lib.hid ((Ext.refl w).alloc (.cells #[.int .i64 kind, .int .i64 base, .int .i64 loc, .int .i64 n, .int .i64 wr, .int .i64 rd, .int .i64 top] 41))
  have hc := nM_clamp n
  unfold encR
  try simp only
  by_cases h : clamp n 8 < 1
  · rw [if_pos h] at hc
    rw [hc]
    go_enter Try.func93, Try.ntmps93
    go_wp2_with fail
    refine (clamp_r _ _ _).mono ?_
    rintro e w' ⟨rfl, rfl⟩
    go_wp2_with fail
    go_ret
    exact ⟨rfl, hx.out⟩
  · rw [if_neg h] at hc
    rw [hc]
    go_enter Try.func93, Try.ntmps93
    go_wp2_with fail
    refine (clamp_r _ _ _).mono ?_
    rintro e w' ⟨rfl, rfl⟩
    go_wp2_with fail
    go_ret
    exact ⟨rfl, hx.out⟩
@[go_sem] theorem build_want (a b : Int) (w : World) : (Instr.build 59 #[(0, .int .i64 a), (1, .int .i64 b)]).run Try.prog w = .ok (.agg #[.int .i64 a, .int .i64 b]) w := run_build w 59 _ _ (by kernel_rfl)
@[go_sem] theorem build_regn (a : Int) (w : World) : (Instr.build 41 #[(3, .int .i64 a)]).run Try.prog w = .ok (.agg #[.int .i64 0, .int .i64 0, .int .i64 0, .int .i64 a, .int .i64 0, .int .i64 0, .int .i64 0]) w := run_build w 41 _ _ (by kernel_rfl)
theorem some_r (va : Value) (l : List Want) (n mode : Int) (w : World) (h : WantsAt w va l) (hlen : l.length ≤ 1000) :
    Calls Try.prog 10 #[va, .int .i64 n, .int .i64 mode] w fun e w' => ∃ v, e = .returned v ∧ Ext w w' ∧ w'.ownsRow w.heap.size 41 7 v ((layM l n mode 3 2).getD []).length (((layM l n mode 3 2).getD []).flatMap regVals) := by
  have hL := lay_r va l n mode 3 2 w h hlen
  unfold LayPost at hL
  obtain ⟨A, c, rfl, q1, q2, hv⟩ := h
  cases hc : layM l n mode 3 2 with
  | none =>
    rw [hc] at hL
    go_enter Try.func10, Try.ntmps10
    go_wp2_with fail
    refine hL.mono ?_
    rintro e w' ⟨hx, x, hx0, rfl⟩
    have hb : (x != 0) = true := by rw [bne_iff_ne]; exact hx0
    clear hx0 hL hc
    go_wp2_with fail
    go_ret
    exact ⟨_, rfl, hx, World.ownsRow_nil _ _ _ _⟩
  | some rs =>
    rw [hc] at hL
    go_enter Try.func10, Try.ntmps10
    go_wp2_with fail
    refine hL.mono ?_
    rintro e w' ⟨hx, v, rfl, ho⟩
    have hoh := Lib.hid ho
    clear ho hL hc
    go_wp2_with fail
    go_ret
    exact ⟨_, rfl, hx, hoh.out⟩
end Go.Proofs.Ytpcohbpeglledaa
