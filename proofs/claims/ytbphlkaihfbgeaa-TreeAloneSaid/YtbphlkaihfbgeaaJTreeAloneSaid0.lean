/-
  Contracts of the library at this translation, as the shelf lays them.
-/
import Derived.Test.YtbphlkaihfbgeaaJB5
import Derived.Shelf.Strconv.Itoa0
import Derived.Shelf.Bits.Mul64
import Derived.Shelf.Slices.Reverse
import Derived.Ground.Names2Prog
import Derived.Shelf.Slices.Clone
import Derived.Shelf.Slices.Cells
import Derived.Ground.SlgnProg
import Derived.Shelf.SlicesE.Clone
import Derived.Test.YtbphlkaihfbgeaaProg
import Derived.Lib.LaidTab
import Derived.Deep.DeepCutAuto
/-
  Contracts of the library at this translation, as the shelf lays them.
-/
namespace Go.Proofs
open Go.Shelf
def Try.lays129_ren : Go.Shelf.Ren := ⟨fun | 129 => 143 | n => n, fun | 53 => 76 | 3 => 3 | 4 => 4 | 46 => 150 | 5 => 5 | 9 => 9 | n => n, fun | n => n⟩
theorem Try.lays129 : Go.Proofs.Lays.n129 Try.prog Try.lays129_ren := {
  mixed := by kernel_rfl
  f129 := Try.func143.trans (congrArg some (by kernel_rfl))
  t3 := Try.underlying3
  a3 := Try.isAgg3
  z3 := Try.sizeOf3
  v3 := Try.zeroValue3
  t4 := Try.underlying4
  a4 := Try.isAgg4
  z4 := Try.sizeOf4
  v4 := Try.zeroValue4
  t5 := Try.underlying5
  a5 := Try.isAgg5
  z5 := Try.sizeOf5
  v5 := Try.zeroValue5
  t9 := Try.underlying9
  a9 := Try.isAgg9
  z9 := Try.sizeOf9
  v9 := Try.zeroValue9
  t46 := Try.underlying150
  a46 := Try.isAgg150
  z46 := Try.sizeOf150
  v46 := Try.zeroValue150
  t53 := Try.underlying76
  a53 := Try.isAgg76
  z53 := Try.sizeOf76
  v53 := Try.zeroValue76 }
theorem Try.bits_Len64 (x : Int) (w : World) (h0 : 0 ≤ x) (h1 : x ≤ 18446744073709551615) :
    Calls Try.prog 143 #[.int .u64 x] w fun e w' => e = .returned (.int .i64 (Lib.bitLen x.toNat)) ∧ w' = w := Any.bits_Len64 Try.lays129 x w h0 h1
def Try.lays264_ren : Go.Shelf.Ren := ⟨fun | 264 => 197 | n => n, fun | 53 => 76 | 46 => 150 | n => n, fun | n => n⟩
theorem Try.lays264 : Go.Proofs.Lays.n264 Try.prog Try.lays264_ren := {
  mixed := by kernel_rfl
  f264 := Try.func197.trans (congrArg some (by kernel_rfl))
  t46 := Try.underlying150
  a46 := Try.isAgg150
  z46 := Try.sizeOf150
  v46 := Try.zeroValue150
  t53 := Try.underlying76
  a53 := Try.isAgg76
  z53 := Try.sizeOf76
  v53 := Try.zeroValue76 }
open Go.RowKit Go.Lib in
theorem Try.bits_Mul64 (x y : Nat) (hx : x < 18446744073709551616) (hy : y < 18446744073709551616) (w : World) :
    Calls Try.prog 197 #[.int .u64 x, .int .u64 y] w fun e w' => e = .returned (.tuple #[.int .u64 ((x * y / 18446744073709551616 : Nat) : Int), .int .u64 ((x * y % 18446744073709551616 : Nat) : Int)]) ∧ w' = w := Any.bits_Mul64 Try.lays264 x y hx hy w
def Try.lays212_ren : Go.Shelf.Ren := ⟨fun | 212 => 178 | 263 => 196 | 264 => 197 | n => n, fun | 46 => 150 | 51 => 164 | 146 => 165 | 53 => 76 | 148 => 167 | n => n, fun | n => n⟩
theorem Try.lays212 : Go.Proofs.Lays.n212 Try.prog Try.lays212_ren := {
  mixed := by kernel_rfl
  f212 := Try.func178.trans (congrArg some (by kernel_rfl))
  f263 := Try.func196.trans (congrArg some (by kernel_rfl))
  f264 := Try.func197.trans (congrArg some (by kernel_rfl))
  t46 := Try.underlying150
  a46 := Try.isAgg150
  z46 := Try.sizeOf150
  v46 := Try.zeroValue150
  t51 := Try.underlying164
  a51 := Try.isAgg164
  z51 := Try.sizeOf164
  v51 := Try.zeroValue164
  t53 := Try.underlying76
  a53 := Try.isAgg76
  z53 := Try.sizeOf76
  v53 := Try.zeroValue76
  t146 := Try.underlying165
  a146 := Try.isAgg165
  z146 := Try.sizeOf165
  v146 := Try.zeroValue165
  t148 := Try.underlying167
  a148 := Try.isAgg167
  z148 := Try.sizeOf167
  v148 := Try.zeroValue167 }
open Go.RowKit Go.Lib in
theorem Try.bits_Mul (x y : Nat) (hx : x < 18446744073709551616) (hy : y < 18446744073709551616) (w : World) :
    Calls Try.prog 178 #[.int .u64 x, .int .u64 y] w fun e w' => e = .returned (.tuple #[.int .u64 ((x * y / 18446744073709551616 : Nat) : Int), .int .u64 ((x * y % 18446744073709551616 : Nat) : Int)]) ∧ w' = w := Any.bits_Mul Try.lays212 x y hx hy w
def Try.lays112_ren : Go.Shelf.Ren := ⟨fun | 112 => 142 | n => n, fun | 28 => 28 | 3 => 3 | 4 => 4 | 0 => 0 | n => n, fun | n => n⟩
theorem Try.lays112 : Go.Proofs.Lays.n112 Try.prog Try.lays112_ren := {
  mixed := by kernel_rfl
  f112 := Try.func142.trans (congrArg some (by kernel_rfl))
  t0 := Try.underlying0
  a0 := Try.isAgg0
  z0 := Try.sizeOf0
  v0 := Try.zeroValue0
  t3 := Try.underlying3
  a3 := Try.isAgg3
  z3 := Try.sizeOf3
  v3 := Try.zeroValue3
  t4 := Try.underlying4
  a4 := Try.isAgg4
  z4 := Try.sizeOf4
  v4 := Try.zeroValue4
  t28 := Try.underlying28
  a28 := Try.isAgg28
  z28 := Try.sizeOf28
  v28 := Try.zeroValue28 }
open Go.RowKit Go.Lib Go.Sort in
theorem Try.slices_Reverse_int_arr (blk off cap : Nat) (d : Array Int) (w : World) (hH : Holds encI w blk off d) (hsz : d.size ≤ 9223372036854775807) :
    Calls Try.prog 142 #[.slice (some ⟨blk, off, none⟩) d.size cap] w fun e w' => e = .returned (.tuple #[]) ∧ ∃ n, w' = putRow encI (Sort.ahead w n) blk off d.reverse := Any.slices_Reverse_int_arr Try.lays112 blk off cap d w hH hsz
open Go.RowKit Go.Lib Go.Sort in
theorem Try.slices_Reverse_int (blk off cap : Nat) (zs : List Int) (w : World) (hH : Holds (Value.int .i64) w blk off zs.toArray) (hsz : zs.length ≤ 9223372036854775807) :
    Calls Try.prog 142 #[.slice (some ⟨blk, off, none⟩) zs.length cap] w fun e w' => e = .returned (.tuple #[]) ∧ ∃ n, w' = putRow (Value.int .i64) (Sort.ahead w n) blk off zs.reverse.toArray := Any.slices_Reverse_int Try.lays112 blk off cap zs w hH hsz
open Go.RowKit Go.Lib Go.Sort in
theorem Try.slices_Reverse_int_empty (a : Option Addr) (cap : Nat) (w : World) :
    Calls Try.prog 142 #[.slice a 0 cap] w fun e w' => e = .returned (.tuple #[]) ∧ w' = w := Any.slices_Reverse_int_empty Try.lays112 a cap w
def Try.laysNm215_ren : Go.Shelf.Ren := ⟨fun | 15 => 59 | n => n, fun | 22 => 28 | 3 => 3 | 4 => 4 | n => n, fun | n => n⟩
theorem Try.laysNm215 : Go.Proofs.Lays2.n15 Try.prog Try.laysNm215_ren := {
  mixed := by kernel_rfl
  f15 := Try.func59.trans (congrArg some (by kernel_rfl))
  t3 := Try.underlying3
  a3 := Try.isAgg3
  z3 := Try.sizeOf3
  v3 := Try.zeroValue3
  t4 := Try.underlying4
  a4 := Try.isAgg4
  z4 := Try.sizeOf4
  v4 := Try.zeroValue4
  t22 := Try.underlying28
  a22 := Try.isAgg28
  z22 := Try.sizeOf28
  v22 := Try.zeroValue28
  i3 := by kernel_rfl }
open Go.RowKit Go.Lib in
theorem Try.slices_Clone_int (b off n c : Nat) (zs : List Int) (w : World) (hz : n ≤ zs.length) (hbig : n * 8 ≤ 140737488355328) (hc : ∀ j, j < zs.length → w.cell? ⟨b, off + j, none⟩ = some (.int .i64 (zs.getD j 0))) :
    Calls Try.prog 59 #[.slice (some ⟨b, off, none⟩) n c] w fun e w' => ∃ v', e = .returned v' ∧ w'.ownsRow w.heap.size 3 1 v' n ((zs.take n).map (Value.int .i64)) ∧ v' ≠ .slice none 0 0 ∧ Below w.heap.size w w' := Any.slices_Clone_int Try.laysNm215 b off n c zs w hz hbig hc
open Go.RowKit Go.Lib in
theorem Try.slices_Clone_int_nil (n c : Nat) (w : World) :
    Calls Try.prog 59 #[.slice none n c] w fun e w' => e = .returned (.slice none 0 0) ∧ w' = w := Any.slices_Clone_int_nil Try.laysNm215 n c w
open Go.RowKit Go.Lib in
theorem Try.slices_Clone_int_zero (a : Addr) (c : Nat) (w : World) :
    Calls Try.prog 59 #[.slice (some a) 0 c] w fun e w' => ∃ v', e = .returned v' ∧ w'.ownsRow w.heap.size 3 1 v' 0 [] ∧ v' ≠ .slice none 0 0 ∧ Below w.heap.size w w' := Any.slices_Clone_int_zero Try.laysNm215 a c w
open Go.RowKit Go.Lib Go.Sort in
theorem Try.slices_Reverse_int_cells (b off n c : Nat) (zs : List Int) (w : World) (hz : n ≤ zs.length) (hbig : n ≤ 9223372036854775807) (hc : ∀ j, j < zs.length → w.cell? ⟨b, off + j, none⟩ = some (.int .i64 (zs.getD j 0))) (hf : ∀ j, j < n → w.frozen? ⟨b, off + j, none⟩ = false) :
    Calls Try.prog 142 #[.slice (some ⟨b, off, none⟩) n c] w fun e w' => e = .returned (.tuple #[]) ∧ ∃ q, w' = (w.drewN q).setCells b off ((zs.take n).reverse.map (Value.int .i64)) := Any.slices_Reverse_int_cells Try.lays112 b off n c zs w hz hbig hc hf
def Try.laysSlE041_f59_ren : Go.Shelf.Ren := ⟨fun | 41 => 59 | n => n, fun | 22 => 28 | 23 => 3 | 4 => 4 | n => n, fun | n => n⟩
theorem Try.laysSlE041_f59 : Go.Proofs.SlLaysE0.n41 Try.prog Try.laysSlE041_f59_ren := {
  mixed := by kernel_rfl
  f41 := ⟨Try.f59.name, by decide, Try.func59.trans (congrArg some (by kernel_rfl))⟩
  t4 := Try.underlying4
  a4 := Try.isAgg4
  z4 := Try.sizeOf4
  v4 := Try.zeroValue4
  t22 := Try.underlying28
  a22 := Try.isAgg28
  z22 := Try.sizeOf28
  v22 := Try.zeroValue28 }
open Go.RowKit Go.Lib in
theorem Try.slices_Clone (i0 : TypeInfo) (z : Value) (size bytes : Nat) (hi : Try.prog.info? 3 = some i0) (hz0 : i0.zero = some z) (hz1 : i0.size = size) (hz2 : i0.bytes = bytes) (hzs : z.cells.size = size) (hsz : 0 < size) (z23 : ∀ w, (Go.sizeOf 3).run Try.prog w = .ok size w) (b off n c : Nat) (news : List Value) (w : World) (hl : news.length = n * size) (hn : n ≤ maxLen) (hbig : n * bytes ≤ 140737488355328) (hc : ∀ j u, news[j]? = some u → w.cell? ⟨b, off + j, none⟩ = some u) (h1 : ∀ u ∈ news, u.oneCell' = true) :
    Calls Try.prog 59 #[.slice (some ⟨b, off, none⟩) n c] w fun e w' => ∃ v', e = .returned v' ∧ w'.ownsRow w.heap.size 3 size v' n news ∧ v' ≠ .slice none 0 0 ∧ Below w.heap.size w w' := AnyE.slices_Clone Try.laysSlE041_f59 i0 z size bytes hi hz0 hz1 hz2 hzs hsz z23 b off n c news w hl hn hbig hc h1
open Go.RowKit Go.Lib in
theorem Try.slices_Clone_nil (n c : Nat) (w : World) :
    Calls Try.prog 59 #[.slice none n c] w fun e w' => e = .returned (.slice none 0 0) ∧ w' = w := AnyE.slices_Clone_nil Try.laysSlE041_f59 n c w
end Go.Proofs
/-
  The library's tables that stay through whatever only makes memory of its own.
-/
namespace Go.Proofs.Ytbphlkaihfbgeaa
open Go.RowKit Kv
def deBruijn64 : List Int := [0, 1, 56, 2, 57, 49, 28, 3, 61, 58, 42, 50, 38, 29, 17, 4, 62, 47, 59, 36, 45, 43, 51, 22, 53, 39, 33, 30, 24, 18, 12, 5, 63, 55, 48, 27, 60, 41, 37, 16, 46, 35, 44, 21, 52, 32, 23, 11, 54, 26, 40, 15, 34, 20, 31, 10, 25, 14, 19, 9, 13, 8, 7, 6]
/-- The tables that the library reads. -/
structure Tabs (w : World) : Prop where
  pow10 : Lib.TabIs Try.prog w "internal/strconv.uint64pow10" .u64 Lib.pow10Tab
  bruijn : Lib.TabIs Try.prog w "math/bits.deBruijn64tab" .u8 deBruijn64
theorem Tabs.ext {w w' : World} (h : Tabs w) (hx : Ext w w') : Tabs w' :=
  ⟨Lib.tabBelow_of_tabIs h.pow10 _ hx, Lib.tabBelow_of_tabIs h.bruijn _ hx⟩
end Go.Proofs.Ytbphlkaihfbgeaa
/-
  Layer 1: the two functions that call the library (levels, digits), and the chapter's examples.
-/
namespace Go.Proofs.Ytbphlkaihfbgeaa
open Go.RowKit Kv
theorem levels_p (n : Int) (hn : n ≤ 9223372036854775807) (w : World) :
    Calls Try.prog 67 #[.int .i64 n] w fun e w' => e = .returned (.int .i64 (levels n)) ∧ w = w' := by
  by_cases h1 : n ≤ 1
  · have H := Lib.hid (levels_small n h1)
    go_enter Try.func67, Try.ntmps67
    go_wp2
    go_ret
    exact ⟨ret_int (by rw [H.out]; rfl), rfl⟩
  · have H := Lib.hid (levels_bitLen n (by omega))
    rw [show (n - 1).toNat = n.toNat - 1 from by omega] at H
    go_enter Try.func67, Try.ntmps67
    go_wp2_with (go_at_call 143; refine (Try.bits_Len64 _ _ (by omega) (by omega)).mono ?_; rintro e w' ⟨rfl, rfl⟩)
    go_ret
    exact ⟨ret_int (by rw [H.out]), rfl⟩
theorem lev5 : levels 5 = 3 := by decide
theorem dig40 : digits (-40) = [45, 52, 48] := by
  unfold digits Go.Lib.itoa
  rw [if_pos (by omega), show (-40 : Int).natAbs = 40 from rfl, decDigits_step 40 (by omega), decDigits_one (40 / 10) (by omega)]
  decide
end Go.Proofs.Ytbphlkaihfbgeaa
/-
  Plain mathematics: registers leave no notes.
-/
namespace Kv
theorem notes_ret {α : Type} (a : α) (n : Nat) : (Prog.ret a).Notes n := .ret a n
theorem notes_forP {σ : Type} {T : Int → σ → Prog σ} (h : ∀ a x, (T a x).Notes 0) : ∀ (l : List Int) (x : σ), (forP T l x).Notes 0
  | [], x => .ret x 0
  | a :: l, x => (h a x).bind0 fun y => notes_forP h l y
theorem notes_trompW (b l v : Int) : (trompW b l v).Notes 0 := by
  refine (notes_gt _).bind0 fun x => ?_
  split
  · exact .ret _ _
  · refine (notes_wr _ _).bind0 fun _ => (notes_st _ _).bind0 fun _ => (notes_gt _).bind0 fun _ => (notes_rd _).bind0 fun _ => ?_
    split
    · exact (notes_wr _ _).bind0 fun _ => notes_st _ _
    · exact .ret _ _
theorem notes_trompR3 (b l x : Int) : (trompR3 b l x).Notes 0 := by
  refine (notes_rd _).bind0 fun _ => (notes_st _ _).bind0 fun _ => (notes_rd _).bind0 fun _ => (notes_gt _).bind0 fun _ => ?_
  split
  · exact notes_gt _
  · exact (notes_rd _).bind0 fun _ => (notes_st _ _).bind0 fun _ => .ret _ _
theorem notes_trompR2 (b l x : Int) : (trompR2 b l x).Notes 0 := by
  refine (notes_rd _).bind0 fun _ => (notes_gt _).bind0 fun _ => ?_
  split
  · exact notes_trompR3 _ _ _
  · exact (notes_gt _).bind0 fun _ => (notes_wr _ _).bind0 fun _ => (notes_st _ _).bind0 fun _ => notes_trompR3 _ _ _
theorem notes_trompR (b l : Int) : (trompR b l).Notes 0 := by
  refine (notes_rd _).bind0 fun _ => (notes_gt _).bind0 fun _ => ?_
  split
  · exact notes_gt _
  · exact (notes_rd _).bind0 fun _ => notes_trompR2 _ _ _
theorem notes_slotsW (b l v : Int) : (slotsW b l v).Notes 0 :=
  (notes_trompR _ _).bind0 fun _ => (notes_gt _).bind0 fun _ => (notes_wr _ _).bind0 fun _ => (notes_st _ _).bind0 fun _ => (notes_trompW _ _ _).bind0 fun _ => notes_trompW _ _ _
theorem notes_slotsR (b l : Int) : (slotsR b l).Notes 0 :=
  (notes_trompR _ _).bind0 fun _ => (notes_trompW _ _ _).bind0 fun _ => (notes_trompR _ _).bind0 fun _ => notes_rd _
theorem notes_tableW (b l n w top me v : Int) : (tableW b l n w top me v).Notes 0 := by
  unfold tableW
  split
  · exact .ret _ _
  · exact (notes_gt _).bind0 fun _ => (notes_st _ _).bind0 fun _ => (notes_forP (fun _ _ => notes_slotsW _ _ _) _ _).bind0 fun _ => notes_st _ _
theorem notes_tableR (b l n w top me : Int) : (tableR b l n w top me).Notes 0 := by
  unfold tableR
  split
  · exact notes_gt _
  · exact (notes_slotsR _ _).bind0 fun _ => (notes_forP (fun _ _ => (notes_slotsR _ _).bind0 fun _ => .ret _ _) _ _).bind0 fun _ => (notes_forP (fun _ _ => notes_slotsW _ _ _) _ _).bind0 fun _ => .ret _ _
theorem notes_manyRs (b l n top me : Int) : ∀ (k : Nat) (j s v : Int), (manyRs b l n top me k j s v).Notes 0
  | 0, _, _, _ => .ret _ _
  | k + 1, j, s, v => by
    unfold manyRs
    refine (notes_tableR _ _ _ _ _ _).bind0 fun y => ?_
    split
    · exact notes_manyRs b l n top me k _ _ _
    · exact notes_manyRs b l n top me k _ _ _
theorem notes_regR (r : Reg) (me : Int) : (regR r me).Notes 0 := by
  unfold regR
  split
  · exact notes_rd _
  · split
    · exact notes_tableR _ _ _ _ _ _
    · exact (notes_manyRs _ _ _ _ _ _ _ _ _).bind0 fun _ => .ret _ _
theorem notes_regW (r : Reg) (me v : Int) : (regW r me v).Notes 0 := by
  unfold regW
  split
  · exact notes_wr _ _
  · split
    · exact notes_tableW _ _ _ _ _ _ _
    · exact (notes_manyRs _ _ _ _ _ _ _ _ _).bind0 fun _ => notes_tableW _ _ _ _ _ _ _
/-- What leaves no notes keeps their number. -/
theorem Prog.Notes.keep {α : Type} {p : Prog α} {n : Nat} (h : p.Notes 0) {S S1 : TS} {a : Option α} (hr : p.run S = (a, S1)) (hn : S.nts.length ≤ n) : S1.nts.length ≤ n := by
  have := h.run S
  rw [hr] at this
  simp only at this
  omega
end Kv
/-
  The program's Mem: a note left.
-/
namespace Go.Proofs.Ytbphlkaihfbgeaa
open Go.RowKit Kv
set_option maxRecDepth 100000 in
theorem note_p (B p : Nat) (S : TS) (n : Int) (w : World) (h : Plays B w p S) (hl : S.nts.length < maxAns) :
    Calls Try.prog 63 #[.pointer (some ⟨p, 0, none⟩), .int .i64 n] w fun e w' => e = .returned (.tuple #[]) ∧ Plays B w' p (S.noted n) ∧ KeepP B p w w' := by
  obtain ⟨h1, vA, vL, vC, vN, L, h⟩ := h
  have hc := cell_of_heap h.heap
  have hbo := h.ansN
  have hbn := h.ntsN
  unfold maxAns at hbo hbn hl
  have hle := h.lt
  have hge := h.ge
  obtain ⟨An, cn, hvN⟩ : ∃ A c, vN = .slice A S.nts.length c := by
    rcases h.rowN.2 with ⟨rfl, h0⟩ | ⟨g, cap, cur, rfl, _⟩
    · exact ⟨none, 0, by rw [h0]⟩
    · exact ⟨_, _, rfl⟩
  subst hvN
  obtain ⟨Ac, cc, hvC⟩ : ∃ A c, vC = .slice A S.acc.length c := by
    rcases h.rowC.2 with ⟨rfl, h0⟩ | ⟨g, cap, cur, rfl, _⟩
    · exact ⟨none, 0, by rw [h0]⟩
    · exact ⟨_, _, rfl⟩
  subst hvC
  have hL := Lib.hid h
  clear h
  obtain ⟨i0, hi, hz0, hz1, hz2⟩ := info_parts info_note
  go_enter Try.func63, Try.ntmps63
  go_wp2_with fail
  go_region_law ((refine step_append_lies _ (by rfl) _ _ _ (by rfl) B 123 i0 _ 2 16 Try.underlying27 hi hz0 hz1 hz2 rfl (by omega) (Value.slice An S.nts.length cn) S.nts.length (ntVals S.nts) (by rfl) ((World.ownsRow.drew hL.out.rowN).alloc _) ⟨w.heap.size, 0, none⟩ 1 1 [.int .i64 n, .int .i64 S.acc.length] (by rfl) (by rfl) (cells_new1 w _ _) (by simp [Value.oneCell']) (by omega) (by unfold maxLen; omega) (by omega) (by simp; omega) (w.heap.size + 1) (by simp) ?_; intro gg cap w1 hown1 hgrow hat hlt; have hp1 := grown_heap hL.out.heap hL.out.cNe.2.2 (grown1 hgrow); have hq1 := cell_of_heap hp1; have hf1 := frozen_of_heap hp1))
  all_goals
    obtain ⟨HM, HK⟩ := hL.out.grewN n (grown1 hgrow) (hat.imp id (by omega)) hown1 hl
    clear hown1 hgrow hat hlt hp1 hq1 hf1 hc
    generalize hv' : (Value.slice (some ⟨gg, 0, none⟩) (S.nts.length + 1) cap) = v' at *
    generalize w1.setCell ⟨p, 4, none⟩ v' = W at *
    clear hv' w1
    have HMh : Plays B W p (S.noted n) := ⟨h1, _, _, _, _, _, HM⟩
    have HKh := Lib.hid HK
    clear HM HK
    go_wp2_with fail
    first | go_end0 | refine bodyPost_ret (results_none rfl _ _ _) rfl ?_
    exact ⟨rfl, HMh, HKh.out⟩
end Go.Proofs.Ytbphlkaihfbgeaa
/-
  The document's Mem: a note left.
-/
namespace Go.Proofs.Ytbphlkaihfbgeaa
open Go.RowKit Kv
theorem noteO {B p : Nat} {S : TS} {n : Int} {w : World} (h : Plays B w p S) (hl : S.nts.length < maxAns) :
    Calls Try.prog 63 #[.pointer (some ⟨p, 0, none⟩), .int .i64 n] w (Post encU B p w ((nt n).run S)) :=
  (note_p B p S n w h hl).mono fun _ _ ⟨h1, h2, h3⟩ => ⟨h1, h2, h3⟩
end Go.Proofs.Ytbphlkaihfbgeaa
/-
  Steps that tell how many notes there are; loops of plays; rows laid meanwhile.
-/
namespace Kv
theorem forP_consB {σ β : Type} (T : Int → σ → Prog σ) (a : Int) (l : List Int) (x : σ) (k : σ → Prog β) : (forP T (a :: l) x).bind k = (T a x).bind fun y => (forP T l y).bind k := Prog.bind_assoc _ _ _
theorem forP_nilB {σ β : Type} (T : Int → σ → Prog σ) (x : σ) (k : σ → Prog β) : (forP T [] x).bind k = k x := rfl
theorem ranks_cons (but : Int) (n : Nat) (i : Int) (h : i ≠ but) : ranksFrom but (n + 1) i = i :: ranksFrom but n (i + 1) := by
  rw [ranksFrom, if_neg h]
theorem ranks_skip (n : Nat) (i : Int) : ranksFrom i (n + 1) i = ranksFrom i n (i + 1) := by
  rw [ranksFrom, if_pos rfl]
theorem ranks_zero (but i : Int) : ranksFrom but 0 i = [] := rfl
end Kv
namespace Go.Proofs.Ytbphlkaihfbgeaa
open Go.RowKit Kv
theorem RegsAt.nth {ix : List Nat} {p b : Nat} {w : World} {l : List Reg} (h : RegsAt ix w p b l) {i : Nat} {r : Reg} (hi : l[i]? = some r) : RegCells w b (i * 7) r := reg_cells h.cells hi
/-- A block laid meanwhile is none of the Mem's. -/
theorem Plays.fresh {B p b : Nat} {w w' : World} {S : TS} (h : Plays B w p S) (hx : Ext w w') (hb : w.heap.size ≤ b) : ¬ ownR [2, 3, 4] w' p b := by
  obtain ⟨_, _, _, _, _, _, h⟩ := h
  intro ho
  have := (h.own ((ownR_same (Below.block hx p h.lt) b).1 ho)).2
  omega
/-- One call behind what was done: what it takes of the answers, and how many notes it leaves. -/
theorem tstepN {α β : Type} {B p : Nat} {w0 w : World} {S : TS} {R : Ending → World → Prop} {P : Program} {f : FuncId} {args : Array Value} {K : Ending → World → Prop} {enc : α → Value} {enc' : β → Value} {T : Prog α} {g : α → Prog β} {k : Nat} (hN : T.Notes k)
    (hO : Owes R enc' B p w0 ((T.bind g).run S)) (hB : KeepP B p w0 w) (h : Calls P f args w (Post enc B p w (T.run S))) (hp : ∀ w', R (stopE p) w' → K (stopE p) w')
    (hk : ∀ v S1 w1, S1.left ≤ S.left → (T.Asks → S1.left < S.left) → S1.nts.length ≤ S.nts.length + k → Plays B w1 p S1 → KeepP B p w w1 → KeepP B p w0 w1 → Owes R enc' B p w0 ((g v).run S1) → K (.returned (enc v)) w1) : Calls P f args w K := by
  refine tstep hO hB h hp fun v S1 w1 hr hP hk1 hk2 hO1 => hk v S1 w1 ?_ (fun ha => ha.left hr hP.1) ?_ hP hk1 hk2 hO1
  · have := Prog.run_left T S
    rw [hr] at this
    exact this
  · have := hN.run S
    rw [hr] at this
    exact this
theorem ref_notes {α : Type} {T : Prog α} {o o' : Bool} {S S' : TS} {a : α} {k : Nat} (hN : T.Notes k) (h : Ref T o S a o' S') : S'.nts.length ≤ S.nts.length + k := by
  have := hN.run S
  cases h with
  | over => omega
  | done h => rw [h] at this; exact this
  | stop _ h => rw [h] at this; exact this
end Go.Proofs.Ytbphlkaihfbgeaa
/-
  Plain mathematics of Kessels' lock: entering and leaving as trees.
-/
namespace Kv
def kesFree (s t y : Int) : Bool := if s = 1 then decide (bitM y = t) else decide (bitM y ≠ t)
def kesT (s x : Int) : Int := if s = 1 then 1 - bitM x else bitM x
/-- Spinning, so many rounds at most. -/
def kesSpin (qo ro : Reg) (s t me : Int) : Nat → Prog Unit
  | 0 => .ret ()
  | n + 1 => (regR qo me).bind fun x => if x = 0 then .ret () else (regR ro me).bind fun y => if kesFree s t y then .ret () else kesSpin qo ro s t me n
def kesEnter (n : Nat) (qs qo rs ro : Reg) (s me : Int) : Prog Unit :=
  (regW qs me 1).bind fun _ => (regR ro me).bind fun x => (regW rs me (kesT s x)).bind fun _ => kesSpin qo ro s (kesT s x) me n
end Kv
/-
  Kessels: entering, by the program.
-/
namespace Go.Proofs.Ytbphlkaihfbgeaa
open Go.RowKit Kv
theorem kbit_p (x : Int) (w : World) : Calls Try.prog 199 #[.int .i64 x] w fun e w' => e = .returned (.int .i64 (bitM x)) ∧ w = w' := by
  unfold bitM
  by_cases h : x = 0
  · rw [if_pos h]
    go_enter Try.func199, Try.ntmps199
    go_wp2_with fail
    go_ret
    exact ⟨rfl, rfl⟩
  · rw [if_neg h]
    have hb : (x != 0) = true := by rw [bne_iff_ne]; exact h
    go_enter Try.func199, Try.ntmps199
    go_wp2_with fail
    go_ret
    exact ⟨rfl, rfl⟩
theorem kfree0_p (x t : Int) (b : Nat) (w : World) (h : w.cell? ⟨b, 0, none⟩ = some (.int .i64 t)) : Calls Try.prog 200 #[.int .i64 x, .pointer (some ⟨b, 0, none⟩)] w fun e w' => e = .returned (.bool (x != t)) ∧ w = w' := by
  go_enter Try.func200, Try.ntmps200
  go_wp2_with fail
  go_ret
  exact ⟨rfl, rfl⟩
theorem kfree1_p (x t : Int) (b : Nat) (w : World) (h : w.cell? ⟨b, 0, none⟩ = some (.int .i64 t)) : Calls Try.prog 201 #[.int .i64 x, .pointer (some ⟨b, 0, none⟩)] w fun e w' => e = .returned (.bool (x == t)) ∧ w = w' := by
  go_enter Try.func201, Try.ntmps201
  go_wp2_with fail
  go_ret
  exact ⟨rfl, rfl⟩
theorem cells_pm (r : Reg) (me : Int) (w : World) (ho : r.ok) (ht : r.told me) (hm : 0 ≤ me ∧ me < r.n) : Calls Try.prog 45 #[encR r] w fun e w' => ∃ c : Int, e = .returned (.int .i64 c) ∧ (c == 0) = false ∧ Ext w w' := by
  refine (cells_p r w (by rcases ht with h | ⟨h, _⟩ | ⟨h, h2⟩; exact .inl h; exact .inr (.inl h); exact .inr (.inr ⟨h, h2⟩)) ho.n (fun w => mthreads_p r.n w ho.n.1 ho.n.2)).mono fun e w' h => ⟨_, h.1, ?_, h.2⟩
  rw [beq_eq_false_iff_ne]
  have hn := ho.n
  have h2 : r.kind ≠ 1 → 2 ≤ r.n := fun h1 => by
    rcases ht with h | ⟨h, h3⟩ | ⟨h, h3⟩
    · exact absurd h h1
    · have := ho.wr h; omega
    · exact h3
  unfold cellsM
  split
  · decide
  · rename_i h1
    have h3 := h2 h1
    have p1 : 0 < 16 * (r.n - 1) * (r.n - 1) := Int.mul_pos (by omega) (by omega)
    split
    · omega
    · have p2 : 0 < 16 * (r.n - 1) * (r.n - 1) * r.n := Int.mul_pos p1 (by omega)
      omega
set_option maxRecDepth 100000 in
set_option maxHeartbeats 1000000 in
theorem kes_enter_p0 (B p N : Nat) (S : TS) (q0 q1 r0 r1 : Reg) (side me : Int) (b c : Nat) (w : World) (h : Plays B w p S) (hl : RegsAt [2, 3, 4] w p b [q0, q1, r0, r1]) (hq0 : q0.ok) (hq1 : q1.ok) (hr0 : r0.ok) (hr1 : r1.ok)
    (hm0 : 0 ≤ me) (hm1 : me < q0.n) (hm2 : me < q1.n) (hm3 : me < r0.n) (hm4 : me < r1.n) (ht1 : q1.told me) (_ht2 : r1.told me) (hN : S.left < N) (hs : bitM side = 0) (hc4 : 4 ≤ c) (hc5 : c ≤ 9223372036854775807) :
    Calls Try.prog 189 #[.pointer (some ⟨p, 0, none⟩), .slice (some ⟨b, 0, none⟩) 4 c, .int .i64 side, .int .i64 me] w (Post encU B p w ((kesEnter N q0 q1 r0 r1 0 me).run S)) := by
  generalize hR : Post encU B p w ((kesEnter N q0 q1 r0 r1 0 me).run S) = R
  have hO : Owes R encU B p w ((kesEnter N q0 q1 r0 r1 0 me).run S) := hR ▸ owes _ _ _ _ _
  clear hR
  have hmf : ∀ (fn : Fn) (first cap : Array Value) (w : World), (Instr.makeFunc fn first cap).run Try.prog w = .ok (.func fn first cap) w := fun _ _ _ _ => rfl
  have hK := Keep.refl [2, 3, 4] B p w
  have hP := h
  clear h
  unfold kesEnter at hO
  obtain ⟨⟨a0, a1, a2, a3, a4, a5, a6⟩, ⟨e0, e1, e2, e3, e4, e5, e6⟩, ⟨f0, f1, f2, f3, f4, f5, f6⟩, ⟨g0, g1, g2, g3, g4, g5, g6⟩⟩ := hl.four
  have hc6 : (2 : Int) ≤ (c : Int) := by omega
  have hc7 : (4 : Int) ≤ (c : Int) := by omega
  have hb := kbit_p side w
  rw [hs] at hb
  clear hs
  go_enter Try.func189, Try.ntmps189
  go_wp2_with fail
  refine hb.mono ?_
  rintro e w' ⟨rfl, rfl⟩
  clear hb
  go_wp2_with fail
  go_quiet (fail)
  have hx := (Ext.refl w).drewN nq
  replace hl := hl.extL hx hP.lt
  replace hK := hK.trans (Keep.of_ext hx hP.lt hP.le)
  replace hP := hP.ext hx
  clear a0 a1 a2 a3 a4 a5 a6 e0 e1 e2 e3 e4 e5 e6 f0 f1 f2 f3 f4 f5 f6 g0 g1 g2 g3 g4 g5 g6 hx
  generalize w.drewN nq = wz at *
  obtain ⟨⟨a0, a1, a2, a3, a4, a5, a6⟩, ⟨e0, e1, e2, e3, e4, e5, e6⟩, ⟨f0, f1, f2, f3, f4, f5, f6⟩, ⟨g0, g1, g2, g3, g4, g5, g6⟩⟩ := hl.four
  go_wp2_with fail
  refine tstepL hO hK (reg_write_p B p S q0 me 1 _ hP hq0 ⟨hm0, by omega⟩) (fun _ h => ⟨rfl, h⟩) ?_
  clear hO hK hP
  intro u S w1 hlf _ hP hk hK hO
  replace hN := Nat.lt_of_le_of_lt hlf hN
  replace hl := hl.keep hk
  clear a0 a1 a2 a3 a4 a5 a6 e0 e1 e2 e3 e4 e5 e6 f0 f1 f2 f3 f4 f5 f6 g0 g1 g2 g3 g4 g5 g6 hk hlf
  obtain ⟨⟨a0, a1, a2, a3, a4, a5, a6⟩, ⟨e0, e1, e2, e3, e4, e5, e6⟩, ⟨f0, f1, f2, f3, f4, f5, f6⟩, ⟨g0, g1, g2, g3, g4, g5, g6⟩⟩ := hl.four
  go_wp2_with fail
  refine tstepL hO hK (reg_read_p B p S r1 me _ hP hr1 ⟨hm0, by omega⟩) (fun _ h => ⟨rfl, h⟩) ?_
  clear hO hK hP
  intro x S w2 hlf _ hP hk hK hO
  replace hN := Nat.lt_of_le_of_lt hlf hN
  replace hl := hl.keep hk
  clear a0 a1 a2 a3 a4 a5 a6 e0 e1 e2 e3 e4 e5 e6 f0 f1 f2 f3 f4 f5 f6 g0 g1 g2 g3 g4 g5 g6 hk hlf
  obtain ⟨⟨a0, a1, a2, a3, a4, a5, a6⟩, ⟨e0, e1, e2, e3, e4, e5, e6⟩, ⟨f0, f1, f2, f3, f4, f5, f6⟩, ⟨g0, g1, g2, g3, g4, g5, g6⟩⟩ := hl.four
  go_wp2_with fail
  have hbx : 0 ≤ bitM x ∧ bitM x ≤ 1 := by unfold bitM; split <;> omega
  have hwx := w64 (1 - bitM x) (by omega) (by omega)
  refine (kbit_p x _).mono ?_
  rintro e w' ⟨rfl, rfl⟩
  go_wp2_with fail
  have hPo := hP
  have bT := hP.held (.cells #[.int .i64 (bitM x)] 3)
  replace hK := hK.trans (Keep.alloc (.cells #[.int .i64 (bitM x)] 3) hP.lt hP.le)
  replace hP := hP.alloc (.cells #[.int .i64 (bitM x)] 3)
  have c_bT := bT.cells
  replace hl := hl.extL ((Ext.refl _).alloc (.cells #[.int .i64 (bitM x)] 3)) hPo.lt
  clear hPo
  clear a0 a1 a2 a3 a4 a5 a6 e0 e1 e2 e3 e4 e5 e6 f0 f1 f2 f3 f4 f5 f6 g0 g1 g2 g3 g4 g5 g6
  rw [show kesT 0 x = (bitM x) from rfl] at hO
  replace hP := hP.drew
  replace hK := hK.drew
  replace bT := bT.drew
  replace hl := hl.extL (Ext.refl _).drew hP.lt
  have hS : ∀ w', RegsAt [2, 3, 4] w' p b [q0, q1, r0, r1] → HeldP w' p w2.heap.size (.cells #[.int .i64 (bitM x)] 3) → (w'.cell? ⟨b, 14, none⟩ = some (.int .i64 r0.kind) ∧ w'.cell? ⟨b, 15, none⟩ = some (.int .i64 r0.base) ∧ w'.cell? ⟨b, 16, none⟩ = some (.int .i64 r0.loc) ∧ w'.cell? ⟨b, 17, none⟩ = some (.int .i64 r0.n) ∧ w'.cell? ⟨b, 18, none⟩ = some (.int .i64 r0.wr) ∧ w'.cell? ⟨b, 19, none⟩ = some (.int .i64 r0.rd) ∧ w'.cell? ⟨b, 20, none⟩ = some (.int .i64 r0.top)) ∧ (∀ i, w'.cell? ⟨w2.heap.size, i, none⟩ = (#[.int .i64 (bitM x)] : Array Value)[i]?) := fun w' h1 h2 => by
    obtain ⟨y0, y1, y2, y3, y4, y5, y6⟩ := h1.four.2.2.1
    exact ⟨⟨y0, y1, y2, y3, y4, y5, y6⟩, h2.cells⟩
  go_region_held2 (fun w' => (w'.cell? ⟨b, 14, none⟩ = some (.int .i64 r0.kind) ∧ w'.cell? ⟨b, 15, none⟩ = some (.int .i64 r0.base) ∧ w'.cell? ⟨b, 16, none⟩ = some (.int .i64 r0.loc) ∧ w'.cell? ⟨b, 17, none⟩ = some (.int .i64 r0.n) ∧ w'.cell? ⟨b, 18, none⟩ = some (.int .i64 r0.wr) ∧ w'.cell? ⟨b, 19, none⟩ = some (.int .i64 r0.rd) ∧ w'.cell? ⟨b, 20, none⟩ = some (.int .i64 r0.top)) ∧ (∀ i, w'.cell? ⟨w2.heap.size, i, none⟩ = (#[.int .i64 (bitM x)] : Array Value)[i]?)) (exact hS _ hl bT)
    (first
      | (go_at_call 42
         refine tstepL hO hK (reg_write_p B p S r0 me (bitM x) _ hP hr0 ⟨hm0, by omega⟩) (fun _ h => ⟨rfl, h⟩) ?_
         clear hO hK hP
         intro u S w3 hlf _ hP hk hK hO
         replace hN := Nat.lt_of_le_of_lt hlf hN
         replace hl := hl.keep hk
         replace bT := bT.keep hk
         clear hk hlf))
  rename_i hh
  clear hh c_bT
  generalize htx : (bitM x) = t at *
  go_wp2_with fail
  go_loopw [] (fun wr => ∃ (n : Nat) (S1 : TS), Plays B wr p S1 ∧ KeepP B p w wr ∧ HeldP wr p w2.heap.size (.cells #[.int .i64 t] 3) ∧ RegsAt [2, 3, 4] wr p b [q0, q1, r0, r1] ∧ Hid (Owes R encU B p w ((kesSpin q1 r1 0 t me n).run S1)) ∧ S1.left < n) (fun wr => leftW 1 3 wr p)
  case atStart => exact ⟨N, S, hP, hK, bT, hl, hO, hN⟩
  case round =>
    clear hS hP hK bT hl hO hN
    obtain ⟨n, S1, hP, hK, bT, hl, hO, hN⟩ := hrel
    have hO := hO.out
    have hlw := Lib.hid hP.left
    cases n with
    | zero => omega
    | succ n =>
      unfold kesSpin at hO
      obtain ⟨⟨a0, a1, a2, a3, a4, a5, a6⟩, ⟨e0, e1, e2, e3, e4, e5, e6⟩, ⟨f0, f1, f2, f3, f4, f5, f6⟩, ⟨g0, g1, g2, g3, g4, g5, g6⟩⟩ := hl.four
      go_wp2_with fail
      refine tstepL hO hK (reg_read_p B p S1 q1 me _ hP hq1 ⟨hm0, by omega⟩) (fun _ h => ⟨rfl, h⟩) ?_
      clear hO hK hP
      intro v S2 w4 _ hlf hP hk hK hO
      replace hlf := hlf (asks_regR _ _ ht1)
      replace hl := hl.keep hk
      replace bT := bT.keep hk
      clear a0 a1 a2 a3 a4 a5 a6 e0 e1 e2 e3 e4 e5 e6 f0 f1 f2 f3 f4 f5 f6 g0 g1 g2 g3 g4 g5 g6 hk
      by_cases hv : v = 0
      · rw [if_pos hv] at hO
        subst hv
        have hf : R (.returned (encU ())) w4 := hO.done hP hK
        clear hO hP hK hl bT
        go_wp2_with fail
        first | exact hf | (refine bodyPost_ret (results_none rfl _ _ _) rfl ?_; exact hf)
      · rw [if_neg hv] at hO
        have hv2 : (v == 0) = false := by rw [beq_eq_false_iff_ne]; exact hv
        obtain ⟨⟨a0, a1, a2, a3, a4, a5, a6⟩, ⟨e0, e1, e2, e3, e4, e5, e6⟩, ⟨f0, f1, f2, f3, f4, f5, f6⟩, ⟨g0, g1, g2, g3, g4, g5, g6⟩⟩ := hl.four
        clear hv
        go_wp2_with fail
        refine tstepL hO hK (reg_read_p B p S2 r1 me _ hP hr1 ⟨hm0, by omega⟩) (fun _ h => ⟨rfl, h⟩) ?_
        clear hO hK hP
        intro y S3 w5 hlf2 _ hP hk hK hO
        replace hl := hl.keep hk
        replace bT := bT.keep hk
        clear a0 a1 a2 a3 a4 a5 a6 e0 e1 e2 e3 e4 e5 e6 f0 f1 f2 f3 f4 f5 f6 g0 g1 g2 g3 g4 g5 g6 hk
        have c_bT := bT.cells
        go_wp2_with fail
        refine (kbit_p y _).mono ?_
        rintro e w' ⟨rfl, rfl⟩
        go_wp2_with fail
        refine (kfree0_p (bitM y) t _ _ (c_bT 0)).mono ?_
        rintro e w' ⟨rfl, rfl⟩
        by_cases hy : kesFree 0 t y = true
        · rw [if_pos hy] at hO
          have hy2 : (bitM y != t) = true := by unfold kesFree at hy; simpa using hy
          have hf : R (.returned (encU ())) w5 := hO.done hP hK
          clear hO hP hK hl bT hy
          go_wp2_with fail
          first | exact hf | (refine bodyPost_ret (results_none rfl _ _ _) rfl ?_; exact hf)
        · rw [if_neg hy] at hO
          have hy2 : (bitM y != t) = false := by unfold kesFree at hy; simpa using hy
          obtain ⟨⟨a0, a1, a2, a3, a4, a5, a6⟩, ⟨e0, e1, e2, e3, e4, e5, e6⟩, ⟨f0, f1, f2, f3, f4, f5, f6⟩, ⟨g0, g1, g2, g3, g4, g5, g6⟩⟩ := hl.four
          clear hy c_bT
          go_wp2_with fail
          refine (cells_pm q1 me _ hq1 ht1 ⟨hm0, by omega⟩).mono ?_
          rintro e w6 ⟨cc, rfl, hcc, hx⟩
          replace hl := hl.extL hx hP.lt
          replace bT := bT.ext hx hP.lt
          replace hK := hK.trans (Keep.of_ext hx hP.lt hP.le)
          replace hP := hP.ext hx
          clear a0 a1 a2 a3 a4 a5 a6 e0 e1 e2 e3 e4 e5 e6 f0 f1 f2 f3 f4 f5 f6 g0 g1 g2 g3 g4 g5 g6 hx
          have hlw2 := Lib.hid hP.left
          have hOh := Lib.hid hO
          clear hO
          go_wp2_with fail
          refine ⟨⟨n, S3, hP, hK, bT, hl, hOh, by omega⟩, ?_⟩
          rw [hlw.out, hlw2.out]
          omega
set_option maxRecDepth 100000 in
set_option maxHeartbeats 1000000 in
theorem kes_enter_p1 (B p N : Nat) (S : TS) (q0 q1 r0 r1 : Reg) (side me : Int) (b c : Nat) (w : World) (h : Plays B w p S) (hl : RegsAt [2, 3, 4] w p b [q0, q1, r0, r1]) (hq0 : q0.ok) (hq1 : q1.ok) (hr0 : r0.ok) (hr1 : r1.ok)
    (hm0 : 0 ≤ me) (hm1 : me < q0.n) (hm2 : me < q1.n) (hm3 : me < r0.n) (hm4 : me < r1.n) (ht1 : q0.told me) (_ht2 : r0.told me) (hN : S.left < N) (hs : bitM side = 1) (hc4 : 4 ≤ c) (hc5 : c ≤ 9223372036854775807) :
    Calls Try.prog 189 #[.pointer (some ⟨p, 0, none⟩), .slice (some ⟨b, 0, none⟩) 4 c, .int .i64 side, .int .i64 me] w (Post encU B p w ((kesEnter N q1 q0 r1 r0 1 me).run S)) := by
  generalize hR : Post encU B p w ((kesEnter N q1 q0 r1 r0 1 me).run S) = R
  have hO : Owes R encU B p w ((kesEnter N q1 q0 r1 r0 1 me).run S) := hR ▸ owes _ _ _ _ _
  clear hR
  have hmf : ∀ (fn : Fn) (first cap : Array Value) (w : World), (Instr.makeFunc fn first cap).run Try.prog w = .ok (.func fn first cap) w := fun _ _ _ _ => rfl
  have hK := Keep.refl [2, 3, 4] B p w
  have hP := h
  clear h
  unfold kesEnter at hO
  obtain ⟨⟨a0, a1, a2, a3, a4, a5, a6⟩, ⟨e0, e1, e2, e3, e4, e5, e6⟩, ⟨f0, f1, f2, f3, f4, f5, f6⟩, ⟨g0, g1, g2, g3, g4, g5, g6⟩⟩ := hl.four
  have hc6 : (2 : Int) ≤ (c : Int) := by omega
  have hc7 : (4 : Int) ≤ (c : Int) := by omega
  have hb := kbit_p side w
  rw [hs] at hb
  clear hs
  go_enter Try.func189, Try.ntmps189
  go_wp2_with fail
  refine hb.mono ?_
  rintro e w' ⟨rfl, rfl⟩
  clear hb
  go_wp2_with fail
  go_quiet (fail)
  have hx := (Ext.refl w).drewN nq
  replace hl := hl.extL hx hP.lt
  replace hK := hK.trans (Keep.of_ext hx hP.lt hP.le)
  replace hP := hP.ext hx
  clear a0 a1 a2 a3 a4 a5 a6 e0 e1 e2 e3 e4 e5 e6 f0 f1 f2 f3 f4 f5 f6 g0 g1 g2 g3 g4 g5 g6 hx
  generalize w.drewN nq = wz at *
  obtain ⟨⟨a0, a1, a2, a3, a4, a5, a6⟩, ⟨e0, e1, e2, e3, e4, e5, e6⟩, ⟨f0, f1, f2, f3, f4, f5, f6⟩, ⟨g0, g1, g2, g3, g4, g5, g6⟩⟩ := hl.four
  go_wp2_with fail
  refine tstepL hO hK (reg_write_p B p S q1 me 1 _ hP hq1 ⟨hm0, by omega⟩) (fun _ h => ⟨rfl, h⟩) ?_
  clear hO hK hP
  intro u S w1 hlf _ hP hk hK hO
  replace hN := Nat.lt_of_le_of_lt hlf hN
  replace hl := hl.keep hk
  clear a0 a1 a2 a3 a4 a5 a6 e0 e1 e2 e3 e4 e5 e6 f0 f1 f2 f3 f4 f5 f6 g0 g1 g2 g3 g4 g5 g6 hk hlf
  obtain ⟨⟨a0, a1, a2, a3, a4, a5, a6⟩, ⟨e0, e1, e2, e3, e4, e5, e6⟩, ⟨f0, f1, f2, f3, f4, f5, f6⟩, ⟨g0, g1, g2, g3, g4, g5, g6⟩⟩ := hl.four
  go_wp2_with fail
  refine tstepL hO hK (reg_read_p B p S r0 me _ hP hr0 ⟨hm0, by omega⟩) (fun _ h => ⟨rfl, h⟩) ?_
  clear hO hK hP
  intro x S w2 hlf _ hP hk hK hO
  replace hN := Nat.lt_of_le_of_lt hlf hN
  replace hl := hl.keep hk
  clear a0 a1 a2 a3 a4 a5 a6 e0 e1 e2 e3 e4 e5 e6 f0 f1 f2 f3 f4 f5 f6 g0 g1 g2 g3 g4 g5 g6 hk hlf
  obtain ⟨⟨a0, a1, a2, a3, a4, a5, a6⟩, ⟨e0, e1, e2, e3, e4, e5, e6⟩, ⟨f0, f1, f2, f3, f4, f5, f6⟩, ⟨g0, g1, g2, g3, g4, g5, g6⟩⟩ := hl.four
  go_wp2_with fail
  have hbx : 0 ≤ bitM x ∧ bitM x ≤ 1 := by unfold bitM; split <;> omega
  have hwx := w64 (1 - bitM x) (by omega) (by omega)
  refine (kbit_p x _).mono ?_
  rintro e w' ⟨rfl, rfl⟩
  go_wp2_with fail
  have hPo := hP
  have bT := hP.held (.cells #[.int .i64 (1 - bitM x)] 3)
  replace hK := hK.trans (Keep.alloc (.cells #[.int .i64 (1 - bitM x)] 3) hP.lt hP.le)
  replace hP := hP.alloc (.cells #[.int .i64 (1 - bitM x)] 3)
  have c_bT := bT.cells
  replace hl := hl.extL ((Ext.refl _).alloc (.cells #[.int .i64 (1 - bitM x)] 3)) hPo.lt
  clear hPo
  clear a0 a1 a2 a3 a4 a5 a6 e0 e1 e2 e3 e4 e5 e6 f0 f1 f2 f3 f4 f5 f6 g0 g1 g2 g3 g4 g5 g6
  rw [show kesT 1 x = (1 - bitM x) from rfl] at hO
  replace hP := hP.drew
  replace hK := hK.drew
  replace bT := bT.drew
  replace hl := hl.extL (Ext.refl _).drew hP.lt
  have hS : ∀ w', RegsAt [2, 3, 4] w' p b [q0, q1, r0, r1] → HeldP w' p w2.heap.size (.cells #[.int .i64 (1 - bitM x)] 3) → (w'.cell? ⟨b, 21, none⟩ = some (.int .i64 r1.kind) ∧ w'.cell? ⟨b, 22, none⟩ = some (.int .i64 r1.base) ∧ w'.cell? ⟨b, 23, none⟩ = some (.int .i64 r1.loc) ∧ w'.cell? ⟨b, 24, none⟩ = some (.int .i64 r1.n) ∧ w'.cell? ⟨b, 25, none⟩ = some (.int .i64 r1.wr) ∧ w'.cell? ⟨b, 26, none⟩ = some (.int .i64 r1.rd) ∧ w'.cell? ⟨b, 27, none⟩ = some (.int .i64 r1.top)) ∧ (∀ i, w'.cell? ⟨w2.heap.size, i, none⟩ = (#[.int .i64 (1 - bitM x)] : Array Value)[i]?) := fun w' h1 h2 => by
    obtain ⟨y0, y1, y2, y3, y4, y5, y6⟩ := h1.four.2.2.2
    exact ⟨⟨y0, y1, y2, y3, y4, y5, y6⟩, h2.cells⟩
  go_region_held2 (fun w' => (w'.cell? ⟨b, 21, none⟩ = some (.int .i64 r1.kind) ∧ w'.cell? ⟨b, 22, none⟩ = some (.int .i64 r1.base) ∧ w'.cell? ⟨b, 23, none⟩ = some (.int .i64 r1.loc) ∧ w'.cell? ⟨b, 24, none⟩ = some (.int .i64 r1.n) ∧ w'.cell? ⟨b, 25, none⟩ = some (.int .i64 r1.wr) ∧ w'.cell? ⟨b, 26, none⟩ = some (.int .i64 r1.rd) ∧ w'.cell? ⟨b, 27, none⟩ = some (.int .i64 r1.top)) ∧ (∀ i, w'.cell? ⟨w2.heap.size, i, none⟩ = (#[.int .i64 (1 - bitM x)] : Array Value)[i]?)) (exact hS _ hl bT)
    (first
      | (go_at_call 42
         refine tstepL hO hK (reg_write_p B p S r1 me (1 - bitM x) _ hP hr1 ⟨hm0, by omega⟩) (fun _ h => ⟨rfl, h⟩) ?_
         clear hO hK hP
         intro u S w3 hlf _ hP hk hK hO
         replace hN := Nat.lt_of_le_of_lt hlf hN
         replace hl := hl.keep hk
         replace bT := bT.keep hk
         clear hk hlf))
  rename_i hh
  clear hh c_bT
  generalize htx : (1 - bitM x) = t at *
  go_wp2_with fail
  go_loopw [] (fun wr => ∃ (n : Nat) (S1 : TS), Plays B wr p S1 ∧ KeepP B p w wr ∧ HeldP wr p w2.heap.size (.cells #[.int .i64 t] 3) ∧ RegsAt [2, 3, 4] wr p b [q0, q1, r0, r1] ∧ Hid (Owes R encU B p w ((kesSpin q0 r0 1 t me n).run S1)) ∧ S1.left < n) (fun wr => leftW 1 3 wr p)
  case atStart => exact ⟨N, S, hP, hK, bT, hl, hO, hN⟩
  case round =>
    clear hS hP hK bT hl hO hN
    obtain ⟨n, S1, hP, hK, bT, hl, hO, hN⟩ := hrel
    have hO := hO.out
    have hlw := Lib.hid hP.left
    cases n with
    | zero => omega
    | succ n =>
      unfold kesSpin at hO
      obtain ⟨⟨a0, a1, a2, a3, a4, a5, a6⟩, ⟨e0, e1, e2, e3, e4, e5, e6⟩, ⟨f0, f1, f2, f3, f4, f5, f6⟩, ⟨g0, g1, g2, g3, g4, g5, g6⟩⟩ := hl.four
      go_wp2_with fail
      refine tstepL hO hK (reg_read_p B p S1 q0 me _ hP hq0 ⟨hm0, by omega⟩) (fun _ h => ⟨rfl, h⟩) ?_
      clear hO hK hP
      intro v S2 w4 _ hlf hP hk hK hO
      replace hlf := hlf (asks_regR _ _ ht1)
      replace hl := hl.keep hk
      replace bT := bT.keep hk
      clear a0 a1 a2 a3 a4 a5 a6 e0 e1 e2 e3 e4 e5 e6 f0 f1 f2 f3 f4 f5 f6 g0 g1 g2 g3 g4 g5 g6 hk
      by_cases hv : v = 0
      · rw [if_pos hv] at hO
        subst hv
        have hf : R (.returned (encU ())) w4 := hO.done hP hK
        clear hO hP hK hl bT
        go_wp2_with fail
        first | exact hf | (refine bodyPost_ret (results_none rfl _ _ _) rfl ?_; exact hf)
      · rw [if_neg hv] at hO
        have hv2 : (v == 0) = false := by rw [beq_eq_false_iff_ne]; exact hv
        obtain ⟨⟨a0, a1, a2, a3, a4, a5, a6⟩, ⟨e0, e1, e2, e3, e4, e5, e6⟩, ⟨f0, f1, f2, f3, f4, f5, f6⟩, ⟨g0, g1, g2, g3, g4, g5, g6⟩⟩ := hl.four
        clear hv
        go_wp2_with fail
        refine tstepL hO hK (reg_read_p B p S2 r0 me _ hP hr0 ⟨hm0, by omega⟩) (fun _ h => ⟨rfl, h⟩) ?_
        clear hO hK hP
        intro y S3 w5 hlf2 _ hP hk hK hO
        replace hl := hl.keep hk
        replace bT := bT.keep hk
        clear a0 a1 a2 a3 a4 a5 a6 e0 e1 e2 e3 e4 e5 e6 f0 f1 f2 f3 f4 f5 f6 g0 g1 g2 g3 g4 g5 g6 hk
        have c_bT := bT.cells
        go_wp2_with fail
        refine (kbit_p y _).mono ?_
        rintro e w' ⟨rfl, rfl⟩
        go_wp2_with fail
        refine (kfree1_p (bitM y) t _ _ (c_bT 0)).mono ?_
        rintro e w' ⟨rfl, rfl⟩
        by_cases hy : kesFree 1 t y = true
        · rw [if_pos hy] at hO
          have hy2 : (bitM y == t) = true := by unfold kesFree at hy; simpa using hy
          have hf : R (.returned (encU ())) w5 := hO.done hP hK
          clear hO hP hK hl bT hy
          go_wp2_with fail
          first | exact hf | (refine bodyPost_ret (results_none rfl _ _ _) rfl ?_; exact hf)
        · rw [if_neg hy] at hO
          have hy2 : (bitM y == t) = false := by unfold kesFree at hy; simpa using hy
          obtain ⟨⟨a0, a1, a2, a3, a4, a5, a6⟩, ⟨e0, e1, e2, e3, e4, e5, e6⟩, ⟨f0, f1, f2, f3, f4, f5, f6⟩, ⟨g0, g1, g2, g3, g4, g5, g6⟩⟩ := hl.four
          clear hy c_bT
          go_wp2_with fail
          refine (cells_pm q0 me _ hq0 ht1 ⟨hm0, by omega⟩).mono ?_
          rintro e w6 ⟨cc, rfl, hcc, hx⟩
          replace hl := hl.extL hx hP.lt
          replace bT := bT.ext hx hP.lt
          replace hK := hK.trans (Keep.of_ext hx hP.lt hP.le)
          replace hP := hP.ext hx
          clear a0 a1 a2 a3 a4 a5 a6 e0 e1 e2 e3 e4 e5 e6 f0 f1 f2 f3 f4 f5 f6 g0 g1 g2 g3 g4 g5 g6 hx
          have hlw2 := Lib.hid hP.left
          have hOh := Lib.hid hO
          clear hO
          go_wp2_with fail
          refine ⟨⟨n, S3, hP, hK, bT, hl, hOh, by omega⟩, ?_⟩
          rw [hlw.out, hlw2.out]
          omega
end Go.Proofs.Ytbphlkaihfbgeaa
/-
  Kessels: leaving, by the program.
-/
namespace Go.Proofs.Ytbphlkaihfbgeaa
open Go.RowKit Kv
theorem kbit_p' (x : Int) (w : World) : Calls Try.prog 199 #[.int .i64 x] w fun e w' => e = .returned (.int .i64 (bitM x)) ∧ w = w' := by
  unfold bitM
  by_cases h : x = 0
  · rw [if_pos h]
    go_enter Try.func199, Try.ntmps199
    go_wp2_with fail
    go_ret
    exact ⟨rfl, rfl⟩
  · rw [if_neg h]
    have hb : (x != 0) = true := by rw [bne_iff_ne]; exact h
    go_enter Try.func199, Try.ntmps199
    go_wp2_with fail
    go_ret
    exact ⟨rfl, rfl⟩
theorem kes_leave_p (B p : Nat) (S : TS) (q0 q1 r0 r1 : Reg) (side me : Int) (b c : Nat) (w : World) (h : Plays B w p S) (hl : RegsAt [2, 3, 4] w p b [q0, q1, r0, r1]) (hq0 : q0.ok) (hq1 : q1.ok)
    (hm0 : 0 ≤ me) (hm1 : me < q0.n) (hm2 : me < q1.n) :
    Calls Try.prog 190 #[.pointer (some ⟨p, 0, none⟩), .slice (some ⟨b, 0, none⟩) 4 c, .int .i64 side, .int .i64 me] w (Post encU B p w ((regW (if bitM side = 1 then q1 else q0) me 0).run S)) := by
  have hb := kbit_p' side w
  obtain ⟨⟨a0, a1, a2, a3, a4, a5, a6⟩, ⟨e0, e1, e2, e3, e4, e5, e6⟩, -, -⟩ := hl.four
  have hs : bitM side = 0 ∨ bitM side = 1 := by unfold bitM; split <;> simp
  rcases hs with hs | hs
  · rw [hs] at hb ⊢
    rw [if_neg (by omega)]
    generalize hR : Post encU B p w ((regW q0 me 0).run S) = R
    have hO : Owes R encU B p w ((regW q0 me 0).run S) := hR ▸ owes _ _ _ _ _
    clear hR
    go_enter Try.func190, Try.ntmps190
    go_wp2_with fail
    refine hb.mono ?_
    rintro e w' ⟨rfl, rfl⟩
    go_wp2_with fail
    clear a0 a1 a2 a3 a4 a5 a6 e0 e1 e2 e3 e4 e5 e6 hl hb
    refine tlast hO (Keep.refl _ _ _ _) (reg_write_p B p S q0 me 0 _ h hq0 ⟨hm0, hm1⟩) (fun _ h => ⟨rfl, h⟩) ?_
    intro v S1 w1 hr hP1 hk1 hK1 hO1
    have hf := hO1.done hP1 hK1
    clear hO1 hP1 hK1 hr hk1 hO h
    go_wp2_with fail
    first | exact hf | (refine bodyPost_ret (results_none rfl _ _ _) rfl ?_; exact hf)
  · rw [hs] at hb ⊢
    rw [if_pos rfl]
    generalize hR : Post encU B p w ((regW q1 me 0).run S) = R
    have hO : Owes R encU B p w ((regW q1 me 0).run S) := hR ▸ owes _ _ _ _ _
    clear hR
    go_enter Try.func190, Try.ntmps190
    go_wp2_with fail
    refine hb.mono ?_
    rintro e w' ⟨rfl, rfl⟩
    go_wp2_with fail
    clear a0 a1 a2 a3 a4 a5 a6 e0 e1 e2 e3 e4 e5 e6 hl hb
    refine tlast hO (Keep.refl _ _ _ _) (reg_write_p B p S q1 me 0 _ h hq1 ⟨hm0, hm2⟩) (fun _ h => ⟨rfl, h⟩) ?_
    intro v S1 w1 hr hP1 hk1 hK1 hO1
    have hf := hO1.done hP1 hK1
    clear hO1 hP1 hK1 hr hk1 hO h
    go_wp2_with fail
    first | exact hf | (refine bodyPost_ret (results_none rfl _ _ _) rfl ?_; exact hf)
end Go.Proofs.Ytbphlkaihfbgeaa
/-
  Kessels: entering, by the document.
-/
namespace Go.Proofs.Ytbphlkaihfbgeaa
open Go.RowKit Kv
end Go.Proofs.Ytbphlkaihfbgeaa
/-
  Kessels: entering and leaving, both sides.
-/
namespace Kv
/-- Entering on a side, and leaving. -/
def kesM (n : Nat) (q0 q1 r0 r1 : Reg) (side me : Int) : Prog Unit := if bitM side = 1 then kesEnter n q1 q0 r1 r0 1 me else kesEnter n q0 q1 r0 r1 0 me
def kesL (q0 q1 : Reg) (side me : Int) : Prog Unit := regW (if bitM side = 1 then q1 else q0) me 0
theorem bitM_or (x : Int) : bitM x = 0 ∨ bitM x = 1 := by unfold bitM; split <;> simp
end Kv
namespace Go.Proofs.Ytbphlkaihfbgeaa
open Go.RowKit Kv
theorem kes_enter_p (B p N : Nat) (S : TS) (q0 q1 r0 r1 : Reg) (side me : Int) (b c : Nat) (w : World) (h : Plays B w p S) (hl : RegsAt [2, 3, 4] w p b [q0, q1, r0, r1]) (hq0 : q0.ok) (hq1 : q1.ok) (hr0 : r0.ok) (hr1 : r1.ok)
    (hm0 : 0 ≤ me) (hm1 : me < q0.n) (hm2 : me < q1.n) (hm3 : me < r0.n) (hm4 : me < r1.n) (ht1 : q0.told me) (ht2 : q1.told me) (ht3 : r0.told me) (ht4 : r1.told me) (hN : S.left < N) (hc4 : 4 ≤ c) (hc5 : c ≤ 9223372036854775807) :
    Calls Try.prog 189 #[.pointer (some ⟨p, 0, none⟩), .slice (some ⟨b, 0, none⟩) 4 c, .int .i64 side, .int .i64 me] w (Post encU B p w ((kesM N q0 q1 r0 r1 side me).run S)) := by
  unfold kesM
  rcases bitM_or side with hs | hs
  · rw [if_neg (by omega)]
    exact kes_enter_p0 B p N S q0 q1 r0 r1 side me b c w h hl hq0 hq1 hr0 hr1 hm0 hm1 hm2 hm3 hm4 ht2 ht4 hN hs hc4 hc5
  · rw [if_pos hs]
    exact kes_enter_p1 B p N S q0 q1 r0 r1 side me b c w h hl hq0 hq1 hr0 hr1 hm0 hm1 hm2 hm3 hm4 ht1 ht3 hN hs hc4 hc5
end Go.Proofs.Ytbphlkaihfbgeaa
/-
  Peterson's lock of two sides: entering and leaving, by the program.
-/
namespace Kv
/-- Spinning, so many rounds at most. -/
def arbSpin (qo rt : Reg) (s me : Int) : Nat → Prog Unit
  | 0 => .ret ()
  | n + 1 => (regR qo me).bind fun x => if x = 0 then .ret () else (regR rt me).bind fun y => if y = s then arbSpin qo rt s me n else .ret ()
def arbEnter (n : Nat) (qs qo rt : Reg) (s me : Int) : Prog Unit := (regW qs me 1).bind fun _ => (regW rt me s).bind fun _ => arbSpin qo rt s me n
def arbM (n : Nat) (q0 q1 rt : Reg) (side me : Int) : Prog Unit := if bitM side = 1 then arbEnter n q1 q0 rt 1 me else arbEnter n q0 q1 rt 0 me
theorem arbSpin_succ (qo rt : Reg) (s me : Int) (n : Nat) : arbSpin qo rt s me (n + 1) = (regR qo me).bind fun x => if x = 0 then .ret () else (regR rt me).bind fun y => if y = s then arbSpin qo rt s me n else .ret () := rfl
end Kv
namespace Go.Proofs.Ytbphlkaihfbgeaa
open Go.RowKit Kv
theorem RegsAt.three {ix : List Nat} {p b : Nat} {w : World} {x y z : Reg} (h : RegsAt ix w p b [x, y, z]) : RegCells w b 0 x ∧ RegCells w b 7 y ∧ RegCells w b 14 z :=
  ⟨⟨h.cells 0 _ rfl, h.cells 1 _ rfl, h.cells 2 _ rfl, h.cells 3 _ rfl, h.cells 4 _ rfl, h.cells 5 _ rfl, h.cells 6 _ rfl⟩, ⟨h.cells 7 _ rfl, h.cells 8 _ rfl, h.cells 9 _ rfl, h.cells 10 _ rfl, h.cells 11 _ rfl, h.cells 12 _ rfl, h.cells 13 _ rfl⟩,
    ⟨h.cells 14 _ rfl, h.cells 15 _ rfl, h.cells 16 _ rfl, h.cells 17 _ rfl, h.cells 18 _ rfl, h.cells 19 _ rfl, h.cells 20 _ rfl⟩⟩
theorem abit_p (x : Int) (w : World) : Calls Try.prog 202 #[.int .i64 x] w fun e w' => e = .returned (.int .i64 (bitM x)) ∧ w = w' := by
  unfold bitM
  by_cases h : x = 0
  · rw [if_pos h]
    go_enter Try.func202, Try.ntmps202
    go_wp2_with fail
    go_ret
    exact ⟨rfl, rfl⟩
  · rw [if_neg h]
    have hb : (x != 0) = true := by rw [bne_iff_ne]; exact h
    go_enter Try.func202, Try.ntmps202
    go_wp2_with fail
    go_ret
    exact ⟨rfl, rfl⟩
theorem two_held {B p b : Nat} {w : World} {S : TS} {rs : List Reg} (h : Plays B w p S) (hl : RegsAt [2, 3, 4] w p b rs) (o1 o2 : Obj) :
    HeldP ((w.alloc o1).alloc o2).drew p w.heap.size o1 ∧ HeldP ((w.alloc o1).alloc o2).drew p (w.heap.size + 1) o2 ∧ Plays B ((w.alloc o1).alloc o2).drew p S ∧ KeepP B p w ((w.alloc o1).alloc o2).drew ∧ RegsAt [2, 3, 4] ((w.alloc o1).alloc o2).drew p b rs := by
  have h2 := (h.alloc o1).held o2
  rw [World.size_alloc] at h2
  exact ⟨((h.held o1).alloc o2 (h.alloc o1).lt).drew, h2.drew, ((h.alloc o1).alloc o2).drew, ((Keep.alloc o1 h.lt h.le).trans (Keep.alloc o2 (h.alloc o1).lt (h.alloc o1).le)).drew, hl.extL ((((Ext.refl w).alloc o1).alloc o2).drew) h.lt⟩
set_option maxRecDepth 100000 in
set_option maxHeartbeats 1000000 in
theorem arb_enter_p0 (B p N : Nat) (S : TS) (q0 q1 rt : Reg) (side me : Int) (b c : Nat) (w : World) (h : Plays B w p S) (hl : RegsAt [2, 3, 4] w p b [q0, q1, rt]) (hq0 : q0.ok) (hq1 : q1.ok) (hrt : rt.ok)
    (hm0 : 0 ≤ me) (hm1 : me < q0.n) (hm2 : me < q1.n) (hm3 : me < rt.n) (ht1 : q1.told me) (hN : S.left < N) (hs : bitM side = 0) :
    Calls Try.prog 192 #[.pointer (some ⟨p, 0, none⟩), .slice (some ⟨b, 0, none⟩) 3 c, .int .i64 side, .int .i64 me] w (Post encU B p w ((arbEnter N q0 q1 rt 0 me).run S)) := by
  generalize hR : Post encU B p w ((arbEnter N q0 q1 rt 0 me).run S) = R
  have hO : Owes R encU B p w ((arbEnter N q0 q1 rt 0 me).run S) := hR ▸ owes _ _ _ _ _
  clear hR
  have hP := h
  clear h
  unfold arbEnter at hO
  have hb := abit_p side
  rw [hs] at hb
  clear hs
  have hS : ∀ w', RegsAt [2, 3, 4] w' p b [q0, q1, rt] → ((w'.cell? ⟨b, 0, none⟩ = some (.int .i64 q0.kind) ∧ w'.cell? ⟨b, 1, none⟩ = some (.int .i64 q0.base) ∧ w'.cell? ⟨b, 2, none⟩ = some (.int .i64 q0.loc) ∧ w'.cell? ⟨b, 3, none⟩ = some (.int .i64 q0.n) ∧ w'.cell? ⟨b, 4, none⟩ = some (.int .i64 q0.wr) ∧ w'.cell? ⟨b, 5, none⟩ = some (.int .i64 q0.rd) ∧ w'.cell? ⟨b, 6, none⟩ = some (.int .i64 q0.top)) ∧ (w'.cell? ⟨b, 7, none⟩ = some (.int .i64 q1.kind) ∧ w'.cell? ⟨b, 8, none⟩ = some (.int .i64 q1.base) ∧ w'.cell? ⟨b, 9, none⟩ = some (.int .i64 q1.loc) ∧ w'.cell? ⟨b, 10, none⟩ = some (.int .i64 q1.n) ∧ w'.cell? ⟨b, 11, none⟩ = some (.int .i64 q1.wr) ∧ w'.cell? ⟨b, 12, none⟩ = some (.int .i64 q1.rd) ∧ w'.cell? ⟨b, 13, none⟩ = some (.int .i64 q1.top)) ∧ (w'.cell? ⟨b, 14, none⟩ = some (.int .i64 rt.kind) ∧ w'.cell? ⟨b, 15, none⟩ = some (.int .i64 rt.base) ∧ w'.cell? ⟨b, 16, none⟩ = some (.int .i64 rt.loc) ∧ w'.cell? ⟨b, 17, none⟩ = some (.int .i64 rt.n) ∧ w'.cell? ⟨b, 18, none⟩ = some (.int .i64 rt.wr) ∧ w'.cell? ⟨b, 19, none⟩ = some (.int .i64 rt.rd) ∧ w'.cell? ⟨b, 20, none⟩ = some (.int .i64 rt.top))) := fun w' y => by
    obtain ⟨⟨a0, a1, a2, a3, a4, a5, a6⟩, ⟨e0, e1, e2, e3, e4, e5, e6⟩, ⟨f0, f1, f2, f3, f4, f5, f6⟩⟩ := y.three
    exact ⟨⟨a0, a1, a2, a3, a4, a5, a6⟩, ⟨e0, e1, e2, e3, e4, e5, e6⟩, ⟨f0, f1, f2, f3, f4, f5, f6⟩⟩
  go_enter Try.func192, Try.ntmps192
  go_wp2_with fail
  have hOh := Lib.hid hO
  have hbh := Lib.hid hb
  clear hO hb
  go_upto_region 1 with fail
  go_cut [8, 9] (fun s8 s9 wx => ∃ (x y : Nat), s8 = .pointer (some ⟨x, 0, none⟩) ∧ s9 = .pointer (some ⟨y, 0, none⟩) ∧ HeldP wx p x (.cells #[.int .i64 q0.kind, .int .i64 q0.base, .int .i64 q0.loc, .int .i64 q0.n, .int .i64 q0.wr, .int .i64 q0.rd, .int .i64 q0.top, .int .i64 q1.kind, .int .i64 q1.base, .int .i64 q1.loc, .int .i64 q1.n, .int .i64 q1.wr, .int .i64 q1.rd, .int .i64 q1.top] 170) ∧ HeldP wx p y (.cells #[.int .i64 rt.kind, .int .i64 rt.base, .int .i64 rt.loc, .int .i64 rt.n, .int .i64 rt.wr, .int .i64 rt.rd, .int .i64 rt.top] 56) ∧ Plays B wx p S ∧ KeepP B p w wx ∧ RegsAt [2, 3, 4] wx p b [q0, q1, rt])
  case first =>
    have hl2 := hl.extL (Ext.refl w).drew hP.lt
    obtain ⟨⟨a0, a1, a2, a3, a4, a5, a6⟩, ⟨e0, e1, e2, e3, e4, e5, e6⟩, ⟨f0, f1, f2, f3, f4, f5, f6⟩⟩ := hl.three
    go_region_held2 (fun w' => ((w'.cell? ⟨b, 0, none⟩ = some (.int .i64 q0.kind) ∧ w'.cell? ⟨b, 1, none⟩ = some (.int .i64 q0.base) ∧ w'.cell? ⟨b, 2, none⟩ = some (.int .i64 q0.loc) ∧ w'.cell? ⟨b, 3, none⟩ = some (.int .i64 q0.n) ∧ w'.cell? ⟨b, 4, none⟩ = some (.int .i64 q0.wr) ∧ w'.cell? ⟨b, 5, none⟩ = some (.int .i64 q0.rd) ∧ w'.cell? ⟨b, 6, none⟩ = some (.int .i64 q0.top)) ∧ (w'.cell? ⟨b, 7, none⟩ = some (.int .i64 q1.kind) ∧ w'.cell? ⟨b, 8, none⟩ = some (.int .i64 q1.base) ∧ w'.cell? ⟨b, 9, none⟩ = some (.int .i64 q1.loc) ∧ w'.cell? ⟨b, 10, none⟩ = some (.int .i64 q1.n) ∧ w'.cell? ⟨b, 11, none⟩ = some (.int .i64 q1.wr) ∧ w'.cell? ⟨b, 12, none⟩ = some (.int .i64 q1.rd) ∧ w'.cell? ⟨b, 13, none⟩ = some (.int .i64 q1.top)) ∧ (w'.cell? ⟨b, 14, none⟩ = some (.int .i64 rt.kind) ∧ w'.cell? ⟨b, 15, none⟩ = some (.int .i64 rt.base) ∧ w'.cell? ⟨b, 16, none⟩ = some (.int .i64 rt.loc) ∧ w'.cell? ⟨b, 17, none⟩ = some (.int .i64 rt.n) ∧ w'.cell? ⟨b, 18, none⟩ = some (.int .i64 rt.wr) ∧ w'.cell? ⟨b, 19, none⟩ = some (.int .i64 rt.rd) ∧ w'.cell? ⟨b, 20, none⟩ = some (.int .i64 rt.top)))) (first | with_reducible exact hS _ hl2 | go_keep) (fail)
    · rename_i hh
      clear hh
      obtain ⟨b1, b2, hP2, hK2, hl3⟩ := two_held hP hl (.cells #[.int .i64 q0.kind, .int .i64 q0.base, .int .i64 q0.loc, .int .i64 q0.n, .int .i64 q0.wr, .int .i64 q0.rd, .int .i64 q0.top, .int .i64 q1.kind, .int .i64 q1.base, .int .i64 q1.loc, .int .i64 q1.n, .int .i64 q1.wr, .int .i64 q1.rd, .int .i64 q1.top] 170) (.cells #[.int .i64 rt.kind, .int .i64 rt.base, .int .i64 rt.loc, .int .i64 rt.n, .int .i64 rt.wr, .int .i64 rt.rd, .int .i64 rt.top] 56)
      clear hS hl2 hl hP a0 a1 a2 a3 a4 a5 a6 e0 e1 e2 e3 e4 e5 e6 f0 f1 f2 f3 f4 f5 f6
      go_wp2_with fail
      go_meet
      exact ⟨_, _, rfl, rfl, b1, b2, hP2, hK2, hl3⟩
    · rename_i hh
      clear hh
      obtain ⟨b2, b1, hP2, hK2, hl3⟩ := two_held hP hl (.cells #[.int .i64 rt.kind, .int .i64 rt.base, .int .i64 rt.loc, .int .i64 rt.n, .int .i64 rt.wr, .int .i64 rt.rd, .int .i64 rt.top] 56) (.cells #[.int .i64 q0.kind, .int .i64 q0.base, .int .i64 q0.loc, .int .i64 q0.n, .int .i64 q0.wr, .int .i64 q0.rd, .int .i64 q0.top, .int .i64 q1.kind, .int .i64 q1.base, .int .i64 q1.loc, .int .i64 q1.n, .int .i64 q1.wr, .int .i64 q1.rd, .int .i64 q1.top] 170)
      clear hS hl2 hl hP a0 a1 a2 a3 a4 a5 a6 e0 e1 e2 e3 e4 e5 e6 f0 f1 f2 f3 f4 f5 f6
      go_wp2_with fail
      go_meet
      exact ⟨_, _, rfl, rfl, b1, b2, hP2, hK2, hl3⟩
  case rest =>
    clear hS hl hP
    obtain ⟨x, y, rfl, rfl, bx, bt, hP, hK, -⟩ := hcut
    go_wp2_with fail
    refine (hbh.out _).mono ?_
    rintro e w' ⟨rfl, rfl⟩
    have c_bx := bx.cells
    clear hbh
    have hPo := hP
    have bn := hP.held (.cells #[.int .i64 q1.kind, .int .i64 q1.base, .int .i64 q1.loc, .int .i64 q1.n, .int .i64 q1.wr, .int .i64 q1.rd, .int .i64 q1.top] 56)
    have hKn := hK.trans (Keep.alloc (.cells #[.int .i64 q1.kind, .int .i64 q1.base, .int .i64 q1.loc, .int .i64 q1.n, .int .i64 q1.wr, .int .i64 q1.rd, .int .i64 q1.top] 56) hP.lt hP.le)
    have hPn := hP.alloc (.cells #[.int .i64 q1.kind, .int .i64 q1.base, .int .i64 q1.loc, .int .i64 q1.n, .int .i64 q1.wr, .int .i64 q1.rd, .int .i64 q1.top] 56)
    have bxn := bx.alloc (.cells #[.int .i64 q1.kind, .int .i64 q1.base, .int .i64 q1.loc, .int .i64 q1.n, .int .i64 q1.wr, .int .i64 q1.rd, .int .i64 q1.top] 56) hP.lt
    have btn := bt.alloc (.cells #[.int .i64 q1.kind, .int .i64 q1.base, .int .i64 q1.loc, .int .i64 q1.n, .int .i64 q1.wr, .int .i64 q1.rd, .int .i64 q1.top] 56) hP.lt
    clear hP hK bx bt hPo
    have c_bxn := bxn.cells
    go_wp2_with fail
    clear c_bx c_bxn
    generalize hzn : wc.heap.size = z at *
    generalize wc.alloc _ = W at *
    clear hzn
    have hP := hPn
    have hK := hKn
    have bx := bxn
    have bt := btn
    clear hPn hKn bxn btn
    replace hO := hOh.out
    clear hOh
    refine tstepL hO hK (reg_write_p B p S q0 me 1 _ hP hq0 ⟨hm0, by omega⟩) (fun _ h => ⟨rfl, h⟩) ?_
    clear hO hK hP
    intro u S2 w2 hlf _ hP hk hK hO
    replace hN := Nat.lt_of_le_of_lt hlf hN
    replace bn := bn.keep hk
    replace bt := bt.keep hk
    have c_bt := bt.cells
    have hOh := Lib.hid hO
    clear hk hlf bx hO
    go_wp2_with fail
    replace hO := hOh.out
    clear hOh c_bt
    refine tstepL hO hK (reg_write_p B p S2 rt me 0 _ hP hrt ⟨hm0, hm3⟩) (fun _ h => ⟨rfl, h⟩) ?_
    clear hO hK hP
    intro u S3 w3 hlf _ hP hk hK hO
    replace hN := Nat.lt_of_le_of_lt hlf hN
    replace bn := bn.keep hk
    replace bt := bt.keep hk
    have hOh := Lib.hid hO
    clear hk hlf hO
    go_wp2_with fail
    go_loopw [] (fun wr => ∃ (n : Nat) (S4 : TS), Plays B wr p S4 ∧ KeepP B p w wr ∧ HeldP wr p z (.cells #[.int .i64 q1.kind, .int .i64 q1.base, .int .i64 q1.loc, .int .i64 q1.n, .int .i64 q1.wr, .int .i64 q1.rd, .int .i64 q1.top] 56) ∧ HeldP wr p y (.cells #[.int .i64 rt.kind, .int .i64 rt.base, .int .i64 rt.loc, .int .i64 rt.n, .int .i64 rt.wr, .int .i64 rt.rd, .int .i64 rt.top] 56) ∧ Hid (Owes R encU B p w ((arbSpin q1 rt 0 me n).run S4)) ∧ S4.left < n) (fun wr => leftW 1 3 wr p)
    case atStart => exact ⟨N, S3, hP, hK, bn, bt, hOh, hN⟩
    case round =>
      clear hP hK bn bt hOh hN
      obtain ⟨n, S4, hP, hK, bn, bt, hO, hN⟩ := hrel
      replace hO := hO.out
      have hlw := Lib.hid hP.left
      cases n with
      | zero => omega
      | succ n =>
        rw [arbSpin_succ] at hO
        have c_bn := bn.cells
        have hOh := Lib.hid hO
        clear hO
        go_wp2_with fail
        replace hO := hOh.out
        clear hOh c_bn
        refine tstepL hO hK (reg_read_p B p S4 q1 me _ hP hq1 ⟨hm0, by omega⟩) (fun _ h => ⟨rfl, h⟩) ?_
        clear hO hK hP
        intro v S5 w4 _ hlf hP hk hK hO
        replace hlf := hlf (asks_regR _ _ ht1)
        replace bn := bn.keep hk
        replace bt := bt.keep hk
        clear hk
        by_cases hv : v = 0
        · rw [if_pos hv] at hO
          subst hv
          have hf : R (.returned (encU ())) w4 := hO.done hP hK
          clear hO hP hK bn bt
          go_wp2_with fail
          first | exact hf | (refine bodyPost_ret (results_none rfl _ _ _) rfl ?_; exact hf)
        · rw [if_neg hv] at hO
          have hv2 : (v == 0) = false := by rw [beq_eq_false_iff_ne]; exact hv
          have c_bt := bt.cells
          have hOh := Lib.hid hO
          clear hv hO
          go_wp2_with fail
          replace hO := hOh.out
          clear hOh c_bt
          refine tstepL hO hK (reg_read_p B p S5 rt me _ hP hrt ⟨hm0, hm3⟩) (fun _ h => ⟨rfl, h⟩) ?_
          clear hO hK hP
          intro y0 S6 w5 hlf2 _ hP hk hK hO
          replace bn := bn.keep hk
          replace bt := bt.keep hk
          clear hk
          by_cases hy : y0 = 0
          · rw [if_pos hy] at hO
            have hy2 : (y0 != 0) = false := by simpa using hy
            have c_bn := bn.cells
            have hOh := Lib.hid hO
            clear hy hO
            go_wp2_with fail
            refine (cells_pm q1 me _ hq1 ht1 ⟨hm0, by omega⟩).mono ?_
            rintro e w6 ⟨cc, rfl, hcc, hx⟩
            replace bn := bn.ext hx hP.lt
            replace bt := bt.ext hx hP.lt
            replace hK := hK.trans (Keep.of_ext hx hP.lt hP.le)
            replace hP := hP.ext hx
            clear hx c_bn
            have hlw2 := Lib.hid hP.left
            go_wp2_with fail
            refine ⟨⟨n, S6, hP, hK, bn, bt, hOh, by omega⟩, ?_⟩
            rw [hlw.out, hlw2.out]
            omega
          · rw [if_neg hy] at hO
            have hy2 : (y0 != 0) = true := by simpa using hy
            have hf : R (.returned (encU ())) w5 := hO.done hP hK
            clear hO hP hK bn bt hy
            go_wp2_with fail
            first | exact hf | (refine bodyPost_ret (results_none rfl _ _ _) rfl ?_; exact hf)
set_option maxRecDepth 100000 in
set_option maxHeartbeats 1000000 in
theorem arb_enter_p1 (B p N : Nat) (S : TS) (q0 q1 rt : Reg) (side me : Int) (b c : Nat) (w : World) (h : Plays B w p S) (hl : RegsAt [2, 3, 4] w p b [q0, q1, rt]) (hq0 : q0.ok) (hq1 : q1.ok) (hrt : rt.ok)
    (hm0 : 0 ≤ me) (hm1 : me < q0.n) (hm2 : me < q1.n) (hm3 : me < rt.n) (ht1 : q0.told me) (hN : S.left < N) (hs : bitM side = 1) :
    Calls Try.prog 192 #[.pointer (some ⟨p, 0, none⟩), .slice (some ⟨b, 0, none⟩) 3 c, .int .i64 side, .int .i64 me] w (Post encU B p w ((arbEnter N q1 q0 rt 1 me).run S)) := by
  generalize hR : Post encU B p w ((arbEnter N q1 q0 rt 1 me).run S) = R
  have hO : Owes R encU B p w ((arbEnter N q1 q0 rt 1 me).run S) := hR ▸ owes _ _ _ _ _
  clear hR
  have hP := h
  clear h
  unfold arbEnter at hO
  have hb := abit_p side
  rw [hs] at hb
  clear hs
  have hS : ∀ w', RegsAt [2, 3, 4] w' p b [q0, q1, rt] → ((w'.cell? ⟨b, 0, none⟩ = some (.int .i64 q0.kind) ∧ w'.cell? ⟨b, 1, none⟩ = some (.int .i64 q0.base) ∧ w'.cell? ⟨b, 2, none⟩ = some (.int .i64 q0.loc) ∧ w'.cell? ⟨b, 3, none⟩ = some (.int .i64 q0.n) ∧ w'.cell? ⟨b, 4, none⟩ = some (.int .i64 q0.wr) ∧ w'.cell? ⟨b, 5, none⟩ = some (.int .i64 q0.rd) ∧ w'.cell? ⟨b, 6, none⟩ = some (.int .i64 q0.top)) ∧ (w'.cell? ⟨b, 7, none⟩ = some (.int .i64 q1.kind) ∧ w'.cell? ⟨b, 8, none⟩ = some (.int .i64 q1.base) ∧ w'.cell? ⟨b, 9, none⟩ = some (.int .i64 q1.loc) ∧ w'.cell? ⟨b, 10, none⟩ = some (.int .i64 q1.n) ∧ w'.cell? ⟨b, 11, none⟩ = some (.int .i64 q1.wr) ∧ w'.cell? ⟨b, 12, none⟩ = some (.int .i64 q1.rd) ∧ w'.cell? ⟨b, 13, none⟩ = some (.int .i64 q1.top)) ∧ (w'.cell? ⟨b, 14, none⟩ = some (.int .i64 rt.kind) ∧ w'.cell? ⟨b, 15, none⟩ = some (.int .i64 rt.base) ∧ w'.cell? ⟨b, 16, none⟩ = some (.int .i64 rt.loc) ∧ w'.cell? ⟨b, 17, none⟩ = some (.int .i64 rt.n) ∧ w'.cell? ⟨b, 18, none⟩ = some (.int .i64 rt.wr) ∧ w'.cell? ⟨b, 19, none⟩ = some (.int .i64 rt.rd) ∧ w'.cell? ⟨b, 20, none⟩ = some (.int .i64 rt.top))) := fun w' y => by
    obtain ⟨⟨a0, a1, a2, a3, a4, a5, a6⟩, ⟨e0, e1, e2, e3, e4, e5, e6⟩, ⟨f0, f1, f2, f3, f4, f5, f6⟩⟩ := y.three
    exact ⟨⟨a0, a1, a2, a3, a4, a5, a6⟩, ⟨e0, e1, e2, e3, e4, e5, e6⟩, ⟨f0, f1, f2, f3, f4, f5, f6⟩⟩
  go_enter Try.func192, Try.ntmps192
  go_wp2_with fail
  have hOh := Lib.hid hO
  have hbh := Lib.hid hb
  clear hO hb
  go_upto_region 1 with fail
  go_cut [8, 9] (fun s8 s9 wx => ∃ (x y : Nat), s8 = .pointer (some ⟨x, 0, none⟩) ∧ s9 = .pointer (some ⟨y, 0, none⟩) ∧ HeldP wx p x (.cells #[.int .i64 q0.kind, .int .i64 q0.base, .int .i64 q0.loc, .int .i64 q0.n, .int .i64 q0.wr, .int .i64 q0.rd, .int .i64 q0.top, .int .i64 q1.kind, .int .i64 q1.base, .int .i64 q1.loc, .int .i64 q1.n, .int .i64 q1.wr, .int .i64 q1.rd, .int .i64 q1.top] 170) ∧ HeldP wx p y (.cells #[.int .i64 rt.kind, .int .i64 rt.base, .int .i64 rt.loc, .int .i64 rt.n, .int .i64 rt.wr, .int .i64 rt.rd, .int .i64 rt.top] 56) ∧ Plays B wx p S ∧ KeepP B p w wx ∧ RegsAt [2, 3, 4] wx p b [q0, q1, rt])
  case first =>
    have hl2 := hl.extL (Ext.refl w).drew hP.lt
    obtain ⟨⟨a0, a1, a2, a3, a4, a5, a6⟩, ⟨e0, e1, e2, e3, e4, e5, e6⟩, ⟨f0, f1, f2, f3, f4, f5, f6⟩⟩ := hl.three
    go_region_held2 (fun w' => ((w'.cell? ⟨b, 0, none⟩ = some (.int .i64 q0.kind) ∧ w'.cell? ⟨b, 1, none⟩ = some (.int .i64 q0.base) ∧ w'.cell? ⟨b, 2, none⟩ = some (.int .i64 q0.loc) ∧ w'.cell? ⟨b, 3, none⟩ = some (.int .i64 q0.n) ∧ w'.cell? ⟨b, 4, none⟩ = some (.int .i64 q0.wr) ∧ w'.cell? ⟨b, 5, none⟩ = some (.int .i64 q0.rd) ∧ w'.cell? ⟨b, 6, none⟩ = some (.int .i64 q0.top)) ∧ (w'.cell? ⟨b, 7, none⟩ = some (.int .i64 q1.kind) ∧ w'.cell? ⟨b, 8, none⟩ = some (.int .i64 q1.base) ∧ w'.cell? ⟨b, 9, none⟩ = some (.int .i64 q1.loc) ∧ w'.cell? ⟨b, 10, none⟩ = some (.int .i64 q1.n) ∧ w'.cell? ⟨b, 11, none⟩ = some (.int .i64 q1.wr) ∧ w'.cell? ⟨b, 12, none⟩ = some (.int .i64 q1.rd) ∧ w'.cell? ⟨b, 13, none⟩ = some (.int .i64 q1.top)) ∧ (w'.cell? ⟨b, 14, none⟩ = some (.int .i64 rt.kind) ∧ w'.cell? ⟨b, 15, none⟩ = some (.int .i64 rt.base) ∧ w'.cell? ⟨b, 16, none⟩ = some (.int .i64 rt.loc) ∧ w'.cell? ⟨b, 17, none⟩ = some (.int .i64 rt.n) ∧ w'.cell? ⟨b, 18, none⟩ = some (.int .i64 rt.wr) ∧ w'.cell? ⟨b, 19, none⟩ = some (.int .i64 rt.rd) ∧ w'.cell? ⟨b, 20, none⟩ = some (.int .i64 rt.top)))) (first | with_reducible exact hS _ hl2 | go_keep) (fail)
    · rename_i hh
      clear hh
      obtain ⟨b1, b2, hP2, hK2, hl3⟩ := two_held hP hl (.cells #[.int .i64 q0.kind, .int .i64 q0.base, .int .i64 q0.loc, .int .i64 q0.n, .int .i64 q0.wr, .int .i64 q0.rd, .int .i64 q0.top, .int .i64 q1.kind, .int .i64 q1.base, .int .i64 q1.loc, .int .i64 q1.n, .int .i64 q1.wr, .int .i64 q1.rd, .int .i64 q1.top] 170) (.cells #[.int .i64 rt.kind, .int .i64 rt.base, .int .i64 rt.loc, .int .i64 rt.n, .int .i64 rt.wr, .int .i64 rt.rd, .int .i64 rt.top] 56)
      clear hS hl2 hl hP a0 a1 a2 a3 a4 a5 a6 e0 e1 e2 e3 e4 e5 e6 f0 f1 f2 f3 f4 f5 f6
      go_wp2_with fail
      go_meet
      exact ⟨_, _, rfl, rfl, b1, b2, hP2, hK2, hl3⟩
    · rename_i hh
      clear hh
      obtain ⟨b2, b1, hP2, hK2, hl3⟩ := two_held hP hl (.cells #[.int .i64 rt.kind, .int .i64 rt.base, .int .i64 rt.loc, .int .i64 rt.n, .int .i64 rt.wr, .int .i64 rt.rd, .int .i64 rt.top] 56) (.cells #[.int .i64 q0.kind, .int .i64 q0.base, .int .i64 q0.loc, .int .i64 q0.n, .int .i64 q0.wr, .int .i64 q0.rd, .int .i64 q0.top, .int .i64 q1.kind, .int .i64 q1.base, .int .i64 q1.loc, .int .i64 q1.n, .int .i64 q1.wr, .int .i64 q1.rd, .int .i64 q1.top] 170)
      clear hS hl2 hl hP a0 a1 a2 a3 a4 a5 a6 e0 e1 e2 e3 e4 e5 e6 f0 f1 f2 f3 f4 f5 f6
      go_wp2_with fail
      go_meet
      exact ⟨_, _, rfl, rfl, b1, b2, hP2, hK2, hl3⟩
  case rest =>
    clear hS hl hP
    obtain ⟨x, y, rfl, rfl, bx, bt, hP, hK, -⟩ := hcut
    go_wp2_with fail
    refine (hbh.out _).mono ?_
    rintro e w' ⟨rfl, rfl⟩
    have c_bx := bx.cells
    clear hbh
    have hPo := hP
    have bn := hP.held (.cells #[.int .i64 q0.kind, .int .i64 q0.base, .int .i64 q0.loc, .int .i64 q0.n, .int .i64 q0.wr, .int .i64 q0.rd, .int .i64 q0.top] 56)
    have hKn := hK.trans (Keep.alloc (.cells #[.int .i64 q0.kind, .int .i64 q0.base, .int .i64 q0.loc, .int .i64 q0.n, .int .i64 q0.wr, .int .i64 q0.rd, .int .i64 q0.top] 56) hP.lt hP.le)
    have hPn := hP.alloc (.cells #[.int .i64 q0.kind, .int .i64 q0.base, .int .i64 q0.loc, .int .i64 q0.n, .int .i64 q0.wr, .int .i64 q0.rd, .int .i64 q0.top] 56)
    have bxn := bx.alloc (.cells #[.int .i64 q0.kind, .int .i64 q0.base, .int .i64 q0.loc, .int .i64 q0.n, .int .i64 q0.wr, .int .i64 q0.rd, .int .i64 q0.top] 56) hP.lt
    have btn := bt.alloc (.cells #[.int .i64 q0.kind, .int .i64 q0.base, .int .i64 q0.loc, .int .i64 q0.n, .int .i64 q0.wr, .int .i64 q0.rd, .int .i64 q0.top] 56) hP.lt
    clear hP hK bx bt hPo
    have c_bxn := bxn.cells
    go_wp2_with fail
    clear c_bx c_bxn
    generalize hzn : wc.heap.size = z at *
    generalize wc.alloc _ = W at *
    clear hzn
    have hP := hPn
    have hK := hKn
    have bx := bxn
    have bt := btn
    clear hPn hKn bxn btn
    replace hO := hOh.out
    clear hOh
    refine tstepL hO hK (reg_write_p B p S q1 me 1 _ hP hq1 ⟨hm0, by omega⟩) (fun _ h => ⟨rfl, h⟩) ?_
    clear hO hK hP
    intro u S2 w2 hlf _ hP hk hK hO
    replace hN := Nat.lt_of_le_of_lt hlf hN
    replace bn := bn.keep hk
    replace bt := bt.keep hk
    have c_bt := bt.cells
    have hOh := Lib.hid hO
    clear hk hlf bx hO
    go_wp2_with fail
    replace hO := hOh.out
    clear hOh c_bt
    refine tstepL hO hK (reg_write_p B p S2 rt me 1 _ hP hrt ⟨hm0, hm3⟩) (fun _ h => ⟨rfl, h⟩) ?_
    clear hO hK hP
    intro u S3 w3 hlf _ hP hk hK hO
    replace hN := Nat.lt_of_le_of_lt hlf hN
    replace bn := bn.keep hk
    replace bt := bt.keep hk
    have hOh := Lib.hid hO
    clear hk hlf hO
    go_wp2_with fail
    go_loopw [] (fun wr => ∃ (n : Nat) (S4 : TS), Plays B wr p S4 ∧ KeepP B p w wr ∧ HeldP wr p z (.cells #[.int .i64 q0.kind, .int .i64 q0.base, .int .i64 q0.loc, .int .i64 q0.n, .int .i64 q0.wr, .int .i64 q0.rd, .int .i64 q0.top] 56) ∧ HeldP wr p y (.cells #[.int .i64 rt.kind, .int .i64 rt.base, .int .i64 rt.loc, .int .i64 rt.n, .int .i64 rt.wr, .int .i64 rt.rd, .int .i64 rt.top] 56) ∧ Hid (Owes R encU B p w ((arbSpin q0 rt 1 me n).run S4)) ∧ S4.left < n) (fun wr => leftW 1 3 wr p)
    case atStart => exact ⟨N, S3, hP, hK, bn, bt, hOh, hN⟩
    case round =>
      clear hP hK bn bt hOh hN
      obtain ⟨n, S4, hP, hK, bn, bt, hO, hN⟩ := hrel
      replace hO := hO.out
      have hlw := Lib.hid hP.left
      cases n with
      | zero => omega
      | succ n =>
        rw [arbSpin_succ] at hO
        have c_bn := bn.cells
        have hOh := Lib.hid hO
        clear hO
        go_wp2_with fail
        replace hO := hOh.out
        clear hOh c_bn
        refine tstepL hO hK (reg_read_p B p S4 q0 me _ hP hq0 ⟨hm0, by omega⟩) (fun _ h => ⟨rfl, h⟩) ?_
        clear hO hK hP
        intro v S5 w4 _ hlf hP hk hK hO
        replace hlf := hlf (asks_regR _ _ ht1)
        replace bn := bn.keep hk
        replace bt := bt.keep hk
        clear hk
        by_cases hv : v = 0
        · rw [if_pos hv] at hO
          subst hv
          have hf : R (.returned (encU ())) w4 := hO.done hP hK
          clear hO hP hK bn bt
          go_wp2_with fail
          first | exact hf | (refine bodyPost_ret (results_none rfl _ _ _) rfl ?_; exact hf)
        · rw [if_neg hv] at hO
          have hv2 : (v == 0) = false := by rw [beq_eq_false_iff_ne]; exact hv
          have c_bt := bt.cells
          have hOh := Lib.hid hO
          clear hv hO
          go_wp2_with fail
          replace hO := hOh.out
          clear hOh c_bt
          refine tstepL hO hK (reg_read_p B p S5 rt me _ hP hrt ⟨hm0, hm3⟩) (fun _ h => ⟨rfl, h⟩) ?_
          clear hO hK hP
          intro y0 S6 w5 hlf2 _ hP hk hK hO
          replace bn := bn.keep hk
          replace bt := bt.keep hk
          clear hk
          by_cases hy : y0 = 1
          · rw [if_pos hy] at hO
            have hy2 : (y0 != 1) = false := by simpa using hy
            have c_bn := bn.cells
            have hOh := Lib.hid hO
            clear hy hO
            go_wp2_with fail
            refine (cells_pm q0 me _ hq0 ht1 ⟨hm0, by omega⟩).mono ?_
            rintro e w6 ⟨cc, rfl, hcc, hx⟩
            replace bn := bn.ext hx hP.lt
            replace bt := bt.ext hx hP.lt
            replace hK := hK.trans (Keep.of_ext hx hP.lt hP.le)
            replace hP := hP.ext hx
            clear hx c_bn
            have hlw2 := Lib.hid hP.left
            go_wp2_with fail
            refine ⟨⟨n, S6, hP, hK, bn, bt, hOh, by omega⟩, ?_⟩
            rw [hlw.out, hlw2.out]
            omega
          · rw [if_neg hy] at hO
            have hy2 : (y0 != 1) = true := by simpa using hy
            have hf : R (.returned (encU ())) w5 := hO.done hP hK
            clear hO hP hK bn bt hy
            go_wp2_with fail
            first | exact hf | (refine bodyPost_ret (results_none rfl _ _ _) rfl ?_; exact hf)
set_option maxRecDepth 100000 in
theorem arb_leave_p0 (B p : Nat) (S : TS) (q0 q1 rt : Reg) (side me : Int) (b c : Nat) (w : World) (h : Plays B w p S) (hl : RegsAt [2, 3, 4] w p b [q0, q1, rt]) (hq : q0.ok)
    (hm0 : 0 ≤ me) (hm1 : me < q0.n) (hs : bitM side = 0) :
    Calls Try.prog 193 #[.pointer (some ⟨p, 0, none⟩), .slice (some ⟨b, 0, none⟩) 3 c, .int .i64 side, .int .i64 me] w (Post encU B p w ((regW q0 me 0).run S)) := by
  generalize hR : Post encU B p w ((regW q0 me 0).run S) = R
  have hO : Owes R encU B p w ((regW q0 me 0).run S) := hR ▸ owes _ _ _ _ _
  clear hR
  have hK := Keep.refl [2, 3, 4] B p w
  have hP := h
  clear h
  have hb := abit_p side
  rw [hs] at hb
  clear hs
  have hS : ∀ w', RegsAt [2, 3, 4] w' p b [q0, q1, rt] → ((w'.cell? ⟨b, 0, none⟩ = some (.int .i64 q0.kind) ∧ w'.cell? ⟨b, 1, none⟩ = some (.int .i64 q0.base) ∧ w'.cell? ⟨b, 2, none⟩ = some (.int .i64 q0.loc) ∧ w'.cell? ⟨b, 3, none⟩ = some (.int .i64 q0.n) ∧ w'.cell? ⟨b, 4, none⟩ = some (.int .i64 q0.wr) ∧ w'.cell? ⟨b, 5, none⟩ = some (.int .i64 q0.rd) ∧ w'.cell? ⟨b, 6, none⟩ = some (.int .i64 q0.top)) ∧ (w'.cell? ⟨b, 7, none⟩ = some (.int .i64 q1.kind) ∧ w'.cell? ⟨b, 8, none⟩ = some (.int .i64 q1.base) ∧ w'.cell? ⟨b, 9, none⟩ = some (.int .i64 q1.loc) ∧ w'.cell? ⟨b, 10, none⟩ = some (.int .i64 q1.n) ∧ w'.cell? ⟨b, 11, none⟩ = some (.int .i64 q1.wr) ∧ w'.cell? ⟨b, 12, none⟩ = some (.int .i64 q1.rd) ∧ w'.cell? ⟨b, 13, none⟩ = some (.int .i64 q1.top)) ∧ (w'.cell? ⟨b, 14, none⟩ = some (.int .i64 rt.kind) ∧ w'.cell? ⟨b, 15, none⟩ = some (.int .i64 rt.base) ∧ w'.cell? ⟨b, 16, none⟩ = some (.int .i64 rt.loc) ∧ w'.cell? ⟨b, 17, none⟩ = some (.int .i64 rt.n) ∧ w'.cell? ⟨b, 18, none⟩ = some (.int .i64 rt.wr) ∧ w'.cell? ⟨b, 19, none⟩ = some (.int .i64 rt.rd) ∧ w'.cell? ⟨b, 20, none⟩ = some (.int .i64 rt.top))) := fun w' y => by
    obtain ⟨⟨a0, a1, a2, a3, a4, a5, a6⟩, ⟨e0, e1, e2, e3, e4, e5, e6⟩, ⟨f0, f1, f2, f3, f4, f5, f6⟩⟩ := y.three
    exact ⟨⟨a0, a1, a2, a3, a4, a5, a6⟩, ⟨e0, e1, e2, e3, e4, e5, e6⟩, ⟨f0, f1, f2, f3, f4, f5, f6⟩⟩
  go_enter Try.func193, Try.ntmps193
  go_wp2_with fail
  have hOh := Lib.hid hO
  have hbh := Lib.hid hb
  clear hO hb
  have hl2 := hl.extL (Ext.refl w).drew hP.lt
  obtain ⟨⟨a0, a1, a2, a3, a4, a5, a6⟩, ⟨e0, e1, e2, e3, e4, e5, e6⟩, ⟨f0, f1, f2, f3, f4, f5, f6⟩⟩ := hl.three
  go_region_held2 (fun w' => ((w'.cell? ⟨b, 0, none⟩ = some (.int .i64 q0.kind) ∧ w'.cell? ⟨b, 1, none⟩ = some (.int .i64 q0.base) ∧ w'.cell? ⟨b, 2, none⟩ = some (.int .i64 q0.loc) ∧ w'.cell? ⟨b, 3, none⟩ = some (.int .i64 q0.n) ∧ w'.cell? ⟨b, 4, none⟩ = some (.int .i64 q0.wr) ∧ w'.cell? ⟨b, 5, none⟩ = some (.int .i64 q0.rd) ∧ w'.cell? ⟨b, 6, none⟩ = some (.int .i64 q0.top)) ∧ (w'.cell? ⟨b, 7, none⟩ = some (.int .i64 q1.kind) ∧ w'.cell? ⟨b, 8, none⟩ = some (.int .i64 q1.base) ∧ w'.cell? ⟨b, 9, none⟩ = some (.int .i64 q1.loc) ∧ w'.cell? ⟨b, 10, none⟩ = some (.int .i64 q1.n) ∧ w'.cell? ⟨b, 11, none⟩ = some (.int .i64 q1.wr) ∧ w'.cell? ⟨b, 12, none⟩ = some (.int .i64 q1.rd) ∧ w'.cell? ⟨b, 13, none⟩ = some (.int .i64 q1.top)) ∧ (w'.cell? ⟨b, 14, none⟩ = some (.int .i64 rt.kind) ∧ w'.cell? ⟨b, 15, none⟩ = some (.int .i64 rt.base) ∧ w'.cell? ⟨b, 16, none⟩ = some (.int .i64 rt.loc) ∧ w'.cell? ⟨b, 17, none⟩ = some (.int .i64 rt.n) ∧ w'.cell? ⟨b, 18, none⟩ = some (.int .i64 rt.wr) ∧ w'.cell? ⟨b, 19, none⟩ = some (.int .i64 rt.rd) ∧ w'.cell? ⟨b, 20, none⟩ = some (.int .i64 rt.top)))) (first | with_reducible exact hS _ hl2 | go_keep) (fail)
  rename_i hh
  clear hh
  have bx := (hP.held (.cells #[.int .i64 q0.kind, .int .i64 q0.base, .int .i64 q0.loc, .int .i64 q0.n, .int .i64 q0.wr, .int .i64 q0.rd, .int .i64 q0.top, .int .i64 q1.kind, .int .i64 q1.base, .int .i64 q1.loc, .int .i64 q1.n, .int .i64 q1.wr, .int .i64 q1.rd, .int .i64 q1.top] 170)).drew
  replace hK := (hK.trans (Keep.alloc (.cells #[.int .i64 q0.kind, .int .i64 q0.base, .int .i64 q0.loc, .int .i64 q0.n, .int .i64 q0.wr, .int .i64 q0.rd, .int .i64 q0.top, .int .i64 q1.kind, .int .i64 q1.base, .int .i64 q1.loc, .int .i64 q1.n, .int .i64 q1.wr, .int .i64 q1.rd, .int .i64 q1.top] 170) hP.lt hP.le)).drew
  replace hP := (hP.alloc (.cells #[.int .i64 q0.kind, .int .i64 q0.base, .int .i64 q0.loc, .int .i64 q0.n, .int .i64 q0.wr, .int .i64 q0.rd, .int .i64 q0.top, .int .i64 q1.kind, .int .i64 q1.base, .int .i64 q1.loc, .int .i64 q1.n, .int .i64 q1.wr, .int .i64 q1.rd, .int .i64 q1.top] 170)).drew
  clear hS hl2 hl a0 a1 a2 a3 a4 a5 a6 e0 e1 e2 e3 e4 e5 e6 f0 f1 f2 f3 f4 f5 f6
  have c_bx := bx.cells
  go_wp2_with fail
  refine (hbh.out _).mono ?_
  rintro e w' ⟨rfl, rfl⟩
  go_wp2_with fail
  replace hO := hOh.out
  clear hOh c_bx bx
  refine tlast hO hK (reg_write_p B p S q0 me 0 _ hP hq ⟨hm0, hm1⟩) (fun _ h => ⟨rfl, h⟩) ?_
  clear hO hK hP
  intro u S2 w3 hr hP hk hK hO
  have hf := hO.done hP hK
  clear hO hP hK hr hk
  go_wp2_with fail
  first | exact hf | (refine bodyPost_ret (results_none rfl _ _ _) rfl ?_; exact hf)
set_option maxRecDepth 100000 in
theorem arb_leave_p1 (B p : Nat) (S : TS) (q0 q1 rt : Reg) (side me : Int) (b c : Nat) (w : World) (h : Plays B w p S) (hl : RegsAt [2, 3, 4] w p b [q0, q1, rt]) (hq : q1.ok)
    (hm0 : 0 ≤ me) (hm1 : me < q1.n) (hs : bitM side = 1) :
    Calls Try.prog 193 #[.pointer (some ⟨p, 0, none⟩), .slice (some ⟨b, 0, none⟩) 3 c, .int .i64 side, .int .i64 me] w (Post encU B p w ((regW q1 me 0).run S)) := by
  generalize hR : Post encU B p w ((regW q1 me 0).run S) = R
  have hO : Owes R encU B p w ((regW q1 me 0).run S) := hR ▸ owes _ _ _ _ _
  clear hR
  have hK := Keep.refl [2, 3, 4] B p w
  have hP := h
  clear h
  have hb := abit_p side
  rw [hs] at hb
  clear hs
  have hS : ∀ w', RegsAt [2, 3, 4] w' p b [q0, q1, rt] → ((w'.cell? ⟨b, 0, none⟩ = some (.int .i64 q0.kind) ∧ w'.cell? ⟨b, 1, none⟩ = some (.int .i64 q0.base) ∧ w'.cell? ⟨b, 2, none⟩ = some (.int .i64 q0.loc) ∧ w'.cell? ⟨b, 3, none⟩ = some (.int .i64 q0.n) ∧ w'.cell? ⟨b, 4, none⟩ = some (.int .i64 q0.wr) ∧ w'.cell? ⟨b, 5, none⟩ = some (.int .i64 q0.rd) ∧ w'.cell? ⟨b, 6, none⟩ = some (.int .i64 q0.top)) ∧ (w'.cell? ⟨b, 7, none⟩ = some (.int .i64 q1.kind) ∧ w'.cell? ⟨b, 8, none⟩ = some (.int .i64 q1.base) ∧ w'.cell? ⟨b, 9, none⟩ = some (.int .i64 q1.loc) ∧ w'.cell? ⟨b, 10, none⟩ = some (.int .i64 q1.n) ∧ w'.cell? ⟨b, 11, none⟩ = some (.int .i64 q1.wr) ∧ w'.cell? ⟨b, 12, none⟩ = some (.int .i64 q1.rd) ∧ w'.cell? ⟨b, 13, none⟩ = some (.int .i64 q1.top)) ∧ (w'.cell? ⟨b, 14, none⟩ = some (.int .i64 rt.kind) ∧ w'.cell? ⟨b, 15, none⟩ = some (.int .i64 rt.base) ∧ w'.cell? ⟨b, 16, none⟩ = some (.int .i64 rt.loc) ∧ w'.cell? ⟨b, 17, none⟩ = some (.int .i64 rt.n) ∧ w'.cell? ⟨b, 18, none⟩ = some (.int .i64 rt.wr) ∧ w'.cell? ⟨b, 19, none⟩ = some (.int .i64 rt.rd) ∧ w'.cell? ⟨b, 20, none⟩ = some (.int .i64 rt.top))) := fun w' y => by
    obtain ⟨⟨a0, a1, a2, a3, a4, a5, a6⟩, ⟨e0, e1, e2, e3, e4, e5, e6⟩, ⟨f0, f1, f2, f3, f4, f5, f6⟩⟩ := y.three
    exact ⟨⟨a0, a1, a2, a3, a4, a5, a6⟩, ⟨e0, e1, e2, e3, e4, e5, e6⟩, ⟨f0, f1, f2, f3, f4, f5, f6⟩⟩
  go_enter Try.func193, Try.ntmps193
  go_wp2_with fail
  have hOh := Lib.hid hO
  have hbh := Lib.hid hb
  clear hO hb
  have hl2 := hl.extL (Ext.refl w).drew hP.lt
  obtain ⟨⟨a0, a1, a2, a3, a4, a5, a6⟩, ⟨e0, e1, e2, e3, e4, e5, e6⟩, ⟨f0, f1, f2, f3, f4, f5, f6⟩⟩ := hl.three
  go_region_held2 (fun w' => ((w'.cell? ⟨b, 0, none⟩ = some (.int .i64 q0.kind) ∧ w'.cell? ⟨b, 1, none⟩ = some (.int .i64 q0.base) ∧ w'.cell? ⟨b, 2, none⟩ = some (.int .i64 q0.loc) ∧ w'.cell? ⟨b, 3, none⟩ = some (.int .i64 q0.n) ∧ w'.cell? ⟨b, 4, none⟩ = some (.int .i64 q0.wr) ∧ w'.cell? ⟨b, 5, none⟩ = some (.int .i64 q0.rd) ∧ w'.cell? ⟨b, 6, none⟩ = some (.int .i64 q0.top)) ∧ (w'.cell? ⟨b, 7, none⟩ = some (.int .i64 q1.kind) ∧ w'.cell? ⟨b, 8, none⟩ = some (.int .i64 q1.base) ∧ w'.cell? ⟨b, 9, none⟩ = some (.int .i64 q1.loc) ∧ w'.cell? ⟨b, 10, none⟩ = some (.int .i64 q1.n) ∧ w'.cell? ⟨b, 11, none⟩ = some (.int .i64 q1.wr) ∧ w'.cell? ⟨b, 12, none⟩ = some (.int .i64 q1.rd) ∧ w'.cell? ⟨b, 13, none⟩ = some (.int .i64 q1.top)) ∧ (w'.cell? ⟨b, 14, none⟩ = some (.int .i64 rt.kind) ∧ w'.cell? ⟨b, 15, none⟩ = some (.int .i64 rt.base) ∧ w'.cell? ⟨b, 16, none⟩ = some (.int .i64 rt.loc) ∧ w'.cell? ⟨b, 17, none⟩ = some (.int .i64 rt.n) ∧ w'.cell? ⟨b, 18, none⟩ = some (.int .i64 rt.wr) ∧ w'.cell? ⟨b, 19, none⟩ = some (.int .i64 rt.rd) ∧ w'.cell? ⟨b, 20, none⟩ = some (.int .i64 rt.top)))) (first | with_reducible exact hS _ hl2 | go_keep) (fail)
  rename_i hh
  clear hh
  have bx := (hP.held (.cells #[.int .i64 q0.kind, .int .i64 q0.base, .int .i64 q0.loc, .int .i64 q0.n, .int .i64 q0.wr, .int .i64 q0.rd, .int .i64 q0.top, .int .i64 q1.kind, .int .i64 q1.base, .int .i64 q1.loc, .int .i64 q1.n, .int .i64 q1.wr, .int .i64 q1.rd, .int .i64 q1.top] 170)).drew
  replace hK := (hK.trans (Keep.alloc (.cells #[.int .i64 q0.kind, .int .i64 q0.base, .int .i64 q0.loc, .int .i64 q0.n, .int .i64 q0.wr, .int .i64 q0.rd, .int .i64 q0.top, .int .i64 q1.kind, .int .i64 q1.base, .int .i64 q1.loc, .int .i64 q1.n, .int .i64 q1.wr, .int .i64 q1.rd, .int .i64 q1.top] 170) hP.lt hP.le)).drew
  replace hP := (hP.alloc (.cells #[.int .i64 q0.kind, .int .i64 q0.base, .int .i64 q0.loc, .int .i64 q0.n, .int .i64 q0.wr, .int .i64 q0.rd, .int .i64 q0.top, .int .i64 q1.kind, .int .i64 q1.base, .int .i64 q1.loc, .int .i64 q1.n, .int .i64 q1.wr, .int .i64 q1.rd, .int .i64 q1.top] 170)).drew
  clear hS hl2 hl a0 a1 a2 a3 a4 a5 a6 e0 e1 e2 e3 e4 e5 e6 f0 f1 f2 f3 f4 f5 f6
  have c_bx := bx.cells
  go_wp2_with fail
  refine (hbh.out _).mono ?_
  rintro e w' ⟨rfl, rfl⟩
  go_wp2_with fail
  replace hO := hOh.out
  clear hOh c_bx bx
  refine tlast hO hK (reg_write_p B p S q1 me 0 _ hP hq ⟨hm0, hm1⟩) (fun _ h => ⟨rfl, h⟩) ?_
  clear hO hK hP
  intro u S2 w3 hr hP hk hK hO
  have hf := hO.done hP hK
  clear hO hP hK hr hk
  go_wp2_with fail
  first | exact hf | (refine bodyPost_ret (results_none rfl _ _ _) rfl ?_; exact hf)
theorem arb_enter_p (B p N : Nat) (S : TS) (q0 q1 rt : Reg) (side me : Int) (b c : Nat) (w : World) (h : Plays B w p S) (hl : RegsAt [2, 3, 4] w p b [q0, q1, rt]) (hq0 : q0.ok) (hq1 : q1.ok) (hrt : rt.ok)
    (hm0 : 0 ≤ me) (hm1 : me < q0.n) (hm2 : me < q1.n) (hm3 : me < rt.n) (ht0 : q0.told me) (ht1 : q1.told me) (hN : S.left < N) :
    Calls Try.prog 192 #[.pointer (some ⟨p, 0, none⟩), .slice (some ⟨b, 0, none⟩) 3 c, .int .i64 side, .int .i64 me] w (Post encU B p w ((arbM N q0 q1 rt side me).run S)) := by
  unfold arbM
  rcases bitM_or side with hs | hs
  · rw [if_neg (by omega)]
    exact arb_enter_p0 B p N S q0 q1 rt side me b c w h hl hq0 hq1 hrt hm0 hm1 hm2 hm3 ht1 hN hs
  · rw [if_pos hs]
    exact arb_enter_p1 B p N S q0 q1 rt side me b c w h hl hq0 hq1 hrt hm0 hm1 hm2 hm3 ht0 hN hs
theorem arb_leave_p (B p : Nat) (S : TS) (q0 q1 rt : Reg) (side me : Int) (b c : Nat) (w : World) (h : Plays B w p S) (hl : RegsAt [2, 3, 4] w p b [q0, q1, rt]) (hq0 : q0.ok) (hq1 : q1.ok)
    (hm0 : 0 ≤ me) (hm1 : me < q0.n) (hm2 : me < q1.n) :
    Calls Try.prog 193 #[.pointer (some ⟨p, 0, none⟩), .slice (some ⟨b, 0, none⟩) 3 c, .int .i64 side, .int .i64 me] w (Post encU B p w ((kesL q0 q1 side me).run S)) := by
  unfold kesL
  rcases bitM_or side with hs | hs
  · rw [hs, if_neg (by omega)]
    exact arb_leave_p0 B p S q0 q1 rt side me b c w h hl hq0 hm0 hm1 hs
  · rw [hs, if_pos rfl]
    exact arb_leave_p1 B p S q0 q1 rt side me b c w h hl hq1 hm0 hm2 hs
theorem awants_p (w : World) : Calls Try.prog 191 #[] w fun e w' => ∃ v, e = .returned v ∧ WantsAt w' v (List.replicate 3 ⟨-1, 1⟩) ∧ Ext w w' := by
  go_enter Try.func191, Try.ntmps191
  go_wp2_with fail
  go_loopw [1, 2] (fun v i wr => ∃ j : Nat, i = .int .i64 j ∧ j ≤ 3 ∧ wr.ownsRow w.heap.size 91 2 v j ((List.replicate j (⟨-1, 1⟩ : Want)).flatMap wantVals) ∧ Ext w wr) (fun _ i _ => 3 - (intOf i).toNat)
  case atStart => exact ⟨0, rfl, by omega, World.ownsRow_nil _ _ _ _, Ext.refl _⟩
  case round =>
    obtain ⟨j, rfl, hj, hown, hE⟩ := hrel
    by_cases hl : j < 3
    · go_wp2_with (at_builtin; refine append_rec info_want Try.underlying46 rfl (by decide) (by decide) rfl _ _ rfl _ j _ [.int .i64 (-1), .int .i64 1] hE hown rfl rfl rfl (by simp [Value.oneCell']) (by omega) ?_)
      intro v' w' ho hx _
      have hoh := Lib.hid ho
      clear hown ho
      go_wp2_with fail
      refine ⟨⟨j + 1, by go_num, by omega, ?_, hx⟩, ?_⟩
      · rw [List.replicate_succ', List.flatMap_append]; exact hoh.out
      · simp [intOf]; omega
    · obtain rfl : j = 3 := by omega
      have hownh := Lib.hid hown
      clear hown
      go_wp2_with fail
      go_ret
      exact ⟨_, rfl, Recs.of_row hownh.out, hE⟩
end Go.Proofs.Ytbphlkaihfbgeaa
