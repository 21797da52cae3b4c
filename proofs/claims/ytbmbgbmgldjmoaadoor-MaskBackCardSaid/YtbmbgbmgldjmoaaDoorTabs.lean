/-
  What the rows' lists of tables give: the tables' cells.
-/
import Derived.Test.YtbmbgbmgldjmoaaDoorCards
import Derived.Test.YtbmbgbmgldjmoaaDoorTie
import Derived.Test.YtbmbgbmgldjmoaaDoorFrame
import Derived.ProofKit
import Derived.OpenShut
import Derived.Deep.DeepHandedRow
namespace Go.Proofs.YtbmbgbmgldjmoaaDoor
open Go.ChangeShapes Go.WideShapes Go.ChangeAt Go.RowKit
theorem gPow : Tryd.prog.globalNamed "internal/strconv.uint64pow10" = some 1 := by kernel_rfl
theorem gPowType : (Tryd.prog.globals[1]?).map (·.type) = some 187 := by kernel_rfl
theorem cellsPow : Tryd.prog.cellsOf 187 = 20 := by kernel_rfl
theorem cellsU64 : Tryd.prog.cellsOf 51 = 1 := by kernel_rfl
theorem gBr : Tryd.prog.globalNamed "math/bits.deBruijn64tab" = some 0 := by kernel_rfl
theorem gBrType : (Tryd.prog.globals[0]?).map (·.type) = some 143 := by kernel_rfl
theorem cellsBr : Tryd.prog.cellsOf 143 = 64 := by kernel_rfl
theorem cellsU8 : Tryd.prog.cellsOf 5 = 1 := by kernel_rfl
theorem own : ownKnob Tryd.prog.godebug = none := by kernel_rfl
/-- The three tables, as each row of this seat lists them. -/
abbrev three : List (String × DataW Unit) := [("math/bits.deBruijn32tab", Rows.laid_math_bits_deBruijn32tab), ("math/bits.deBruijn64tab", Rows.laid_math_bits_deBruijn64tab), ("internal/strconv.uint64pow10", Rows.laid_internal_strconv_uint64pow10)]
theorem tabs_of {W : World} (h : laidMetH Tryd.prog three W) : Tabs W := by
  refine ⟨?_, ?_⟩
  · have h1 := h.filter (fun x => x.1 == "internal/strconv.uint64pow10")
    have e : three.filter (fun x => x.1 == "internal/strconv.uint64pow10") = [("internal/strconv.uint64pow10", Lib.tabData .u64 Lib.pow10Tab)] := by kernel_rfl
    rw [e] at h1
    exact Lib.tabIs_of_head (rest := []) gPow gPowType Tryd.underlying187 Tryd.underlying51 cellsU64 cellsPow h1
  · have h1 := h.filter (fun x => x.1 == "math/bits.deBruijn64tab")
    have e : three.filter (fun x => x.1 == "math/bits.deBruijn64tab") = [("math/bits.deBruijn64tab", Lib.tabData .u8 deBruijn64)] := by kernel_rfl
    rw [e] at h1
    exact Lib.tabIs_of_head (rest := []) gBr gBrType Tryd.underlying143 Tryd.underlying5 cellsU8 cellsBr h1
/-- A row of cells laid over by given numbers. -/
def relay (k : IntKind) (zs : List Int) : Obj → Obj
  | .cells _ t frozen => .cells (zs.map fun z => Value.int k z).toArray t frozen
  | o => o
def bruijn32 : List Int := [0, 1, 28, 2, 29, 14, 24, 3, 30, 22, 20, 15, 25, 17, 4, 8, 31, 27, 13, 23, 21, 19, 16, 7, 26, 12, 18, 6, 11, 5, 10, 9]
/-- A world for the witness: the settled one, the tables holding what their initialisers lay. -/
noncomputable def laidWorld (os : Os) : World :=
  { World.holding Tryd.prog os ⟨#[], #[], []⟩ with
    heap := (((World.holding Tryd.prog os ⟨#[], #[], []⟩).heap.modify 1 (relay .u64 Lib.pow10Tab)).modify 0 (relay .u8 deBruijn64)).modify 3 (relay .u8 bruijn32) }
end Go.Proofs.YtbmbgbmgldjmoaaDoor
