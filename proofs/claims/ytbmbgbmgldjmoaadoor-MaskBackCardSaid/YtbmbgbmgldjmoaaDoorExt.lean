/-
  The frame of a call that only makes memory of its own ('Ext'), and the library's tables that stay through it.
-/
import Derived.Test.YtbmbgbmgldjmoaaDoorBase
import Derived.Test.YtbmbgbmgldjmoaaDoorShelf
import Derived.WalkSmall
import Derived.Lib.LaidTab
import Derived.Lib.AppendIntMem
namespace Go.Proofs.YtbmbgbmgldjmoaaDoor
open Go.RowKit Kv
/-- Nothing of what was there has turned. -/
def Ext (w w' : World) : Prop := Below w.heap.size w w'
theorem Ext.refl (w : World) : Ext w w := Below.refl _ _
theorem Ext.size {w w' : World} (h : Ext w w') : w.heap.size ≤ w'.heap.size := Below.size h
theorem Ext.trans {a b c : World} (h : Ext a b) (k : Ext b c) : Ext a c := Below.trans h (Below.mono k (Ext.size h))
theorem Ext.drewN {a b : World} (h : Ext a b) (n : Nat) : Ext a (b.drewN n) := Below.trans h ⟨rfl, rfl, rfl, Nat.le_refl _, fun _ _ => rfl⟩
theorem Ext.drew {a b : World} (h : Ext a b) : Ext a b.drew := Below.drew h
theorem Ext.alloc {a b : World} (h : Ext a b) (o : Obj) : Ext a (b.alloc o) := Below.alloc h (Ext.size h) o
theorem Ext.setCell {a b : World} (h : Ext a b) {p : Addr} (hp : a.heap.size ≤ p.block) (u : Value) : Ext a (b.setCell p u) := Below.setCell h hp u
theorem Ext.grow {a b : World} (h : Ext a b) (k : Nat) (os : Array Obj) : Ext a (Go.Sort.grow (b.drewN k) os) := by
  refine Ext.trans h ⟨rfl, rfl, rfl, ?_, fun i hi => ?_⟩
  · show b.heap.size ≤ (b.heap ++ os).size
    simp
  · show (b.heap ++ os)[i]? = b.heap[i]?
    rw [Array.getElem?_append_left hi]
theorem Drew.ext {w w' : World} (h : Drew w w') : Ext w w' := Drew.below _ h
theorem Ext.cell {w w' : World} (h : Ext w w') {p : Addr} (hp : p.block < w.heap.size) : w'.cell? p = w.cell? p := Below.cell h hp

def deBruijn64 : List Int := [0, 1, 56, 2, 57, 49, 28, 3, 61, 58, 42, 50, 38, 29, 17, 4, 62, 47, 59, 36, 45, 43, 51, 22, 53, 39, 33, 30, 24, 18, 12, 5, 63, 55, 48, 27, 60, 41, 37, 16, 46, 35, 44, 21, 52, 32, 23, 11, 54, 26, 40, 15, 34, 20, 31, 10, 25, 14, 19, 9, 13, 8, 7, 6]
/-- The tables that the library reads. -/
structure Tabs (w : World) : Prop where
  pow10 : Lib.TabIs Tryd.prog w "internal/strconv.uint64pow10" .u64 Lib.pow10Tab
  bruijn : Lib.TabIs Tryd.prog w "math/bits.deBruijn64tab" .u8 deBruijn64
theorem Tabs.ext {w w' : World} (h : Tabs w) (hx : Ext w w') : Tabs w' :=
  ⟨Lib.tabBelow_of_tabIs h.pow10 _ hx, Lib.tabBelow_of_tabIs h.bruijn _ hx⟩
end Go.Proofs.YtbmbgbmgldjmoaaDoor
