/-
  FilterAlone holds: whoever is alone acquires a filter lock by (N - 1)(N + 1) accesses, 2 (N - 1) of which write.
-/
import Derived.Test.YtpcohbpeglledaaJFilterAloneSaid0
import Derived.Laws.MakeOwn
/-
  The filter: the chapter's example.
-/
namespace Kv
def fr0 : Reg := ⟨1, 0, 0, 1, 0, -1, 1⟩
def fs0 : Reg := ⟨1, 0, 0, 2, 0, -1, 2⟩
def fs1 : Reg := ⟨1, 1, 0, 2, 1, -1, 2⟩
def fs2 : Reg := ⟨1, 2, 0, 2, -1, -1, 2⟩
end Kv
namespace Go.Proofs.Ytpcohbpeglledaa
open Go.RowKit Kv
theorem fal1 (B p : Nat) (S : TS) (bk : Nat) (w : World) (h : Plays B w p S) (hD : S.left < 1) (hn0 : S.nts.length = 0)
    (c1 : ∀ i, w.cell? ⟨bk, i, none⟩ = (#[.int .i64 4, .int .i64 1, .int .i64 1, .int .i64 0, .int .i64 0, .int .i64 0] : Array Value)[i]?) :
    Calls Try.prog 56 #[.pointer (some ⟨p, 0, none⟩), .pointer (some ⟨bk, 0, none⟩)] w (Post encI B p w ((filA 1 [fr0] 1 0).run S)) := by
  have hq : Calls Try.prog 24 #[.pointer (some ⟨p, 0, none⟩), .agg #[.int .i64 4, .int .i64 1, .int .i64 1, .int .i64 0, .int .i64 0, .int .i64 0], .int .i64 0] w (Post encI B p w ((filA 1 [fr0] 1 0).run S)) :=
    filacq_p B p 1 1 S 4 1 0 0 0 0 [fr0] w h h.le (by decide) (by decide) (by decide) rfl (fun r hr => by
      simp only [List.mem_cons, List.not_mem_nil, or_false] at hr
      subst hr
      exact ⟨⟨.inl rfl, by decide, by decide, by decide, fun h => by cases h⟩, rfl⟩) (fun _ _ _ _ h => by omega) hD hn0
  generalize hR : Post encI B p w ((filA 1 [fr0] 1 0).run S) = R
  have hO : Owes R encI B p w ((filA 1 [fr0] 1 0).run S) := hR ▸ owes _ _ _ _ _
  clear hR
  have hK := Keep.refl [2, 3, 4] B p w
  go_enter Try.func56, Try.ntmps56
  go_wp2_with fail
  clear c1
  refine tlast hO hK hq (fun _ h => ⟨rfl, h⟩) ?_
  intro v S1 w1 hr hP1 hk1 hK1 hO1
  have hf := hO1.done hP1 hK1
  clear hO1 hP1 hK1 hr hk1 hO h hK hq
  go_wp2_with fail
  first | exact hf | (go_ret; exact hf)
theorem fal2 (B p : Nat) (S : TS) (bk : Nat) (w : World) (h : Plays B w p S) (hD : S.left < 5) (hn0 : S.nts.length = 0)
    (c1 : ∀ i, w.cell? ⟨bk, i, none⟩ = (#[.int .i64 4, .int .i64 2, .int .i64 1, .int .i64 0, .int .i64 0, .int .i64 0] : Array Value)[i]?) :
    Calls Try.prog 57 #[.pointer (some ⟨p, 0, none⟩), .pointer (some ⟨bk, 0, none⟩)] w (Post encI B p w ((filA 5 [fs0, fs1, fs2] 2 1).run S)) := by
  have hq : Calls Try.prog 24 #[.pointer (some ⟨p, 0, none⟩), .agg #[.int .i64 4, .int .i64 2, .int .i64 1, .int .i64 0, .int .i64 0, .int .i64 0], .int .i64 1] w (Post encI B p w ((filA 5 [fs0, fs1, fs2] 2 1).run S)) :=
    filacq_p B p 2 5 S 4 1 0 0 0 1 [fs0, fs1, fs2] w h h.le (by decide) (by decide) (by decide) rfl (fun r hr => by
      simp only [List.mem_cons, List.not_mem_nil, or_false] at hr
      rcases hr with rfl | rfl | rfl <;> exact ⟨⟨.inl rfl, by decide, by decide, by decide, fun h => by cases h⟩, rfl⟩) (fun i r hi _ _ => by
      have hr := List.mem_of_getElem? hi
      simp only [List.mem_cons, List.not_mem_nil, or_false] at hr
      rcases hr with rfl | rfl | rfl <;> exact .inl rfl) hD hn0
  generalize hR : Post encI B p w ((filA 5 [fs0, fs1, fs2] 2 1).run S) = R
  have hO : Owes R encI B p w ((filA 5 [fs0, fs1, fs2] 2 1).run S) := hR ▸ owes _ _ _ _ _
  clear hR
  have hK := Keep.refl [2, 3, 4] B p w
  go_enter Try.func57, Try.ntmps57
  go_wp2_with fail
  clear c1
  refine tlast hO hK hq (fun _ h => ⟨rfl, h⟩) ?_
  intro v S1 w1 hr hP1 hk1 hK1 hO1
  have hf := hO1.done hP1 hK1
  clear hO1 hP1 hK1 hr hk1 hO h hK hq
  go_wp2_with fail
  first | exact hf | (go_ret; exact hf)
@[go_sem] theorem build_lock3 (a b c : Int) (w : World) : (Instr.build 44 #[(0, .int .i64 a), (1, .int .i64 b), (2, .int .i64 c)]).run Try.prog w = .ok (.agg #[.int .i64 a, .int .i64 b, .int .i64 c, .int .i64 0, .int .i64 0, .int .i64 0]) w := run_build w 44 _ _ (by kernel_rfl)
@[go_sem] theorem build_acc3 (a b c : Int) (w : World) : (Instr.build 39 #[(0, .int .i64 a), (1, .int .i64 b), (2, .int .i64 c)]).run Try.prog w = .ok (.agg #[.int .i64 a, .int .i64 b, .int .i64 c]) w := run_build w 39 _ _ (by kernel_rfl)
set_option maxRecDepth 100000 in
set_option maxHeartbeats 1000000 in
theorem alive26 (w : World) : Calls Try.prog 25 #[] w fun e w' => e = .returned (.bool true) ∧ Ext w w' := by
  have hmf : ∀ (fn : Fn) (first cap : Array Value) (w : World), (Instr.makeFunc fn first cap).run Try.prog w = .ok (.func fn first cap) w := fun _ _ _ _ => rfl
  go_enter Try.func25, Try.ntmps25
  go_wp2_with fail
  have b1 := Blk.new w (.cells #[.int .i64 4, .int .i64 1, .int .i64 1, .int .i64 0, .int .i64 0, .int .i64 0] 44)
  have hX := (Ext.refl w).alloc (.cells #[.int .i64 4, .int .i64 1, .int .i64 1, .int .i64 0, .int .i64 0, .int .i64 0] 44)
  generalize w.alloc _ = V1 at *
  refine (play_err 56 #[.pointer (some ⟨w.heap.size, 0, none⟩)] (filA 1 [fr0] 1 0) none 0 [] none 0 [] V1 (Ints.nil _) (by simp) (Ints.nil _) (by decide) (fun k hk => by cases hk) (fun _ _ => rfl) (fun W p hxW hP => fal1 _ p _ w.heap.size W hP (by decide) rfl (b1.ext hxW).cells)).mono ?_
  rintro e y1 ⟨v1, rfl, hO, hx1⟩
  have e1 : ((filA 1 [fr0] 1 0).run (TS0 [] [])).1 = some 0 := by rfl
  have e2 : ((filA 1 [fr0] 1 0).run (TS0 [] [])).2.acc.length = 0 := by rfl
  rw [e1] at hO ⊢
  generalize ((filA 1 [fr0] 1 0).run (TS0 [] [])).2 = S1 at *
  obtain ⟨A1, c1, A1', c1', vs1, L1, rfl, hO⟩ := hO
  obtain ⟨As1, k1, hvs1, _, _⟩ := hO.locs.slice
  subst hvs1
  unfold outV
  rw [e2] at *
  simp only [Option.getD_some, Option.isSome_some]
  replace hX := hX.trans hx1
  clear e1 e2 hO hx1 b1
  go_wp2_with fail
  have n1 := Blk.new y1 (.cells #[.bool true, .slice A1 0 c1, .slice A1' S1.nts.length c1', .slice As1 (shortL L1).length k1] 32)
  replace hX := hX.alloc (.cells #[.bool true, .slice A1 0 c1, .slice A1' S1.nts.length c1', .slice As1 (shortL L1).length k1] 32)
  have b2 := Blk.new (y1.alloc (.cells #[.bool true, .slice A1 0 c1, .slice A1' S1.nts.length c1', .slice As1 (shortL L1).length k1] 32)) (.cells #[.int .i64 4, .int .i64 2, .int .i64 1, .int .i64 0, .int .i64 0, .int .i64 0] 44)
  replace n1 := n1.alloc (.cells #[.int .i64 4, .int .i64 2, .int .i64 1, .int .i64 0, .int .i64 0, .int .i64 0] 44)
  replace hX := hX.alloc (.cells #[.int .i64 4, .int .i64 2, .int .i64 1, .int .i64 0, .int .i64 0, .int .i64 0] 44)
  have hA := ints_new ((y1.alloc (.cells #[.bool true, .slice A1 0 c1, .slice A1' S1.nts.length c1', .slice As1 (shortL L1).length k1] 32)).alloc (.cells #[.int .i64 4, .int .i64 2, .int .i64 1, .int .i64 0, .int .i64 0, .int .i64 0] 44)) [0, 0, 1, 1] (by simp)
  replace n1 := n1.alloc (.cells (([0, 0, 1, 1] : List Int).map (Value.int .i64)).toArray 3)
  replace b2 := b2.alloc (.cells (([0, 0, 1, 1] : List Int).map (Value.int .i64)).toArray 3)
  replace hX := hX.alloc (.cells (([0, 0, 1, 1] : List Int).map (Value.int .i64)).toArray 3)
  simp only [World.size_alloc, List.map_cons, List.map_nil, List.length_cons, List.length_nil] at b2 hA n1 hX
  have hsz : y1.heap.size + 1 + 1 < (World.alloc (World.alloc (World.alloc y1 (.cells #[.bool true, .slice A1 0 c1, .slice A1' S1.nts.length c1', .slice As1 (shortL L1).length k1] 32)) (.cells #[.int .i64 4, .int .i64 2, .int .i64 1, .int .i64 0, .int .i64 0, .int .i64 0] 44)) (.cells #[.int .i64 0, .int .i64 0, .int .i64 1, .int .i64 1] 3)).heap.size := by simp
  generalize World.alloc (World.alloc (World.alloc y1 _) _) _ = V2 at *
  refine (play_err 57 #[.pointer (some ⟨y1.heap.size + 1, 0, none⟩)] (filA 5 [fs0, fs1, fs2] 2 1) none 0 [] (some ⟨y1.heap.size + 1 + 1, 0, none⟩) 4 [0, 0, 1, 1] V2 (Ints.nil _) (by simp) hA (by decide) (fun k hk => by simp only [Value.ownBlock, Option.some.injEq] at hk; omega) (fun _ _ => rfl) (fun W p hxW hP => fal2 _ p _ (y1.heap.size + 1) W hP (by decide) rfl (b2.ext hxW).cells)).mono ?_
  rintro e y2 ⟨v2, rfl, hO, hx2⟩
  have e1 : ((filA 5 [fs0, fs1, fs2] 2 1).run (TS0 [] [0, 0, 1, 1])).1 = some 0 := by rfl
  have e2 : ((filA 5 [fs0, fs1, fs2] 2 1).run (TS0 [] [0, 0, 1, 1])).2.acc.length = 4 := by rfl
  have e3 : ((filA 5 [fs0, fs1, fs2] 2 1).run (TS0 [] [0, 0, 1, 1])).2.acc[1]? = some ⟨2, 2, 2⟩ := by rfl
  rw [e1] at hO ⊢
  generalize ((filA 5 [fs0, fs1, fs2] 2 1).run (TS0 [] [0, 0, 1, 1])).2 = S2 at *
  obtain ⟨A2, c2, A2', c2', vs2, L2, rfl, hO⟩ := hO
  obtain ⟨As2, k2, hvs2, _, _⟩ := hO.locs.slice
  subst hvs2
  obtain ⟨u2, rfl, hu2, z20, z21, z22⟩ := hO.accs.at_ e3
  simp only [Nat.reduceMul, Nat.reduceAdd] at z20 z21 z22
  unfold outV
  rw [e2] at *
  simp only [Option.getD_some, Option.isSome_some]
  replace hX := hX.trans hx2
  replace n1 := n1.ext hx2
  have s2 := (Ext.refl y2).alloc (.cells #[.bool true, .slice (some ⟨u2, 0, none⟩) 4 c2, .slice A2' S2.nts.length c2', .slice As2 (shortL L2).length k2] 32)
  have n2 := Blk.new y2 (.cells #[.bool true, .slice (some ⟨u2, 0, none⟩) 4 c2, .slice A2' S2.nts.length c2', .slice As2 (shortL L2).length k2] 32)
  replace n1 := n1.alloc (.cells #[.bool true, .slice (some ⟨u2, 0, none⟩) 4 c2, .slice A2' S2.nts.length c2', .slice As2 (shortL L2).length k2] 32)
  replace hX := hX.alloc (.cells #[.bool true, .slice (some ⟨u2, 0, none⟩) 4 c2, .slice A2' S2.nts.length c2', .slice As2 (shortL L2).length k2] 32)
  replace z20 := (s2.cell (p := ⟨u2, 3, none⟩) hu2).trans z20
  replace z21 := (s2.cell (p := ⟨u2, 4, none⟩) hu2).trans z21
  replace z22 := (s2.cell (p := ⟨u2, 5, none⟩) hu2).trans z22
  clear e1 e2 e3 hO hx2 hA hsz s2 b2
  have c_n1 := n1.cells
  have hXh := Lib.hid hX
  clear n1 n2 hX
  go_wp2_with fail
  refine (filwants_p 3 _ (by decide) (by decide)).mono ?_
  rintro e w3 ⟨v3, rfl, hw, hx⟩
  have hf := Lib.hid (hXh.out.trans hx)
  obtain ⟨A3, c3, rfl, -, -, -⟩ := hw
  rw [filWants_len]
  clear hx hmf
  go_wp2_with fail
  go_ret
  exact ⟨rfl, hf.out⟩
end Go.Proofs.Ytpcohbpeglledaa
/-
  make([]int, n): a row of noughts.
-/
namespace Kv
/-- So many noughts. -/
def zeros (n : Nat) : List Int := List.replicate n 0
end Kv
namespace Go.Proofs.Ytpcohbpeglledaa
open Go.RowKit Kv
theorem make_ints (l : Int) (k : Nat) (hl : l = k) (hk : k ≤ 100000) (w : World) :
    (Instr.makeSlice 22 (.int .i64 l) (.int .i64 l)).run Try.prog w = .ok (.slice (some ⟨w.heap.size, 0, none⟩) k k) (w.alloc (.cells ((zeros k).map (Value.int .i64)).toArray 3)) := by
  subst hl
  obtain ⟨i0, hi, hz0, hz1, hz2⟩ := info_parts info_int
  have hr := run_makeSlice (P := Try.prog) w 22 3 i0 (.int .i64 0) Try.underlying22 hi hz0 .i64 .i64 k k (by omega) (by omega) (by rw [hz1]; simp; omega) (by rw [hz2]; omega) (by omega)
  rw [Int.toNat_natCast, hz1, Nat.mul_one] at hr
  have he : madeCells (Value.int .i64 0).cells k = ((zeros k).map (Value.int .i64)).toArray := by
    unfold zeros madeCells
    apply Array.ext'
    rw [List.map_replicate]
    apply List.ext_getElem?
    intro j
    by_cases hj : j < k
    · simp [hj, Nat.mod_one, Value.cells]
    · simp [hj]
  rw [hr, he]
end Go.Proofs.Ytpcohbpeglledaa
/-
  FilterAlone: whoever is alone is in.
-/
namespace Go.Proofs.Ytpcohbpeglledaa
open Go.RowKit Kv
/-- The filter's registers on native cells. -/
def natF (N : Nat) : List Reg := (List.range (2 * N - 1)).map fun i : Nat => ⟨1, i, 0, N, (filWant N i).wr, -1, N⟩
def aloneF (N m : Nat) : Option Int × TS := (filA 101 (natF N) N m).run (TS0 [] (zeros 100))
/-- How many writes are among the first so many accesses. -/
def writesN (l : List Acc) (j : Nat) : Nat := ((l.take j).filter fun a => a.kind = 2).length
def aloneOk (N m : Nat) : Bool := decide ((aloneF N m).1 = some 0) && decide ((aloneF N m).2.acc.length = (N - 1) * (N + 1)) && decide (writesN (aloneF N m).2.acc ((N - 1) * (N + 1)) = 2 * (N - 1))
theorem alone_all : ∀ N : Nat, N < 9 → ∀ m : Nat, m < N → 1 ≤ N → aloneOk N m = true := by decide +kernel
theorem nat_all : ∀ N : Nat, N < 9 → 1 ≤ N → layM (filWants N) N 1 0 0 = some (natF N) := by
  intro N h1 h2
  have : N = 1 ∨ N = 2 ∨ N = 3 ∨ N = 4 ∨ N = 5 ∨ N = 6 ∨ N = 7 ∨ N = 8 := by omega
  rcases this with rfl | rfl | rfl | rfl | rfl | rfl | rfl | rfl <;> rfl
theorem alone_is {N m : Nat} (h1 : 1 ≤ N) (h2 : N ≤ 8) (hm : m < N) : (aloneF N m).1 = some 0 ∧ (aloneF N m).2.acc.length = (N - 1) * (N + 1) ∧ writesN (aloneF N m).2.acc ((N - 1) * (N + 1)) = 2 * (N - 1) := by
  have := alone_all N (by omega) m hm h1
  unfold aloneOk at this
  simp only [Bool.and_eq_true, decide_eq_true_eq] at this
  exact ⟨this.1.1, this.1.2, this.2⟩
theorem writes_next (l : List Acc) (j : Nat) (a : Acc) (h : l[j]? = some a) : writesN l (j + 1) = writesN l j + if a.kind = 2 then 1 else 0 := by
  unfold writesN
  rw [List.take_add_one, h, List.filter_append, List.length_append]
  congr 1
  by_cases hk : a.kind = 2 <;> simp [hk]
end Go.Proofs.Ytpcohbpeglledaa
namespace Go.Proofs.Ytpcohbpeglledaa
open Go.RowKit Kv
theorem falone (B p : Nat) (S : TS) (N m : Nat) (bk bt : Nat) (w : World) (h : Plays B w p S) (h1 : 1 ≤ N) (h2 : N ≤ 8) (hm : m < N) (hD : S.left < 101) (hn0 : S.nts.length = 0)
    (c1 : ∀ i, w.cell? ⟨bk, i, none⟩ = (#[.int .i64 4, .int .i64 N, .int .i64 1, .int .i64 0, .int .i64 0, .int .i64 0] : Array Value)[i]?) (c2 : w.cell? ⟨bt, 0, none⟩ = some (.int .i64 m)) :
    Calls Try.prog 23 #[.pointer (some ⟨p, 0, none⟩), .pointer (some ⟨bk, 0, none⟩), .pointer (some ⟨bt, 0, none⟩)] w (Post encI B p w ((filA 101 (natF N) N m).run S)) := by
  have hq : Calls Try.prog 24 #[.pointer (some ⟨p, 0, none⟩), .agg #[.int .i64 4, .int .i64 N, .int .i64 1, .int .i64 0, .int .i64 0, .int .i64 0], .int .i64 m] w (Post encI B p w ((filA 101 (natF N) N m).run S)) := by
    refine filacq_p B p N 101 S 4 1 0 0 0 m (natF N) w h h.le h1 h2 hm (nat_all N (by omega) h1) (fun r hr => ?_) (fun i r hi _ _ => ?_) hD hn0
    · unfold natF at hr
      obtain ⟨i, hi, rfl⟩ := List.mem_map.1 hr
      have hi := List.mem_range.1 hi
      refine ⟨⟨.inl rfl, ⟨?_, ?_⟩, ⟨?_, ?_⟩, ⟨?_, ?_⟩, fun h => by cases h⟩, rfl⟩ <;> simp only <;> omega
    · have hr := List.mem_of_getElem? hi
      unfold natF at hr
      obtain ⟨i, hi, rfl⟩ := List.mem_map.1 hr
      exact .inl rfl
  generalize hR : Post encI B p w ((filA 101 (natF N) N m).run S) = R
  have hO : Owes R encI B p w ((filA 101 (natF N) N m).run S) := hR ▸ owes _ _ _ _ _
  clear hR
  have hK := Keep.refl [2, 3, 4] B p w
  go_enter Try.func23, Try.ntmps23
  go_wp2_with fail
  clear c1 c2
  refine tlast hO hK hq (fun _ h => ⟨rfl, h⟩) ?_
  intro v S1 w1 hr hP1 hk1 hK1 hO1
  have hf := hO1.done hP1 hK1
  clear hO1 hP1 hK1 hr hk1 hO h hK hq
  go_wp2_with fail
  first | exact hf | (go_ret; exact hf)
set_option maxRecDepth 100000 in
set_option maxHeartbeats 1000000 in
theorem falone_walk (n me : Nat) (w : World) (hn : n < 256) (hme : me < 256) : Calls Try.prog 5 #[.int .u8 n, .int .u8 me] w fun e w' => e = .returned (.bool true) ∧ Ext w w' := by
  have hmf : ∀ (fn : Fn) (first cap : Array Value) (w : World), (Instr.makeFunc fn first cap).run Try.prog w = .ok (.func fn first cap) w := fun _ _ _ _ => rfl
  obtain ⟨N, hN⟩ : ∃ N : Nat, 1 + (n : Int) % 8 = N := ⟨1 + n % 8, by omega⟩
  have h1 : 1 ≤ N := by omega
  have h2 : N ≤ 8 := by omega
  obtain ⟨m, hm⟩ : ∃ m : Nat, (me : Int) % (N : Int) = m := ⟨me % N, by omega⟩
  have hm1 : m < N := by
    have := Int.emod_lt_of_pos (me : Int) (show (0 : Int) < N by omega)
    omega
  have hms := fun w => make_ints 100 100 rfl (by omega) w
  obtain ⟨r1, r2, r3⟩ := alone_is h1 h2 hm1
  have hr2 := Lib.hid r2
  have hr3 := Lib.hid r3
  have hr1 := Lib.hid r1
  clear r1 r2 r3
  go_enter Try.func5, Try.ntmps5
  go_wp2_with fail
  have b1 := Blk.new w (.cells #[.int .i64 4, .int .i64 N, .int .i64 1, .int .i64 0, .int .i64 0, .int .i64 0] 44)
  have b2 := Blk.new (w.alloc (.cells #[.int .i64 4, .int .i64 N, .int .i64 1, .int .i64 0, .int .i64 0, .int .i64 0] 44)) (.cells #[.int .i64 m] 3)
  have hA := ints_new ((w.alloc (.cells #[.int .i64 4, .int .i64 N, .int .i64 1, .int .i64 0, .int .i64 0, .int .i64 0] 44)).alloc (.cells #[.int .i64 m] 3)) (zeros 100) (by simp [zeros])
  replace b1 := (b1.alloc (.cells #[.int .i64 m] 3)).alloc (.cells ((zeros 100).map (Value.int .i64)).toArray 3)
  replace b2 := b2.alloc (.cells ((zeros 100).map (Value.int .i64)).toArray 3)
  have hX := (((Ext.refl w).alloc (.cells #[.int .i64 4, .int .i64 N, .int .i64 1, .int .i64 0, .int .i64 0, .int .i64 0] 44)).alloc (.cells #[.int .i64 m] 3)).alloc (.cells ((zeros 100).map (Value.int .i64)).toArray 3)
  rw [show (zeros 100).length = 100 from by simp [zeros]] at hA
  simp only [World.size_alloc] at b1 b2 hA
  have hsz : w.heap.size + 1 + 1 < (((w.alloc (.cells #[.int .i64 4, .int .i64 N, .int .i64 1, .int .i64 0, .int .i64 0, .int .i64 0] 44)).alloc (.cells #[.int .i64 m] 3)).alloc (.cells ((zeros 100).map (Value.int .i64)).toArray 3)).heap.size := by simp
  generalize hzz : ((w.alloc (.cells #[.int .i64 4, .int .i64 N, .int .i64 1, .int .i64 0, .int .i64 0, .int .i64 0] 44)).alloc (.cells #[.int .i64 m] 3)).alloc (.cells ((zeros 100).map (Value.int .i64)).toArray 3) = V at *
  clear hms hN hm hzz
  have hPl := play_err 23 #[.pointer (some ⟨w.heap.size, 0, none⟩), .pointer (some ⟨w.heap.size + 1, 0, none⟩)] (filA 101 (natF N) N m) none 0 [] (some ⟨w.heap.size + 1 + 1, 0, none⟩) 100 (zeros 100) V (Ints.nil _) (by simp) (by rw [show (zeros 100).length = 100 from by simp [zeros]]; exact hA) (by simp [zeros, maxAns]) (fun k hk => by simp only [Value.ownBlock, Option.some.injEq] at hk; omega) (fun _ _ => rfl)
    (fun W p hxW hP => falone _ p _ N m w.heap.size (w.heap.size + 1) W hP h1 h2 hm1 (by simp [TS.left, TS0, zeros]) rfl (b1.ext hxW).cells ((b2.ext hxW).cells 0))
  rw [show (zeros 100).length = 100 from by simp [zeros], show (filA 101 (natF N) N m).run (TS0 [] (zeros 100)) = aloneF N m from rfl, hr1.out] at hPl
  clear hr1 hA hsz b1 b2
  generalize (aloneF N m).2 = S1 at *
  simp only [Option.getD_some, Option.isSome_some] at hPl
  refine hPl.mono ?_
  rintro e y1 ⟨v1, rfl, hO, hx1⟩
  obtain ⟨A1, c1, A1', c1', vs1, L1, rfl, hO⟩ := hO
  obtain ⟨As1, k1, hvs1, _, _⟩ := hO.locs.slice
  subst hvs1
  unfold outV
  have n1 := Blk.new y1 (.cells #[.bool true, .slice A1 S1.acc.length c1, .slice A1' S1.nts.length c1', .slice As1 (shortL L1).length k1] 32)
  have hO1 := hO.ext ((Ext.refl y1).alloc (.cells #[.bool true, .slice A1 S1.acc.length c1, .slice A1' S1.nts.length c1', .slice As1 (shortL L1).length k1] 32))
  have hX1 := Lib.hid ((hX.trans hx1).alloc (.cells #[.bool true, .slice A1 S1.acc.length c1, .slice A1' S1.nts.length c1', .slice As1 (shortL L1).length k1] 32))
  clear hO hx1 hX hPl
  go_wp2_with fail
  generalize hb1 : y1.heap.size = b at *
  generalize y1.alloc _ = Y at *
  clear hb1
  have c_n1 := n1.cells
  go_loopw [10, 11] (fun c i wr => ∃ j : Nat, i = .int .i64 j ∧ c = .int .i64 (writesN S1.acc j) ∧ j ≤ S1.acc.length ∧ Y = wr) (fun _ i _ => S1.acc.length - (intOf i).toNat)
  case atStart => exact ⟨0, rfl, rfl, by omega, rfl⟩
  case round =>
    obtain ⟨j, rfl, rfl, hj, rfl⟩ := hrel
    have hlen64 : S1.acc.length ≤ 1000 := by
      rw [hr2.out]
      have : (N - 1) * (N + 1) ≤ 7 * 9 := Nat.mul_le_mul (by omega) (by omega)
      omega
    by_cases hl : j < S1.acc.length
    · obtain ⟨x, hx⟩ : ∃ a, S1.acc[j]? = some a := ⟨_, List.getElem?_eq_getElem hl⟩
      obtain ⟨u, rfl, hu, z0, z1, z2⟩ := hO1.accs.at_ hx
      have hw := writes_next S1.acc j x hx
      have hwb : writesN S1.acc j ≤ j := by unfold writesN; exact Nat.le_trans (List.length_filter_le _ _) (List.length_take_le _ _)
      clear hx hO1
      by_cases hk : x.kind = 2
      · have dk : (x.kind == 2) = true := by simpa using hk
        rw [if_pos hk] at hw
        have hwh := Lib.hid hw
        clear hw hk
        go_wp2_with fail
        refine ⟨⟨j + 1, by go_num, ?_, by omega, by trivial⟩, ?_⟩
        · rw [hwh.out]; rfl
        · simp [intOf]; omega
      · have dk : (x.kind == 2) = false := by simpa using hk
        rw [if_neg hk] at hw
        have hwh := Lib.hid hw
        clear hw hk
        go_wp2_with fail
        refine ⟨⟨j + 1, by go_num, ?_, by omega, by trivial⟩, ?_⟩
        · rw [hwh.out]; rfl
        · simp [intOf]; omega
    · obtain rfl : j = S1.acc.length := by omega
      have hcnt : writesN S1.acc S1.acc.length = 2 * (N - 1) := by rw [hr2.out]; exact hr3.out
      have hb0 : 0 ≤ ((N : Int) - 1) * ((N : Int) + 1) := Int.mul_nonneg (by omega) (by omega)
      have hb1 : ((N : Int) - 1) * ((N : Int) + 1) ≤ 7 * 9 := Int.mul_le_mul (by omega) (by omega) (by omega) (by omega)
      have dl : ((S1.acc.length : Int) == ((N : Int) - 1) * ((N : Int) + 1)) = true := by
        rw [beq_iff_eq, hr2.out, Int.natCast_mul, show ((N - 1 : Nat) : Int) = (N : Int) - 1 from by omega, show ((N + 1 : Nat) : Int) = (N : Int) + 1 from by omega]
      have dc : ((writesN S1.acc S1.acc.length : Int) == 2 * ((N : Int) - 1)) = true := by
        rw [beq_iff_eq, hcnt]; omega
      have hwl : writesN S1.acc S1.acc.length ≤ 1000 := by rw [hcnt]; omega
      have hXh := hX1
      clear hcnt hr2 hr3 hO1
      go_wp2_with fail
      refine (alive26 _).mono ?_
      rintro e w9 ⟨rfl, hx9⟩
      have hf := Lib.hid (hXh.out.trans hx9)
      clear hx9
      go_wp2_with fail
      go_ret
      exact ⟨rfl, hf.out⟩
end Go.Proofs.Ytpcohbpeglledaa
/-
  FilterAlone: the input opened.
-/
namespace Go.Proofs.Ytpcohbpeglledaa.filterAlone
open Go.ChangeShapes Go.WideShapes Go.ChangeAt Go.RowKit Kv
set_option maxRecDepth 100000 in
theorem main (H : Type) (enc : TypeId × Value → H) (W : World) (base : Nat) (args : Array Value) (ds : List (DataW H)) (p : List MemPlace)
    (hval : ∀ (j : Nat) t v, Try.f5.params[j]? = some t → args[j]? = some v → Value.okWide Try.prog W .any base t v)
    (hA : DataW.TrodAll enc Try.prog W 0 (fun _ => true) true Try.f5.params.toList args.toList ds p) (_hL : laidMetH Try.prog Rows.filterAloneRow.laid W) :
    Calls Try.prog 5 args W fun e w' => e = .returned (.bool true) ∧ Ext W w' := by
  rw [Try.params5] at hA hval
  obtain ⟨v0, vs0, d0, ds0, p0, q0, hargs, rfl, rfl, h0, r0⟩ := trodAll_cons hA
  obtain ⟨v1, vs1, d1, ds1, p1, q1, rfl, rfl, rfl, h1, r1⟩ := trodAll_cons r0
  obtain ⟨rfl, rfl, rfl⟩ := trodAll_nil r1
  obtain rfl : args = #[v0, v1] := by cases args; simp_all
  obtain ⟨s, rfl, rfl, rfl, ws⟩ := open_int Try.underlying5 (hval 0 5 v0 rfl rfl) h0
  obtain ⟨t, rfl, rfl, rfl, wt⟩ := open_int Try.underlying5 (hval 1 5 v1 rfl rfl) h1
  have hs := bounds_u8 ws
  have ht := bounds_u8 wt
  obtain ⟨n, rfl⟩ : ∃ n : Nat, s = (n : Int) := ⟨s.toNat, by omega⟩
  obtain ⟨me, rfl⟩ : ∃ n : Nat, t = (n : Int) := ⟨t.toNat, by omega⟩
  exact falone_walk n me W (by omega) (by omega)
end Go.Proofs.Ytpcohbpeglledaa.filterAlone
/-
  FilterAlone holds: whoever is alone acquires a filter lock by (N - 1)(N + 1) accesses, 2 (N - 1) of which write.
-/
namespace Go.Proofs.Ytpcohbpeglledaa.filterAlone
open Go.ChangeShapes Go.WideShapes Go.ChangeAt Go.RowKit

theorem laidOut : laidOutB Try.prog = true := by kernel_rfl
set_option maxRecDepth 100000 in
theorem contract (H : Type) (enc : TypeId × Value → H) (W : World) (base : Nat) (args : Array Value) (ds gs : List (DataW H)) (before : List MemPlace)
    (hval : ∀ (j : Nat) t v, Try.f5.params[j]? = some t → args[j]? = some v → Value.okWide Try.prog W .any base t v)
    (hW : DataW.Whole enc Try.prog Try.f5.params.toList Rows.filterAloneSpec.vars false W args.toList ds gs before) (hL : laidMetH Try.prog Rows.filterAloneRow.laid W) :
    Calls Try.prog 5 args W fun e W' => ∃ v, e = .returned v ∧ Rows.filterAloneSpec.post enc Try.prog Try.f5 false true false false W args v W' := by
  refine (main H enc W base args ds before hval (by obtain ⟨p, q, hA, hV, hpq, _, _⟩ := hW; obtain ⟨_, rfl⟩ := trodVars_none hV; rw [List.append_nil] at hpq; subst hpq; exact hA) hL).mono fun e W' ⟨he, hg⟩ => ⟨_, he, ?_⟩
  refine law_post (tb := 4) laidOut ?_ (by kernel_rfl) Try.underlying4 rfl ?_ hW hg
  · rw [Try.params5]
    intro t ht
    simp only [List.mem_cons, List.not_mem_nil, or_false] at ht
    rcases ht with rfl | rfl <;> exact ⟨by kernel_rfl, of_decide_eq_true (by kernel_rfl)⟩
  · intro ds hl
    rw [Try.params5] at hl
    match ds, hl with
    | [d0, d1], _ => rfl
set_option maxRecDepth 100000 in
theorem laid_met (os : Os) : laidMet Try.prog Rows.filterAloneRow.laid (((World.holding Try.prog os ⟨#[], #[], []⟩)).forCall (fun _ _ => 0) ⟨#[], #[.int .u8 0, .int .u8 0], []⟩).memory :=
  laidMet_of_run' 8 (by kernel_rfl) (by kernel_rfl)
set_option maxRecDepth 100000 in
theorem reads (os : Os) {H : Type} (enc : TypeId × Value → H) : ∃ places, DataW.whole enc Try.prog (((World.holding Try.prog os ⟨#[], #[], []⟩)).forCall (fun _ _ => 0) ⟨#[], #[.int .u8 0, .int .u8 0], []⟩).memory Try.f5.params.toList Rows.filterAloneSpec.vars false (#[.int .u8 0, .int .u8 0] : Array Value).toList 8 = some ([.lit (.int .u8 0), .lit (.int .u8 0)], [], places) :=
  ⟨[], by kernel_rfl⟩
set_option maxRecDepth 100000 in
theorem lifted (os : Os) (started : os.Started) (H : Type) (enc : TypeId × Value → H) (F : Stop.Interp) :
    ReturnsInHanded {} Try.checked os 5 .any ((OpenSpec.ofChange Rows.filterAloneSpec).preRow enc Try.prog Try.f5 Rows.filterAloneRow.domain false Rows.filterAloneRow.laid) (((OpenSpec.ofChange Rows.filterAloneSpec).at F).post enc Try.prog Try.f5 false true false false) := by
  obtain ⟨places, hx⟩ := reads os enc
  refine returnsInHanded_of_row (C := Try.checked) (s := (OpenSpec.ofChange Rows.filterAloneSpec)) own started (by kernel_rfl) Try.func5
    (witness_row_at (enc := enc) (C := Try.checked) false (World.holding Try.prog os ⟨#[], #[], []⟩) #[.int .u8 0, .int .u8 0] rfl (by kernel_rfl) (by kernel_rfl) (by kernel_rfl)
      (OpenSpec.preRow_of_cond 8 hx (by kernel_rfl) (fun k hk => by cases hk) (by kernel_rfl) (laid_met os))) ?_
  intro W base args ds gs before hval hW _ _ _ hL _ _
  exact contract H enc W base args ds gs before hval hW hL
theorem said : Rows.FilterAloneSaid :=
  OpenClaim.holds_of_cond 5 Try.f5 rfl rfl rfl rfl rfl rfl rfl ⟨rfl, rfl, rfl, rfl, rfl⟩ rfl rfl rfl rfl rfl (by kernel_rfl) Try.func5 (by kernel_rfl)
    (of_decide_eq_true (by kernel_rfl)) (by unfold Func.isWrapper; first | (rw [if_pos (by decide +kernel)]; kernel_rfl) | (rw [if_neg (by decide +kernel)]; exact ⟨rfl, rfl⟩))
    (fun os started H enc _ F => by rw [OpenClaim.pre_eq_preRow]; exact lifted os started H enc F)

end Go.Proofs.Ytpcohbpeglledaa.filterAlone
