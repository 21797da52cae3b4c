/-
  Registers of the program: what a number that all write is made of.
-/
import Derived.Test.YtpcohbpeglledaaJB1
import Derived.Deep.QuietTactic
import Derived.BigQuiet
import Derived.Maps.AppendAt
import Derived.Defers
import Derived.Recover
import Derived.LaidEqlPtr
import Derived.Deep.RegionHeld3
import Derived.Laws.StructEq
/-
  Registers of the program: what a number that all write is made of.
-/
namespace Go.Proofs.Ytpcohbpeglledaa
open Go.RowKit Kv
theorem mthreads_p (n : Int) (w : World) (h1 : 1 ≤ n) (h2 : n ≤ 8) : Calls Try.prog 108 #[.int .i64 n] w fun e w' => e = .returned (.int .i64 n) ∧ w = w' := by
  go_enter Try.func108, Try.ntmps108
  go_wp2_with fail
  go_ret
  exact ⟨ret_int (by show _ = _; omega), rfl⟩
theorem mmost_p (t : Int) (w : World) : Calls Try.prog 111 #[.int .i64 t] w fun e w' => e = .returned (.int .i64 (clamp t 255)) ∧ w = w' := by
  go_enter Try.func111, Try.ntmps111
  go_wp2_with fail
  refine (clamp_p _ _ _).mono ?_
  rintro e w' ⟨rfl, rfl⟩
  go_wp2_with fail
  go_ret
  exact ⟨rfl, rfl⟩
theorem trlocals_p (w : World) : Calls Try.prog 133 #[] w fun e w' => e = .returned (.int .i64 4) ∧ w = w' := by
  go_enter Try.func133, Try.ntmps133
  go_wp2_with fail
  go_ret
  exact ⟨rfl, rfl⟩
theorem slocals_p (w : World) : Calls Try.prog 134 #[] w fun e w' => e = .returned (.int .i64 18) ∧ w = w' := by
  go_enter Try.func134, Try.ntmps134
  go_wp2_with fail
  refine (trlocals_p _).mono ?_
  rintro e w' ⟨rfl, rfl⟩
  go_wp2_with fail
  go_ret
  exact ⟨rfl, rfl⟩
theorem sq_bd (n : Int) (h1 : 1 ≤ n) (h2 : n ≤ 8) : 0 ≤ 18 * (n - 1) ∧ 18 * (n - 1) ≤ 126 ∧ 0 ≤ 18 * (n - 1) * (n - 1) ∧ 18 * (n - 1) * (n - 1) ≤ 882 := by
  have h4 : 0 ≤ 18 * (n - 1) * (n - 1) := Int.mul_nonneg (by omega) (by omega)
  have h5 : 18 * (n - 1) * (n - 1) ≤ 126 * 7 := Int.mul_le_mul (by omega) (by omega) (by omega) (by omega)
  omega
theorem tlocals_p (n : Int) (w : World) (h1 : 1 ≤ n) (h2 : n ≤ 8) : Calls Try.prog 128 #[.int .i64 n] w fun e w' => e = .returned (.int .i64 (2 + 18 * (n - 1) * (n - 1))) ∧ w = w' := by
  have hs := sq_bd n h1 h2
  go_enter Try.func128, Try.ntmps128
  go_wp2_with fail
  refine (threads_p n _ h1 h2).mono ?_
  rintro e w' ⟨rfl, rfl⟩
  go_wp2_with fail
  refine (slocals_p _).mono ?_
  rintro e w' ⟨rfl, rfl⟩
  go_wp2_with fail
  go_ret
  exact ⟨rfl, rfl⟩
theorem many_bd (n j : Int) (h1 : 1 ≤ n) (h2 : n ≤ 8) (h3 : 0 ≤ j ∧ j < n) : (0 ≤ 16 * j * (n - 1) ∧ 16 * j * (n - 1) ≤ 784) ∧ (0 ≤ 16 * j * (n - 1) * (n - 1) ∧ 16 * j * (n - 1) * (n - 1) ≤ 5488) ∧ (0 ≤ j * (2 + 18 * (n - 1) * (n - 1)) ∧ j * (2 + 18 * (n - 1) * (n - 1)) ≤ 6188) := by
  have hs := sq_bd n h1 h2
  have a1 : 0 ≤ 16 * j * (n - 1) := Int.mul_nonneg (by omega) (by omega)
  have a2 : 16 * j * (n - 1) ≤ 112 * 7 := Int.mul_le_mul (by omega) (by omega) (by omega) (by omega)
  have a3 : 0 ≤ 16 * j * (n - 1) * (n - 1) := Int.mul_nonneg a1 (by omega)
  have a4 : 16 * j * (n - 1) * (n - 1) ≤ 784 * 7 := Int.mul_le_mul (by omega) (by omega) (by omega) (by omega)
  have a5 : 0 ≤ j * (2 + 18 * (n - 1) * (n - 1)) := Int.mul_nonneg (by omega) (by omega)
  have a6 : j * (2 + 18 * (n - 1) * (n - 1)) ≤ 7 * 884 := Int.mul_le_mul (by omega) (by omega) (by omega) (by omega)
  omega
set_option maxHeartbeats 1000000 in
theorem of_p (r : Reg) (j : Int) (w : World) (h1 : 1 ≤ r.n) (h2 : r.n ≤ 8) (h3 : 0 ≤ j ∧ j < r.n) (hb1 : 0 ≤ r.base) (hb2 : r.base ≤ 50000) (hl1 : 0 ≤ r.loc) (hl2 : r.loc ≤ 49000) :
    Calls Try.prog 110 #[encR r, .int .i64 j] w fun e w' => e = .returned (encR ⟨6, manyB r.base r.n j, manyL r.loc r.n j, r.n, j, -1, manyTop r.top⟩) ∧ Ext w w' := by
  obtain ⟨kind, base, loc, n, wr, rd, top⟩ := r
  simp only at h1 h2 h3 hb1 hb2 hl1 hl2
  have hm := many_bd n j h1 h2 h3
  have hs := sq_bd n h1 h2
  unfold encR manyB manyL manyTop
  have c1 := cell_of_heap (heap_alloc_new w (.cells #[.int .i64 kind, .int .i64 base, .int .i64 loc, .int .i64 n, .int .i64 wr, .int .i64 rd, .int .i64 top] 41))
  have w1 := IntWalk.i64_in (16 * j) (by omega)
  have w2 := IntWalk.i64_in (n - 1) (by omega)
  have w3 := IntWalk.i64_in (16 * j * (n - 1)) (by omega)
  have w4 := IntWalk.i64_in (16 * j * (n - 1) * (n - 1)) (by omega)
  have w5 := IntWalk.i64_in (base + 16 * j * (n - 1) * (n - 1)) (by omega)
  have w6 := IntWalk.i64_in (j * (2 + 18 * (n - 1) * (n - 1))) (by omega)
  have w7 := IntWalk.i64_in (loc + j * (2 + 18 * (n - 1) * (n - 1))) (by omega)
  have hmh := Lib.hid hm
  have hsh := Lib.hid hs
  clear hm hs
  go_enter Try.func110, Try.ntmps110
  go_wp2_with fail
  refine (mthreads_p n _ h1 h2).mono ?_
  rintro e w' ⟨rfl, rfl⟩
  go_wp2_with fail
  go_region_held2 (fun w' => ∀ i : Nat, w'.cell? ⟨w.heap.size, i, none⟩ = (#[.int .i64 kind, .int .i64 base, .int .i64 loc, .int .i64 n, .int .i64 wr, .int .i64 rd, .int .i64 top] : Array Value)[i]?) (first | assumption | go_keep | (intro i; simp [*]))
    (first
      | (go_at_call 128
         refine (tlocals_p n _ h1 h2).mono ?_
         rintro e w' ⟨rfl, rfl⟩)
      | (go_at_call 111
         refine (mmost_p top _).mono ?_
         rintro e w' ⟨rfl, rfl⟩)
      | (go_at_call 104
         refine (pack_p _ _ _ _).mono ?_
         rintro e w' ⟨rfl, rfl⟩))
  go_wp2_with fail
  refine bodyPost_ret (v := .agg #[.int .i64 6, .int .i64 (base + 16 * j * (n - 1) * (n - 1)), .int .i64 (loc + j * (2 + 18 * (n - 1) * (n - 1))), .int .i64 n, .int .i64 j, .int .i64 (-1), .int .i64 (packI 4095 (clamp top 255) (clamp top 255))]) (by simp [results, Try.results110, go_sem]) rfl ?_
  exact ⟨rfl, (((Ext.refl _).alloc _).alloc _).drewN 1⟩
end Go.Proofs.Ytpcohbpeglledaa
/-
  Registers of the program: a number that all write, written and read.
-/
namespace Go.Proofs.Ytpcohbpeglledaa
open Go.RowKit Kv
def encP (q : Int × Int) : Value := .agg #[.int .i64 q.1, .int .i64 q.2]
@[go_sem] theorem encP_eq (q : Int × Int) : encP q = .agg #[.int .i64 q.1, .int .i64 q.2] := rfl
theorem Held.set2 {ix : List Nat} {w : World} {p b : Nat} {u v : Value} {t : TypeId} (h : Held ix w p b (.cells #[u, v] t (0, 0))) (u' v' : Value) : Held ix ((w.setCell ⟨b, 0, none⟩ u').setCell ⟨b, 1, none⟩ v') p b (.cells #[u', v'] t (0, 0)) := by
  have h1 : Held ix (w.setCell ⟨b, 0, none⟩ u') p b (.cells #[u', v] t (0, 0)) := ⟨heap_setCell h.1 u', fun h' => h.2 ((ownR_same ((OneB.setCell w b 0 u').block p (fun e => h.2 (.inl e.symm))) b).1 h')⟩
  exact ⟨heap_setCell h1.1 v', fun h' => h1.2 ((ownR_same ((OneB.setCell _ b 1 v').block p (fun e => h1.2 (.inl e.symm))) b).1 h')⟩
theorem OneB.set2 (w : World) (b : Nat) (u v : Value) : OneB b w ((w.setCell ⟨b, 0, none⟩ u).setCell ⟨b, 1, none⟩ v) :=
  ⟨rfl, rfl, rfl, by simp, fun k hk => (heap_setCell_ne _ v hk).trans (heap_setCell_ne w u hk)⟩
theorem manyRs_step (b l n top me : Int) (k : Nat) (j s v : Int) : manyRs b l n top me (k + 1) j s v = (tableR (manyB b n j) (manyL l n j) n j (manyTop top) me).bind fun y =>
      if s ≤ unHi y (clamp top 255) then manyRs b l n top me k (j + 1) (unHi y (clamp top 255)) (unLo y (clamp top 255)) else manyRs b l n top me k (j + 1) s v := rfl
set_option maxHeartbeats 2000000 in
theorem greatest_p (B p : Nat) (S : TS) (r : Reg) (me : Int) (w : World) (h : Plays B w p S) (hn1 : 1 ≤ r.n) (hn2 : r.n ≤ 8) (hm : 0 ≤ me ∧ me < r.n) (hb1 : 0 ≤ r.base) (hb2 : r.base ≤ 50000) (hl1 : 0 ≤ r.loc) (hl2 : r.loc ≤ 49000) :
    Calls Try.prog 109 #[.pointer (some ⟨p, 0, none⟩), encR r, .int .i64 me] w (Post encP B p w ((manyRs r.base r.loc r.n r.top me r.n.toNat 0 0 0).run S)) := by
  generalize hR : Post encP B p w ((manyRs r.base r.loc r.n r.top me r.n.toNat 0 0 0).run S) = R
  have hO : Owes R encP B p w ((manyRs r.base r.loc r.n r.top me r.n.toNat 0 0 0).run S) := hR ▸ owes _ _ _ _ _
  clear hR
  obtain ⟨kind, base, loc, n, wr', rd, top⟩ := r
  simp only at hn1 hn2 hm hb1 hb2 hl1 hl2 hO
  unfold encR
  have hK := Keep.refl [2, 3, 4] B p w
  have hP := h
  have b1 := hP.held (.cells #[.int .i64 kind, .int .i64 base, .int .i64 loc, .int .i64 n, .int .i64 wr', .int .i64 rd, .int .i64 top] 41)
  replace hK := hK.trans (Keep.alloc (.cells #[.int .i64 kind, .int .i64 base, .int .i64 loc, .int .i64 n, .int .i64 wr', .int .i64 rd, .int .i64 top] 41) hP.lt hP.le)
  replace hP := hP.alloc (.cells #[.int .i64 kind, .int .i64 base, .int .i64 loc, .int .i64 n, .int .i64 wr', .int .i64 rd, .int .i64 top] 41)
  have b2 := hP.held (.cells #[.int .i64 0, .int .i64 0] 103)
  simp only [World.size_alloc] at b2
  replace b1 := b1.alloc (.cells #[.int .i64 0, .int .i64 0] 103) hP.lt
  replace hK := hK.trans (Keep.alloc (.cells #[.int .i64 0, .int .i64 0] 103) hP.lt hP.le)
  replace hP := hP.alloc (.cells #[.int .i64 0, .int .i64 0] 103)
  have b3 := hP.held (.cells #[.int .i64 0, .int .i64 0] 103)
  simp only [World.size_alloc] at b3
  replace b1 := b1.alloc (.cells #[.int .i64 0, .int .i64 0] 103) hP.lt
  replace b2 := b2.alloc (.cells #[.int .i64 0, .int .i64 0] 103) hP.lt
  replace hK := hK.trans (Keep.alloc (.cells #[.int .i64 0, .int .i64 0] 103) hP.lt hP.le)
  replace hP := hP.alloc (.cells #[.int .i64 0, .int .i64 0] 103)
  have c_b1 := b1.cells
  have c_b2 := b2.cells
  have c_b3 := b3.cells
  have hBw := Lib.hid h.le
  clear h
  go_enter Try.func109, Try.ntmps109
  go_wp2_with fail
  refine (mthreads_p n _ hn1 hn2).mono ?_
  rintro e w' ⟨rfl, rfl⟩
  go_wp2_with fail
  obtain ⟨N, rfl⟩ : ∃ N : Nat, n = (N : Int) := ⟨n.toNat, by omega⟩
  rw [Int.toNat_natCast] at hO
  go_loopw [14] (fun z wr => ∃ (j : Nat) (s v : Int) (S : TS), z = .int .i64 j ∧ j ≤ N ∧ HeldP wr p w.heap.size (.cells #[.int .i64 kind, .int .i64 base, .int .i64 loc, .int .i64 (N : Int), .int .i64 wr', .int .i64 rd, .int .i64 top] 41) ∧ HeldP wr p (w.heap.size + 1) (.cells #[.int .i64 0, .int .i64 0] 103) ∧ HeldP wr p (w.heap.size + 1 + 1) (.cells #[.int .i64 s, .int .i64 v] 103) ∧ Plays B wr p S ∧ KeepP B p w wr ∧ Owes R encP B p w ((manyRs base loc N top me (N - j) j s v).run S)) (fun z _ => N - (intOf z).toNat)
  case atStart => exact ⟨0, 0, 0, S, rfl, by omega, b1, b2, b3, hP, hK, hO⟩
  case round =>
    clear b1 b2 b3 c_b1 c_b2 c_b3 hO hP hK
    obtain ⟨j, s, v, S, rfl, hj, b1, b2, b3, hP, hK, hO⟩ := hrel
    have c_b1 := b1.cells
    have c_b2 := b2.cells
    have c_b3 := b3.cells
    by_cases hlt : j < N
    · obtain ⟨k, hk⟩ : ∃ k, N - j = k + 1 := ⟨N - j - 1, by omega⟩
      have hkh := Lib.hid hk
      rw [hk, manyRs_step] at hO
      clear hk
      have hm2 := many_bd N j hn1 hn2 (by omega)
      go_wp2_with fail
      replace hP := hP.drew
      replace hK := hK.drew
      replace b1 := b1.drew
      replace b2 := b2.drew
      replace b3 := b3.drew
      go_region_held2 (fun w' => ∀ i : Nat, w'.cell? ⟨w.heap.size, i, none⟩ = (#[.int .i64 kind, .int .i64 base, .int .i64 loc, .int .i64 (N : Int), .int .i64 wr', .int .i64 rd, .int .i64 top] : Array Value)[i]?) (first | exact c_b1 | go_keep)
        (first
          | (go_at_call 110
             refine (of_p ⟨kind, base, loc, N, wr', rd, top⟩ j _ hn1 hn2 (by simp only; omega) hb1 hb2 hl1 hl2).mono ?_
             rintro e w2 ⟨rfl, hx⟩
             clear c_b1 c_b2 c_b3
             replace hK := hK.trans (Keep.of_ext hx hP.lt hP.le)
             replace b1 := b1.ext hx hP.lt
             have c_b1 := b1.cells
             replace b2 := b2.ext hx hP.lt
             have c_b2 := b2.cells
             replace b3 := b3.ext hx hP.lt
             have c_b3 := b3.cells
             replace hP := hP.ext hx
             clear hx)
          | (go_at_call 87
             refine tstep hO hK (table_read_p B p S ⟨6, manyB base N j, manyL loc N j, N, j, -1, manyTop top⟩ me _ hP hn1 hn2 (by simp only; omega) (by simp only; omega) hm (by simp only [manyB]; omega) (by simp only [manyB]; omega) (by simp only [manyL]; omega) (by simp only [manyL]; omega)) (fun _ h => ⟨rfl, h⟩) ?_
             clear hO hK hP c_b1 c_b2 c_b3
             intro y S w1 hr hP hk hK hO
             replace b1 := b1.keep hk
             have c_b1 := b1.cells
             replace b2 := b2.keep hk
             have c_b2 := b2.cells
             replace b3 := b3.keep hk
             have c_b3 := b3.cells
             clear hk hr)
          | (go_at_call 111
             refine (mmost_p top _).mono ?_
             rintro e w' ⟨rfl, rfl⟩)
          | (go_at_call 116
             refine (unpack_x _ _ _).mono ?_
             rintro e w2 ⟨rfl, hx⟩
             clear c_b1 c_b2 c_b3
             replace hK := hK.trans (Keep.of_ext hx hP.lt hP.le)
             replace b1 := b1.ext hx hP.lt
             have c_b1 := b1.cells
             replace b2 := b2.ext hx hP.lt
             have c_b2 := b2.cells
             replace b3 := b3.ext hx hP.lt
             have c_b3 := b3.cells
             replace hP := hP.ext hx
             clear hx))
      clear hm2
      generalize unHi y (clamp top 255) = hi at *
      generalize unLo y (clamp top 255) = lo at *
      have hks := Lib.hid hK.size
      by_cases hs : s ≤ hi
      · rw [if_pos hs] at hO
        have f_b3 := frozen_of_heap b3.1
        have hOh := Lib.hid hO
        have hPh := Lib.hid hP
        have hKh := Lib.hid hK
        clear hO hP hK
        have n3 := b3.2
        go_wp2_with fail
        have o3 := OneB.set2 w2 (w.heap.size + 1 + 1) (.int .i64 hi) (.int .i64 lo)
        refine ⟨⟨j + 1, hi, lo, S, by go_num, by omega, b1.one o3 (by omega) n3, b2.one o3 (by omega) n3, b3.set2 _ _, hPh.out.one o3 n3 (by have := hBw.out; omega), hKh.out.one o3 (by omega) n3 hBw.out, ?_⟩, by simp [intOf]; omega⟩
        rw [show N - (j + 1) = k from by have := hkh.out; omega, show ((j + 1 : Nat) : Int) = (j : Int) + 1 from by omega]
        exact hOh.out
      · rw [if_neg hs] at hO
        have hOh := Lib.hid hO
        have hPh := Lib.hid hP
        have hKh := Lib.hid hK
        clear hO hP hK
        go_wp2_with fail
        refine ⟨⟨j + 1, s, v, S, by go_num, by omega, b1, b2, b3, hPh.out, hKh.out, ?_⟩, by simp [intOf]; omega⟩
        rw [show N - (j + 1) = k from by have := hkh.out; omega, show ((j + 1 : Nat) : Int) = (j : Int) + 1 from by omega]
        exact hOh.out
    · obtain rfl : j = N := by omega
      rw [Nat.sub_self] at hO
      have f_b2 := frozen_of_heap b2.1
      have o2 := OneB.set2 wr (w.heap.size + 1) (.int .i64 s) (.int .i64 v)
      have hf : R (.returned (encP (s, v))) _ := hO.done (hP.one o2 b2.2 (by have := hBw.out; omega)) (hK.one o2 (by omega) b2.2 hBw.out)
      have hr := (b2.set2 (.int .i64 s) (.int .i64 v)).cells
      clear hO o2
      go_wp2_with fail
      exact bodyPost_ret (v := .agg #[.int .i64 s, .int .i64 v]) (by simp [results, Try.results109, go_sem, hr]) rfl hf
theorem unHi_bd (y t : Int) : 0 ≤ unHi y t ∧ unHi y t ≤ 4398046511104 := by
  have h1 := unX_bd y
  have h2 := room_bd t
  unfold unHi
  exact ⟨Int.ediv_nonneg h1.1 (by omega), Int.le_trans (Int.ediv_le_self _ h1.1) h1.2⟩
theorem manyRs_le (b l n top me : Int) : ∀ (k : Nat) (j s v : Int) (S : TS) (q : Int × Int) (S1 : TS), (manyRs b l n top me k j s v).run S = (some q, S1) → 0 ≤ s ∧ s ≤ 4398046511104 → 0 ≤ q.1 ∧ q.1 ≤ 4398046511104
  | 0, j, s, v, S, q, S1, h, hs => by
    cases h
    exact hs
  | k + 1, j, s, v, S, q, S1, h, hs => by
    rw [manyRs_step, Prog.run_bind] at h
    generalize (tableR (manyB b n j) (manyL l n j) n j (manyTop top) me).run S = r at h
    obtain ⟨o, S2⟩ := r
    cases o with
    | none => cases h
    | some y =>
      simp only [thenR] at h
      split at h
      · exact manyRs_le b l n top me k _ _ _ _ _ _ h (unHi_bd _ _)
      · exact manyRs_le b l n top me k _ _ _ _ _ _ h hs
set_option maxRecDepth 100000 in
theorem many_write_p (B p : Nat) (S : TS) (r : Reg) (me v : Int) (w : World) (h : Plays B w p S) (hn1 : 1 ≤ r.n) (hn2 : r.n ≤ 8) (hm : 0 ≤ me ∧ me < r.n) (hb1 : 0 ≤ r.base) (hb2 : r.base ≤ 50000) (hl1 : 0 ≤ r.loc) (hl2 : r.loc ≤ 49000) :
    Calls Try.prog 81 #[.pointer (some ⟨p, 0, none⟩), encR r, .int .i64 me, .int .i64 v] w (Post encU B p w ((manyW r.base r.loc r.n r.top me v).run S)) := by
  generalize hR : Post encU B p w ((manyW r.base r.loc r.n r.top me v).run S) = R
  have hO : Owes R encU B p w ((manyW r.base r.loc r.n r.top me v).run S) := hR ▸ owes _ _ _ _ _
  clear hR
  obtain ⟨kind, base, loc, n, wr, rd, top⟩ := r
  simp only at hn1 hn2 hm hb1 hb2 hl1 hl2 hO
  unfold encR
  have hK := Keep.refl [2, 3, 4] B p w
  have hP := h
  have b1 := hP.held (.cells #[.int .i64 kind, .int .i64 base, .int .i64 loc, .int .i64 n, .int .i64 wr, .int .i64 rd, .int .i64 top] 41)
  replace hK := hK.trans (Keep.alloc (.cells #[.int .i64 kind, .int .i64 base, .int .i64 loc, .int .i64 n, .int .i64 wr, .int .i64 rd, .int .i64 top] 41) hP.lt hP.le)
  replace hP := hP.alloc (.cells #[.int .i64 kind, .int .i64 base, .int .i64 loc, .int .i64 n, .int .i64 wr, .int .i64 rd, .int .i64 top] 41)
  have c_b1 := b1.cells
  clear h
  unfold manyW at hO
  have hd1 : decide (me < 0) = false := by simpa using hm.1
  have hd2 : decide (n ≤ me) = false := by simpa using hm.2
  go_enter Try.func81, Try.ntmps81
  go_wp2_with fail
  refine (mthreads_p n _ hn1 hn2).mono ?_
  rintro e w' ⟨rfl, rfl⟩
  go_wp2_with fail
  refine tstep hO hK (greatest_p B p S ⟨kind, base, loc, n, wr, rd, top⟩ me _ hP hn1 hn2 hm hb1 hb2 hl1 hl2) (fun _ h => ⟨rfl, h⟩) ?_
  clear hO hK hP c_b1
  intro q S w1 hr hP hk hK hO
  replace b1 := b1.keep hk
  have c_b1 := b1.cells
  have hq := manyRs_le _ _ _ _ _ _ _ _ _ _ _ _ hr (by omega)
  obtain ⟨q1, q2⟩ := q
  simp only at hq hO
  have hq1 := IntWalk.i64_in (q1 + 1) (by omega)
  have hm2 := many_bd n me hn1 hn2 hm
  clear hk hr
  have hfd : ∀ w : World, (Instr.field 103 (.agg #[.int .i64 q1, .int .i64 q2]) 0).run Try.prog w = .ok (.int .i64 q1) w := fun _ => by kernel_rfl
  rw [encP_eq]
  go_wp2_with fail
  replace hP := hP.drew
  replace hK := hK.drew
  replace b1 := b1.drew
  go_region_held2 (fun w' => ∀ i : Nat, w'.cell? ⟨w.heap.size, i, none⟩ = (#[.int .i64 kind, .int .i64 base, .int .i64 loc, .int .i64 n, .int .i64 wr, .int .i64 rd, .int .i64 top] : Array Value)[i]?) (first | exact c_b1 | go_keep)
    (first
      | (go_at_call 110
         refine (of_p ⟨kind, base, loc, n, wr, rd, top⟩ me _ hn1 hn2 (by simp only; omega) hb1 hb2 hl1 hl2).mono ?_
         rintro e w2 ⟨rfl, hx⟩
         clear c_b1
         replace hK := hK.trans (Keep.of_ext hx hP.lt hP.le)
         replace b1 := b1.ext hx hP.lt
         have c_b1 := b1.cells
         replace hP := hP.ext hx
         clear hx)
      | (go_at_call 111
         refine (mmost_p top _).mono ?_
         rintro e w' ⟨rfl, rfl⟩)
      | (go_at_call 103
         refine (clamp_p _ _ _).mono ?_
         rintro e w' ⟨rfl, rfl⟩)
      | (go_at_call 104
         refine (pack_p _ _ _ _).mono ?_
         rintro e w' ⟨rfl, rfl⟩)
      | (go_at_call 80
         refine tlast hO hK (table_write_p B p S ⟨6, manyB base n me, manyL loc n me, n, me, -1, manyTop top⟩ me _ _ hP hn1 hn2 (by simp only; omega) (by simp only; omega) (by simp only [manyB]; omega) (by simp only [manyB]; omega) (by simp only [manyL]; omega) (by simp only [manyL]; omega)) (fun _ h => ⟨rfl, h⟩) ?_
         clear hO hK hP c_b1
         intro y S w1 hr hP hk hK hO
         replace b1 := b1.keep hk
         have c_b1 := b1.cells
         clear hk hr))
  go_wp2_with fail
  first | go_end0 | refine bodyPost_ret (results_none rfl _ _ _) rfl ?_
  exact hO.done hP hK
set_option maxRecDepth 100000 in
theorem many_read_p (B p : Nat) (S : TS) (r : Reg) (me : Int) (w : World) (h : Plays B w p S) (hn1 : 1 ≤ r.n) (hn2 : r.n ≤ 8) (hm : 0 ≤ me ∧ me < r.n) (hb1 : 0 ≤ r.base) (hb2 : r.base ≤ 50000) (hl1 : 0 ≤ r.loc) (hl2 : r.loc ≤ 49000) :
    Calls Try.prog 88 #[.pointer (some ⟨p, 0, none⟩), encR r, .int .i64 me] w (Post encI B p w ((manyR r.base r.loc r.n r.top me).run S)) := by
  generalize hR : Post encI B p w ((manyR r.base r.loc r.n r.top me).run S) = R
  have hO : Owes R encI B p w ((manyR r.base r.loc r.n r.top me).run S) := hR ▸ owes _ _ _ _ _
  clear hR
  obtain ⟨kind, base, loc, n, wr, rd, top⟩ := r
  simp only at hn1 hn2 hm hb1 hb2 hl1 hl2 hO
  unfold encR
  have hK := Keep.refl [2, 3, 4] B p w
  have hP := h
  have b1 := hP.held (.cells #[.int .i64 kind, .int .i64 base, .int .i64 loc, .int .i64 n, .int .i64 wr, .int .i64 rd, .int .i64 top] 41)
  replace hK := hK.trans (Keep.alloc (.cells #[.int .i64 kind, .int .i64 base, .int .i64 loc, .int .i64 n, .int .i64 wr, .int .i64 rd, .int .i64 top] 41) hP.lt hP.le)
  replace hP := hP.alloc (.cells #[.int .i64 kind, .int .i64 base, .int .i64 loc, .int .i64 n, .int .i64 wr, .int .i64 rd, .int .i64 top] 41)
  have c_b1 := b1.cells
  clear h
  unfold manyR at hO
  have hd1 : decide (me < 0) = false := by simpa using hm.1
  have hd2 : decide (n ≤ me) = false := by simpa using hm.2
  go_enter Try.func88, Try.ntmps88
  go_wp2_with fail
  refine (mthreads_p n _ hn1 hn2).mono ?_
  rintro e w' ⟨rfl, rfl⟩
  go_wp2_with fail
  refine tstep hO hK (greatest_p B p S ⟨kind, base, loc, n, wr, rd, top⟩ me _ hP hn1 hn2 hm hb1 hb2 hl1 hl2) (fun _ h => ⟨rfl, h⟩) ?_
  clear hO hK hP c_b1
  intro q S w1 hr hP hk hK hO
  replace b1 := b1.keep hk
  have c_b1 := b1.cells
  clear hk hr
  obtain ⟨q1, q2⟩ := q
  simp only at hO
  have hfd : ∀ w : World, (Instr.field 103 (.agg #[.int .i64 q1, .int .i64 q2]) 1).run Try.prog w = .ok (.int .i64 q2) w := fun _ => by kernel_rfl
  rw [encP_eq]
  go_wp2_with fail
  exact hO.done hP hK
end Go.Proofs.Ytpcohbpeglledaa
/-
  Registers of the program: writing and reading one, of whichever kind.
-/
namespace Go.Proofs.Ytpcohbpeglledaa
open Go.RowKit Kv
set_option maxRecDepth 100000 in
set_option maxHeartbeats 2000000 in
theorem reg_write_p (B p : Nat) (S : TS) (r : Reg) (me v : Int) (w : World) (h : Plays B w p S) (hr : r.ok) (hm : 0 ≤ me ∧ me < r.n) :
    Calls Try.prog 43 #[.pointer (some ⟨p, 0, none⟩), encR r, .int .i64 me, .int .i64 v] w (Post encU B p w ((regW r me v).run S)) := by
  generalize hR : Post encU B p w ((regW r me v).run S) = R
  have hO : Owes R encU B p w ((regW r me v).run S) := hR ▸ owes _ _ _ _ _
  clear hR
  obtain ⟨hk, hb, hl, hn, hw⟩ := hr
  obtain ⟨kind, base, loc, n, wr, rd, top⟩ := r
  simp only at hk hb hl hn hw hm hO
  unfold encR
  have hK := Keep.refl [2, 3, 4] B p w
  have hP := h
  have b1 := hP.held (.cells #[.int .i64 kind, .int .i64 base, .int .i64 loc, .int .i64 n, .int .i64 wr, .int .i64 rd, .int .i64 top] 41)
  replace hK := hK.trans (Keep.alloc (.cells #[.int .i64 kind, .int .i64 base, .int .i64 loc, .int .i64 n, .int .i64 wr, .int .i64 rd, .int .i64 top] 41) hP.lt hP.le)
  replace hP := hP.alloc (.cells #[.int .i64 kind, .int .i64 base, .int .i64 loc, .int .i64 n, .int .i64 wr, .int .i64 rd, .int .i64 top] 41)
  have c_b1 := b1.cells
  clear h
  unfold regW at hO
  simp only at hO
  rcases hk with rfl | rfl | rfl
  · simp at hO
    go_enter Try.func43, Try.ntmps43
    go_wp2_with fail
    refine tlast hO hK (write_p B p S _ _ _ hP) (fun _ h => ⟨rfl, h⟩) ?_
    clear hO hK hP c_b1
    intro u S w1 hr hP hk hK hO
    replace b1 := b1.keep hk
    have c_b1 := b1.cells
    clear hk hr
    go_wp2_with fail
    first | go_end0 | refine bodyPost_ret (results_none rfl _ _ _) rfl ?_
    exact hO.done hP hK
  · simp at hO
    obtain ⟨hw1, hw2⟩ := hw rfl
    clear hw
    go_enter Try.func43, Try.ntmps43
    go_wp2_with fail
    refine tlast hO hK (table_write_p B p S ⟨6, base, loc, n, wr, rd, top⟩ me v _ hP hn.1 hn.2 hw1 hw2 hb.1 (by simp only; omega) hl.1 (by simp only; omega)) (fun _ h => ⟨rfl, h⟩) ?_
    clear hO hK hP c_b1
    intro u S w1 hr hP hk hK hO
    replace b1 := b1.keep hk
    have c_b1 := b1.cells
    clear hk hr
    go_wp2_with fail
    first | go_end0 | refine bodyPost_ret (results_none rfl _ _ _) rfl ?_
    exact hO.done hP hK
  · simp at hO
    go_enter Try.func43, Try.ntmps43
    go_wp2_with fail
    refine tlast hO hK (many_write_p B p S ⟨7, base, loc, n, wr, rd, top⟩ me v _ hP hn.1 hn.2 hm hb.1 (by simp only; omega) hl.1 (by simp only; omega)) (fun _ h => ⟨rfl, h⟩) ?_
    clear hO hK hP c_b1
    intro u S w1 hr hP hk hK hO
    replace b1 := b1.keep hk
    have c_b1 := b1.cells
    clear hk hr
    go_wp2_with fail
    first | go_end0 | refine bodyPost_ret (results_none rfl _ _ _) rfl ?_
    exact hO.done hP hK
set_option maxRecDepth 100000 in
set_option maxHeartbeats 2000000 in
theorem reg_read_p (B p : Nat) (S : TS) (r : Reg) (me : Int) (w : World) (h : Plays B w p S) (hr : r.ok) (hm : 0 ≤ me ∧ me < r.n) :
    Calls Try.prog 44 #[.pointer (some ⟨p, 0, none⟩), encR r, .int .i64 me] w (Post encI B p w ((regR r me).run S)) := by
  generalize hR : Post encI B p w ((regR r me).run S) = R
  have hO : Owes R encI B p w ((regR r me).run S) := hR ▸ owes _ _ _ _ _
  clear hR
  obtain ⟨hk, hb, hl, hn, hw⟩ := hr
  obtain ⟨kind, base, loc, n, wr, rd, top⟩ := r
  simp only at hk hb hl hn hw hm hO
  unfold encR
  have hK := Keep.refl [2, 3, 4] B p w
  have hP := h
  have b1 := hP.held (.cells #[.int .i64 kind, .int .i64 base, .int .i64 loc, .int .i64 n, .int .i64 wr, .int .i64 rd, .int .i64 top] 41)
  replace hK := hK.trans (Keep.alloc (.cells #[.int .i64 kind, .int .i64 base, .int .i64 loc, .int .i64 n, .int .i64 wr, .int .i64 rd, .int .i64 top] 41) hP.lt hP.le)
  replace hP := hP.alloc (.cells #[.int .i64 kind, .int .i64 base, .int .i64 loc, .int .i64 n, .int .i64 wr, .int .i64 rd, .int .i64 top] 41)
  have c_b1 := b1.cells
  clear h
  unfold regR at hO
  simp only at hO
  rcases hk with rfl | rfl | rfl
  · simp at hO
    go_enter Try.func44, Try.ntmps44
    go_wp2_with fail
    refine tlast hO hK (read_p B p S _ _ hP) (fun _ h => ⟨rfl, h⟩) ?_
    clear hO hK hP c_b1
    intro x S w1 hr hP hk hK hO
    replace b1 := b1.keep hk
    have c_b1 := b1.cells
    clear hk hr
    go_wp2_with fail
    exact hO.done hP hK
  · simp at hO
    obtain ⟨hw1, hw2⟩ := hw rfl
    clear hw
    go_enter Try.func44, Try.ntmps44
    go_wp2_with fail
    refine tlast hO hK (table_read_p B p S ⟨6, base, loc, n, wr, rd, top⟩ me _ hP hn.1 hn.2 hw1 hw2 hm hb.1 (by simp only; omega) hl.1 (by simp only; omega)) (fun _ h => ⟨rfl, h⟩) ?_
    clear hO hK hP c_b1
    intro x S w1 hr hP hk hK hO
    replace b1 := b1.keep hk
    have c_b1 := b1.cells
    clear hk hr
    go_wp2_with fail
    exact hO.done hP hK
  · simp at hO
    go_enter Try.func44, Try.ntmps44
    go_wp2_with fail
    refine tlast hO hK (many_read_p B p S ⟨7, base, loc, n, wr, rd, top⟩ me _ hP hn.1 hn.2 hm hb.1 (by simp only; omega) hl.1 (by simp only; omega)) (fun _ h => ⟨rfl, h⟩) ?_
    clear hO hK hP c_b1
    intro x S w1 hr hP hk hK hO
    replace b1 := b1.keep hk
    have c_b1 := b1.cells
    clear hk hr
    go_wp2_with fail
    exact hO.done hP hK
end Go.Proofs.Ytpcohbpeglledaa
/-
  The document's Mem: what it owns, and how its fields change.
-/
namespace Go.Proofs.Ytpcohbpeglledaa
open Go.RowKit Kv
abbrev KeepR (B p : Nat) (w w' : World) : Prop := Keep [3, 4, 5] B p w w'
abbrev HeldR (w : World) (p b : Nat) (o : Obj) : Prop := Held [3, 4, 5] w p b o
section
variable {B p : Nat} {w w' w1 : World} {S : TS} {n : Nat} {o : Bool} {vA vL vC vN : Value} {L : List Int}
end
end Go.Proofs.Ytpcohbpeglledaa
/-
  Operations of the document on its Mem: an access, a local got.
-/
namespace Go.Proofs.Ytpcohbpeglledaa
open Go.RowKit Kv
section
variable {α β : Type} {B p : Nat} {w0 w : World} {o : Bool} {S : TS} {R : Ending → World → Prop}
end
end Go.Proofs.Ytpcohbpeglledaa
/-
  Operations of the document on its Mem: a read, a write.
-/
namespace Go.Proofs.Ytpcohbpeglledaa
open Go.RowKit Kv
section
variable {α : Type} {B p : Nat} {w0 : World} {o : Bool} {S : TS} {R : Ending → World → Prop} {enc : α → Value}
theorem ref_gt (l : Int) (o : Bool) (S : TS) : Ref (gt l) o S (S.got l) o S := by
  cases o with
  | true => exact .over _ _
  | false => exact .done rfl
theorem ref_st (i v : Int) (S : TS) : Ref (st i v) false S () false (S.upd i v) := .done rfl
end
end Go.Proofs.Ytpcohbpeglledaa
/-
  Operations of the document on its Mem: a local set.
-/
namespace Go.Proofs.Ytpcohbpeglledaa
open Go.RowKit Kv
def lenAt (w : World) (p : Nat) : Nat := match w.cell? ⟨p, 5, none⟩ with
  | some (.slice _ n _) => n
  | _ => 0
theorem lenAt_of {w : World} {p n c : Nat} {A : Option Addr} (h : w.cell? ⟨p, 5, none⟩ = some (.slice A n c)) : lenAt w p = n := by unfold lenAt; rw [h]
theorem ref_st_out {i : Int} (h : i < 0 ∨ 32768 ≤ i) (v : Int) (o : Bool) (S : TS) : Ref (st i v) o S () o S := by
  cases o with
  | true => exact .over _ _
  | false => exact .done (by show (some (), S.upd i v) = _; rw [TS.upd_out h])
theorem append_int_at {ops : Array Oper} {rest : List Oper} {o : Oper} {a : Act} {Q : Exit → Act → World → Prop} {w : World} (hgd : o.guard = none) (s x : Operand)
    (ho : o.op = .call { callee := .builtin .append, args := #[s, x], argTypes := #[22, 22] })
    (base : Nat) (v : Value) (l : List Int) (y : Int) (hown : w.ownsRow base 3 1 v l.length (l.map (Value.int .i64))) (hs : a.eval s = v) (hx : a.eval x = .slice (some ⟨w.heap.size, 0, none⟩) 1 1)
    (hlen : l.length < 1000000000000) (hbase : base ≤ w.heap.size)
    (h : ∀ g cap w', w'.ownsRow base 3 1 (.slice (some ⟨g, 0, none⟩) (l.length + 1) cap) (l.length + 1) (l.map (Value.int .i64) ++ [Value.int .i64 y]) → w.grownBy w' v.ownBlock → (v.ownBlock = some g ∨ w.heap.size ≤ g) → wpList Try.prog ops Q rest (a.put o.dst (.slice (some ⟨g, 0, none⟩) (l.length + 1) cap)) w') :
    wpList Try.prog ops Q (o :: rest) a (w.alloc (.cells #[.int .i64 y] 3)) := by
  obtain ⟨i0, hi, hz0, hz1, hz2⟩ := info_parts info_int
  refine wpList_append_own_at _ hgd s x 22 ho base 3 i0 (.int .i64 0) 1 8 Try.underlying22 hi hz0 hz1 hz2 rfl (by decide) v l.length _ hs (World.ownsRow.alloc hown _) ⟨w.heap.size, 0, none⟩ 1 1 [.int .i64 y] hx rfl (cell_one_new _ _ _) (by simp [Value.oneCell']) (by unfold maxLen; omega) (by omega) (by simp; omega) fun v' w' h1 h2 _ h4 => ?_
  rcases h1.2 with ⟨rfl, e⟩ | ⟨g, cap, cur, rfl, _⟩
  · omega
  · refine h g cap w' h1 (World.grownBy.trans (World.grownBy_alloc w _ _) h2) ?_
    rcases h4 with e | e
    · exact .inl e.symm
    · simp only [Value.ownBlock, Option.some.injEq, World.size_alloc] at e
      exact .inr (by omega)
end Go.Proofs.Ytpcohbpeglledaa
/-
  Lists of the document's tape: numbers made tame, noughts at the end cut off.
-/
namespace Kv
/-- Numbers from 0 to a greatest one. -/
def tameL (L : List Int) (top : Int) : List Int := (L.take 3000).map fun x => wrapI x top
/-- A list without noughts at its end. -/
def shortN (L : List Int) : Nat → Nat
  | 0 => 0
  | n + 1 => if L.getD n 0 = 0 then shortN L n else n + 1
def shortL (L : List Int) : List Int := L.take (shortN L L.length)
theorem shortN_le (L : List Int) : ∀ n, shortN L n ≤ n
  | 0 => Nat.le_refl _
  | n + 1 => by
    unfold shortN
    split
    · exact Nat.le_succ_of_le (shortN_le L n)
    · exact Nat.le_refl _
end Kv
namespace Go.Proofs.Ytpcohbpeglledaa
open Go.RowKit Kv
set_option maxRecDepth 100000 in
theorem tame_r (v : Value) (L : List Int) (top : Int) (w : World) (h : Ints w v L) :
    Calls Try.prog 9 #[v, .int .i64 top] w fun e w' => ∃ v', e = .returned v' ∧ IntRow w' w.heap.size v' (tameL L top) ∧ Ext w w' := by
  obtain ⟨A, c, rfl, q1, q2⟩ := h.slice
  go_enter Try.func9, Try.ntmps9
  go_wp2_with fail
  go_loopw [5, 6] (fun v i wr => ∃ j : Nat, i = .int .i64 j ∧ j ≤ L.length ∧ j ≤ 3000 ∧ IntRow wr w.heap.size v ((L.take j).map fun x => wrapI x top) ∧ Ext w wr) (fun _ i _ => 3000 - (intOf i).toNat)
  case atStart => exact ⟨0, rfl, by omega, by omega, IntRow.nil _ _, Ext.refl _⟩
  case round =>
    obtain ⟨j, rfl, hj, hj2, hown, hE⟩ := hrel
    have hsz := hE.size
    have hlt1 : ((L.take j).map fun x => wrapI x top).length < 1000000000000 := by simp; omega
    by_cases hl : j < L.length ∧ j < 3000
    · obtain ⟨hl1, hl2⟩ := hl
      obtain ⟨b, off, rfl, hb, hcell⟩ := (h.ext hE).at_ hl1
      have hs : ((L.take (j + 1)).map fun x => wrapI x top) = ((L.take j).map fun x => wrapI x top) ++ [wrapI (L.getD j 0) top] := by
        rw [List.take_succ_eq_append_getElem hl1, List.map_append]
        simp [List.getD, hl1]
      have H1 := Lib.hid hs
      clear hs
      generalize L.getD j 0 = E at *
      have hEh := Lib.hid hE
      clear hE
      generalize hM : ((L.take j).map fun x => wrapI x top) = M at *
      clear hM
      have hh := Lib.hid h
      clear h
      go_wp2_with (first | (go_at_call 37; refine (wrap_r _ _ _).mono ?_; rintro e w' ⟨rfl, rfl⟩) | (at_builtin; refine append_int rfl _ _ rfl w.heap.size _ M (wrapI E top) hown rfl rfl hlt1 hsz ?_))
      intro v' w1 hown' hgrow
      have hE' := hEh.out.appended hown hgrow
      rw [← H1.out] at hown'
      clear hown hgrow
      go_wp2_with fail
      go_roundw
      case rel => exact ⟨j + 1, by go_num, by omega, by omega, hown', hE'⟩
      case measure => simp [intOf]; omega
    · have hf : ((L.take j).map fun x => wrapI x top) = tameL L top := by
        unfold tameL
        congr 1
        by_cases e : j < L.length
        · rw [show j = 3000 by omega]
        · rw [List.take_of_length_le (by omega), List.take_of_length_le (by omega)]
      rw [hf] at hown
      clear hf hlt1
      by_cases e : j < L.length
      · have e3 : ¬ j < 3000 := fun e3 => hl ⟨e, e3⟩
        clear hl h
        go_wp2_with fail
        go_ret
        exact ⟨_, rfl, hown, hE⟩
      · clear hl h
        go_wp2_with fail
        go_ret
        exact ⟨_, rfl, hown, hE⟩
theorem Ints.take {w : World} {A : Option Addr} {c : Nat} {L : List Int} (h : Ints w (.slice A L.length c) L) (m : Nat) (hm : m ≤ L.length) : Ints w (.slice A m c) (L.take m) := by
  obtain ⟨A', c', he, h1, h2, h3⟩ := h
  injection he with e1 e2 e3
  subst e1 e3
  have hl : (L.take m).length = m := by rw [List.length_take]; omega
  refine ⟨A, c, by rw [hl], by omega, h2, fun hne => ?_⟩
  obtain ⟨b, off, rfl, hb, hc⟩ := h3 (fun e => hne (by rw [e]; simp))
  refine ⟨b, off, rfl, hb, fun i x hi => hc i x ?_⟩
  rw [List.getElem?_take] at hi
  split at hi
  · exact hi
  · cases hi
theorem shortL_ints {w : World} {A : Option Addr} {c : Nat} {L : List Int} (h : Ints w (.slice A L.length c) L) : Ints w (.slice A (shortN L L.length) c) (shortL L) := h.take _ (shortN_le _ _)
end Go.Proofs.Ytpcohbpeglledaa
/-
  A list cloned.
-/
namespace Go.Proofs.Ytpcohbpeglledaa
open Go.RowKit Kv
set_option maxRecDepth 100000 in
/-- All of a list behind an empty row. -/
theorem append_all {ops : Array Oper} {rest : List Oper} {o : Oper} {a : Act} {Q : Exit → Act → World → Prop} {w : World} (hgd : o.guard = none) (s x : Operand)
    (ho : o.op = .call { callee := .builtin .append, args := #[s, x], argTypes := #[22, 22] })
    (ad : Addr) (c : Nat) (L : List Int) (hL : Ints w (.slice (some ad) L.length c) L) (hs : a.eval s = .slice (some ⟨w.heap.size, 0, none⟩) 0 0) (hx : a.eval x = .slice (some ad) L.length c)
    (hlen : L.length < 1000000)
    (h : ∀ v' w', IntRow w' w.heap.size v' L → Ext w w' → wpList Try.prog ops Q rest (a.put o.dst v') w') :
    wpList Try.prog ops Q (o :: rest) a (w.alloc (.cells #[] 3)) := by
  obtain ⟨i0, hi, hz0, hz1, hz2⟩ := info_parts info_int
  have hown : (w.alloc (.cells #[] 3)).ownsRow w.heap.size 3 1 (.slice (some ⟨w.heap.size, 0, none⟩) 0 0) 0 [] :=
    ⟨rfl, .inr ⟨w.heap.size, 0, #[], rfl, Nat.le_refl _, heap_alloc_new _ _, Nat.le_refl _, Nat.zero_le _, rfl, rfl⟩⟩
  refine wpList_append_own_at _ hgd s x 22 ho w.heap.size 3 i0 (.int .i64 0) 1 8 Try.underlying22 hi hz0 hz1 hz2 rfl (by decide) _ 0 [] hs hown ad L.length c (L.map (Value.int .i64)) hx (by simp) ?_ (by simp [Value.oneCell']) (by unfold maxLen; omega) (by omega) (by simp) fun v' w' h1 h2 _ _ => ?_
  · intro j u hu
    obtain ⟨A', c', he, _, _, h3⟩ := hL.ext ((Ext.refl w).alloc (.cells #[] 3))
    rw [List.getElem?_map] at hu
    cases hj : L[j]? with
    | none => rw [hj] at hu; cases hu
    | some y =>
      rw [hj] at hu
      obtain ⟨b, off, rfl, _, hc⟩ := h3 (fun e => by rw [e] at hj; cases hj)
      injection he with e1 e2 e3
      injection e1 with e1
      subst e1
      rw [Addr.add_lit]
      rw [hc j y hj]
      simpa using hu
  · rw [List.nil_append, Nat.zero_add] at h1
    exact h v' w' h1 (Below.grown ((Ext.refl w).alloc (.cells #[] 3)) h2 (by simp) (fun k hk => by simp [Value.ownBlock] at hk; omega))
set_option maxRecDepth 100000 in
theorem clone_x (a : Addr) (c : Nat) (L : List Int) (w : World) (h : Ints w (.slice (some a) L.length c) L) (hl : L.length < 1000000) :
    Calls Try.prog 39 #[.slice (some a) L.length c] w fun e w' => ∃ v', e = .returned v' ∧ IntRow w' w.heap.size v' L ∧ Ext w w' := by
  have hcmp : ∀ (n : Nat) (w : World), (binOp .eql 22 (.slice (some a) n c) (.slice none 0 0)).run Try.prog w = .ok (.bool false) w := fun _ _ => rfl
  go_enter Try.func39, Try.ntmps39
  go_wp2_with (at_builtin; refine append_all rfl _ _ rfl a c L h rfl rfl hl ?_)
  intro v' w' h1 h2
  go_wp2_with fail
  go_ret
  exact ⟨v', rfl, h1, h2⟩
set_option maxRecDepth 100000 in
theorem clone_nil (c : Nat) (w : World) : Calls Try.prog 39 #[.slice none 0 c] w fun e w' => e = .returned (.slice none 0 0) ∧ w = w' := by
  have hcmp : ∀ (n : Nat) (w : World), (binOp .eql 22 (.slice none n c) (.slice none 0 0)).run Try.prog w = .ok (.bool true) w := fun _ _ => rfl
  go_enter Try.func39, Try.ntmps39
  go_wp2_with fail
  go_ret
  exact ⟨rfl, rfl⟩
theorem clone_any (A : Option Addr) (c : Nat) (L : List Int) (w : World) (h : Ints w (.slice A L.length c) L) (hl : L.length < 1000000) :
    Calls Try.prog 39 #[.slice A L.length c] w fun e w' => ∃ v', e = .returned v' ∧ IntRow w' w.heap.size v' L ∧ Ext w w' := by
  cases A with
  | some a => exact clone_x a c L w h hl
  | none =>
    have hL : L = [] := by
      obtain ⟨A', c', he, _, _, h3⟩ := h
      by_cases e : L = []
      · exact e
      · obtain ⟨b, off, rfl, _⟩ := h3 e
        cases he
    subst hL
    refine (clone_nil c w).mono ?_
    rintro e w' ⟨rfl, rfl⟩
    exact ⟨_, rfl, IntRow.nil _ _, Ext.refl _⟩
set_option maxRecDepth 100000 in
theorem tshort_p (A : Option Addr) (c : Nat) (L : List Int) (w : World) (h : Ints w (.slice A L.length c) L) (q1 : L.length ≤ c) (_q2 : c ≤ 9223372036854775807) (_q3 : L.length < 1000000) :
    Calls Try.prog 41 #[.slice A L.length c] w fun e w' => ∃ v', e = .returned v' ∧ IntRow w' w.heap.size v' (shortL L) ∧ Ext w w' := by
  go_enter Try.func41, Try.ntmps41
  go_wp2_with fail
  go_loopw [3] (fun v wr => ∃ n : Nat, v = .int .i64 n ∧ n ≤ L.length ∧ Hid (shortN L n = shortN L L.length) ∧ w = wr) (fun v _ => (intOf v).toNat)
  case atStart => exact ⟨L.length, rfl, by omega, rfl, rfl⟩
  case round =>
    obtain ⟨n, rfl, hn, hs, rfl⟩ := hrel
    have hlen : ∀ m, m ≤ L.length → (L.take m).length = m := fun m hm => by rw [List.length_take]; omega
    cases n with
    | zero =>
      have hf : L.take 0 = shortL L := by unfold shortL; rw [← hs.out]; rfl
      have hT := clone_any A c (L.take 0) w (by have := h.take 0 (by omega); rw [hlen 0 (by omega)]; exact this) (by simp)
      rw [hlen 0 (by omega), hf] at hT
      clear hs h hf hlen
      go_wp2_with fail
      refine hT.mono ?_
      rintro e w1 ⟨v', rfl, h1, h2⟩
      go_wp2_with fail
      go_ret
      exact ⟨v', rfl, h1, h2⟩
    | succ n =>
      obtain ⟨b, off, rfl, hb, hcell⟩ := h.at_ (show n < L.length by omega)
      by_cases e : L.getD n 0 = 0
      · have hs2 : Hid (shortN L n = shortN L L.length) := Lib.hid (by rw [← hs.out]; show _ = (if L.getD n 0 = 0 then shortN L n else n + 1); rw [if_pos e])
        rw [e] at hcell
        clear hs e h hlen
        go_wp2_with fail
        exact ⟨⟨n, rfl, by omega, hs2, by trivial⟩, by simp [intOf]⟩
      · have e3 := Lib.hid (show shortN L L.length = n + 1 from by rw [← hs.out]; show (if L.getD n 0 = 0 then shortN L n else n + 1) = _; rw [if_neg e])
        have hf : L.take (n + 1) = shortL L := by unfold shortL; rw [e3.out]
        have hT := clone_any (some ⟨b, off, none⟩) c (L.take (n + 1)) w (by have := h.take (n + 1) (by omega); rw [hlen (n + 1) (by omega)]; exact this) (by rw [hlen (n + 1) (by omega)]; omega)
        rw [hlen (n + 1) (by omega), hf] at hT
        have e2 : (L.getD n 0 == 0) = false := by rw [beq_eq_false_iff_ne]; exact e
        generalize L.getD n 0 = E at *
        clear hs e h hf hlen
        go_wp2_with fail
        refine hT.mono ?_
        rintro e w1 ⟨v', rfl, h1, h2⟩
        go_wp2_with fail
        go_ret
        exact ⟨v', rfl, h1, h2⟩
end Go.Proofs.Ytpcohbpeglledaa
/-
  Registers of the document: an atomic bit written and read.
-/
namespace Go.Proofs.Ytpcohbpeglledaa
open Go.RowKit Kv
end Go.Proofs.Ytpcohbpeglledaa
/-
  Registers of the document: a number out of four slots.
-/
namespace Go.Proofs.Ytpcohbpeglledaa
open Go.RowKit Kv
theorem other_bit (y : Int) : otherM y = 1 - bitM y := by unfold otherM bitM; split <;> rfl
end Go.Proofs.Ytpcohbpeglledaa
/-
  Registers of the document: who reads a table, and which numbers it is made of.
-/
namespace Kv
/-- The readers among the first so many threads. -/
def rdrs (wr : Int) : Nat → List Int
  | 0 => []
  | j + 1 => if (j : Int) = wr then rdrs wr j else rdrs wr j ++ [(j : Int)]
theorem rdrs_len (wr : Nat) : ∀ j : Nat, (rdrs wr j).length = if wr < j then j - 1 else j
  | 0 => by simp [rdrs]
  | j + 1 => by
    have h := rdrs_len wr j
    unfold rdrs
    by_cases e : j = wr
    · rw [if_pos (by omega), h, if_neg (by omega), if_pos (by omega)]; omega
    · rw [if_neg (by omega), List.length_append, h]
      simp only [List.length_singleton]
      by_cases e2 : wr < j
      · rw [if_pos e2, if_pos (by omega)]; omega
      · rw [if_neg e2, if_neg (by omega)]
theorem rdrs_at (wr : Nat) : ∀ j i : Nat, i < (rdrs wr j).length → (rdrs wr j).getD i 0 = if i < wr then (i : Int) else i + 1
  | 0, i, h => by simp [rdrs] at h
  | j + 1, i, h => by
    have hl := rdrs_len wr j
    unfold rdrs at h ⊢
    by_cases e : j = wr
    · rw [if_pos (by omega)] at h ⊢
      exact rdrs_at wr j i h
    · rw [if_neg (by omega)] at h ⊢
      rw [List.length_append, List.length_singleton] at h
      by_cases e2 : i < (rdrs wr j).length
      · rw [← rdrs_at wr j i e2]
        simp [List.getD, List.getElem?_append, e2]
      · obtain rfl : i = (rdrs wr j).length := by omega
        simp only [List.getD_eq_getElem?_getD, List.getElem?_append, Nat.lt_irrefl, if_false, Nat.sub_self]
        show (j : Int) = _
        rw [hl]
        by_cases e3 : wr < j
        · rw [if_pos e3, if_neg (by omega)]; omega
        · rw [if_neg e3, if_pos (by omega)]
end Kv
namespace Go.Proofs.Ytpcohbpeglledaa
open Go.RowKit Kv
/-- A block as it lies. -/
def Blk (w : World) (b : Nat) (o : Obj) : Prop := w.heap[b]? = some o
theorem Blk.lt {w : World} {b : Nat} {o : Obj} (h : Blk w b o) : b < w.heap.size := (Array.getElem?_eq_some_iff.1 h).1
theorem Blk.new (w : World) (o : Obj) : Blk (w.alloc o) w.heap.size o := heap_alloc_new w o
theorem Blk.ext {w w' : World} {b : Nat} {o : Obj} (h : Blk w b o) (hx : Ext w w') : Blk w' b o := (Below.block hx b (Array.getElem?_eq_some_iff.1 h).1).trans h
theorem Blk.alloc {w : World} {b : Nat} {o : Obj} (h : Blk w b o) (o' : Obj) : Blk (w.alloc o') b o := h.ext ((Ext.refl w).alloc o')
theorem Blk.drew {w : World} {b : Nat} {o : Obj} (h : Blk w b o) : Blk w.drew b o := h
theorem Blk.cells {w : World} {b : Nat} {cs : Array Value} {t : TypeId} {fz : Nat × Nat} (h : Blk w b (.cells cs t fz)) (i : Nat) : w.cell? ⟨b, i, none⟩ = cs[i]? := cell_of_heap h i
theorem rn_r (r : Reg) (w : World) (h1 : 1 ≤ r.n) (h2 : r.n ≤ 8) : Calls Try.prog 93 #[encR r] w fun e w' => e = .returned (.int .i64 r.n) ∧ Ext w w' := by
  obtain ⟨kind, base, loc, n, wr, rd, top⟩ := r
  simp only at h1 h2
  have hc : clamp n 8 = n := by unfold clamp within; omega
  have hx := Lib.hid ((Ext.refl w).alloc (.cells #[.int .i64 kind, .int .i64 base, .int .i64 loc, .int .i64 n, .int .i64 wr, .int .i64 rd, .int .i64 top] 41))
  unfold encR
  go_enter Try.func93, Try.ntmps93
  go_wp2_with fail
  refine (clamp_r _ _ _).mono ?_
  rintro e w' ⟨rfl, rfl⟩
  rw [hc]
  go_wp2_with fail
  go_ret
  exact ⟨rfl, hx.out⟩
end Go.Proofs.Ytpcohbpeglledaa
/-
  What comes out of a played operation, on both sides (plain), and the document's Out.
-/
namespace Kv
theorem shortN_zero (L : List Int) : ∀ n i, shortN L n ≤ i → i < n → L.getD i 0 = 0
  | 0, i, _, h => absurd h (Nat.not_lt_zero i)
  | n + 1, i, h1, h2 => by
    unfold shortN at h1
    split at h1
    · rename_i e
      by_cases hi : i = n
      · rw [hi]; exact e
      · exact shortN_zero L n i h1 (by omega)
    · omega
theorem shortN_last (L : List Int) : ∀ n, shortN L n = 0 ∨ L.getD (shortN L n - 1) 0 ≠ 0
  | 0 => .inl rfl
  | n + 1 => by
    unfold shortN
    split
    · exact shortN_last L n
    · rename_i e; exact .inr e
theorem shortL_zero (L : List Int) (i : Nat) (h : shortN L L.length ≤ i) : L.getD i 0 = 0 := by
  by_cases hi : i < L.length
  · exact shortN_zero L _ i h hi
  · simp [List.getD, List.getElem?_eq_none (show L.length ≤ i by omega)]
theorem shortN_eq {L L' : List Int} (h : ∀ i, L.getD i 0 = L'.getD i 0) : shortN L L.length = shortN L' L'.length := by
  have a := shortN_last L L.length
  have b := shortN_last L' L'.length
  have a2 := shortL_zero L
  have b2 := shortL_zero L'
  generalize shortN L L.length = N at *
  generalize shortN L' L'.length = N' at *
  rcases Nat.lt_trichotomy N N' with e | e | e
  · rcases b with b | b
    · omega
    · exact absurd ((h _).symm.trans (a2 (N' - 1) (by omega))) b
  · exact e
  · rcases a with a | a
    · omega
    · exact absurd ((h _).trans (b2 (N - 1) (by omega))) a
/-- Lists of the same locals are the same, cut short. -/
theorem shortL_eq {L L' : List Int} (h : ∀ i, L.getD i 0 = L'.getD i 0) : shortL L = shortL L' := by
  have e := shortN_eq h
  have l1 := shortN_le L L.length
  have l2 := shortN_le L' L'.length
  unfold shortL
  apply List.ext_getElem?
  intro i
  rw [List.getElem?_take, List.getElem?_take, e]
  split
  · rename_i hi
    have hh := h i
    rw [List.getD_eq_getElem?_getD, List.getD_eq_getElem?_getD] at hh
    rw [List.getElem?_eq_getElem (show i < L.length by omega), List.getElem?_eq_getElem (show i < L'.length by omega)] at hh ⊢
    simpa using hh
  · rfl
/-- What the document's way comes to is what the program's comes to. -/
theorem Ref.outcome {α : Type} {p : Prog α} {S S' : TS} {a : α} {o : Bool} (h : Ref p false S a o S') : p.run S = (if o then none else some a, S') := by
  cases h with
  | done h => exact h
  | stop _ h => exact h
end Kv
namespace Go.Proofs.Ytpcohbpeglledaa
open Go.RowKit Kv
end Go.Proofs.Ytpcohbpeglledaa
/-
  What comes out of a played operation, as a value that can be read: its accesses, notes and locals.
-/
namespace Go.Proofs.Ytpcohbpeglledaa
open Go.RowKit Kv
/-- A row of values from the head of a block on. -/
def Vals (w : World) (A : Option Addr) (vals : List Value) : Prop := vals ≠ [] → ∃ b, A = some ⟨b, 0, none⟩ ∧ b < w.heap.size ∧ ∀ i u, vals[i]? = some u → w.cell? ⟨b, i, none⟩ = some u
theorem Vals.ext {w w' : World} {A : Option Addr} {vals : List Value} (h : Vals w A vals) (hx : Ext w w') : Vals w' A vals := by
  intro hne
  obtain ⟨b, rfl, hb, hc⟩ := h hne
  exact ⟨b, rfl, Nat.lt_of_lt_of_le hb hx.size, fun i u hu => (hx.cell (p := ⟨b, i, none⟩) hb).trans (hc i u hu)⟩
/-- A row that is owned can be read. -/
theorem vals_row {w : World} {B e size n : Nat} {v : Value} {xs : List Value} (h : w.ownsRow B e size v n xs) : ∃ A c, v = .slice A n c ∧ n ≤ c ∧ c ≤ 9223372036854775807 ∧ Vals w A xs := by
  have h' := h
  obtain ⟨hl, h2⟩ := h
  rcases h2 with ⟨rfl, h0⟩ | ⟨g, cap, cur, rfl, hg, hh, hn, hm, hs, ht⟩
  · subst h0
    refine ⟨none, 0, rfl, Nat.le_refl _, by omega, fun hne => absurd ?_ hne⟩
    simpa using hl
  · refine ⟨_, _, rfl, hn, by unfold maxLen at hm; exact hm, fun _ => ⟨g, rfl, (Array.getElem?_eq_some_iff.1 hh).1, fun i u hi => ?_⟩⟩
    have hc := World.ownsRow.cells h' (g := g) rfl i u hi
    rw [Addr.add_lit, Nat.zero_add] at hc
    exact hc
theorem accVals_len (l : List Acc) : (accVals l).length = 3 * l.length := by
  induction l with
  | nil => rfl
  | cons a l ih => rw [show accVals (a :: l) = [.int .i64 a.kind, .int .i64 a.cell, .int .i64 a.val] ++ accVals l from rfl, List.length_append, ih]; simp; omega
theorem ntVals_len (l : List Nt) : (ntVals l).length = 2 * l.length := by
  induction l with
  | nil => rfl
  | cons a l ih => rw [show ntVals (a :: l) = [.int .i64 a.kind, .int .i64 a.pos] ++ ntVals l from rfl, List.length_append, ih]; simp; omega
theorem accVals_at : ∀ (l : List Acc) (i : Nat) (a : Acc), l[i]? = some a → (accVals l)[3 * i]? = some (.int .i64 a.kind) ∧ (accVals l)[3 * i + 1]? = some (.int .i64 a.cell) ∧ (accVals l)[3 * i + 2]? = some (.int .i64 a.val)
  | [], i, a, h => by simp at h
  | x :: l, 0, a, h => by
    obtain rfl : x = a := by simpa using h
    exact ⟨rfl, rfl, rfl⟩
  | x :: l, i + 1, a, h => by
    have := accVals_at l i a (by simpa using h)
    rw [show accVals (x :: l) = [.int .i64 x.kind, .int .i64 x.cell, .int .i64 x.val] ++ accVals l from rfl]
    refine ⟨?_, ?_, ?_⟩
    · rw [List.getElem?_append_right (by simp; omega)]; simpa [show 3 * (i + 1) - 3 = 3 * i by omega] using this.1
    · rw [List.getElem?_append_right (by simp; omega)]; simpa [show 3 * (i + 1) + 1 - 3 = 3 * i + 1 by omega] using this.2.1
    · rw [List.getElem?_append_right (by simp; omega)]; simpa [show 3 * (i + 1) + 2 - 3 = 3 * i + 2 by omega] using this.2.2
theorem ntVals_at : ∀ (l : List Nt) (i : Nat) (a : Nt), l[i]? = some a → (ntVals l)[2 * i]? = some (.int .i64 a.kind) ∧ (ntVals l)[2 * i + 1]? = some (.int .i64 a.pos)
  | [], i, a, h => by simp at h
  | x :: l, 0, a, h => by
    obtain rfl : x = a := by simpa using h
    exact ⟨rfl, rfl⟩
  | x :: l, i + 1, a, h => by
    have := ntVals_at l i a (by simpa using h)
    rw [show ntVals (x :: l) = [.int .i64 x.kind, .int .i64 x.pos] ++ ntVals l from rfl]
    refine ⟨?_, ?_⟩
    · rw [List.getElem?_append_right (by simp; omega)]; simpa [show 2 * (i + 1) - 2 = 2 * i by omega] using this.1
    · rw [List.getElem?_append_right (by simp; omega)]; simpa [show 2 * (i + 1) + 1 - 2 = 2 * i + 1 by omega] using this.2
/-- Accesses that can be read at an address. -/
def AccAt (w : World) (A : Option Addr) (l : List Acc) : Prop := Vals w A (accVals l)
def NtAt (w : World) (A : Option Addr) (l : List Nt) : Prop := Vals w A (ntVals l)
theorem AccAt.at_ {w : World} {A : Option Addr} {l : List Acc} (h : AccAt w A l) {i : Nat} {a : Acc} (hi : l[i]? = some a) :
    ∃ b, A = some ⟨b, 0, none⟩ ∧ b < w.heap.size ∧ w.cell? ⟨b, i * 3, none⟩ = some (.int .i64 a.kind) ∧ w.cell? ⟨b, i * 3 + 1, none⟩ = some (.int .i64 a.cell) ∧ w.cell? ⟨b, i * 3 + 2, none⟩ = some (.int .i64 a.val) := by
  obtain ⟨h0, h1, h2⟩ := accVals_at l i a hi
  obtain ⟨b, rfl, hb, hc⟩ := h (fun e => by rw [e] at h0; simp at h0)
  rw [Nat.mul_comm i 3]
  exact ⟨b, rfl, hb, hc _ _ h0, hc _ _ h1, hc _ _ h2⟩
theorem NtAt.at_ {w : World} {A : Option Addr} {l : List Nt} (h : NtAt w A l) {i : Nat} {a : Nt} (hi : l[i]? = some a) :
    ∃ b, A = some ⟨b, 0, none⟩ ∧ b < w.heap.size ∧ w.cell? ⟨b, i * 2, none⟩ = some (.int .i64 a.kind) ∧ w.cell? ⟨b, i * 2 + 1, none⟩ = some (.int .i64 a.pos) := by
  obtain ⟨h0, h1⟩ := ntVals_at l i a hi
  obtain ⟨b, rfl, hb, hc⟩ := h (fun e => by rw [e] at h0; simp at h0)
  rw [Nat.mul_comm i 2]
  exact ⟨b, rfl, hb, hc _ _ h0, hc _ _ h1⟩
/-- An Out: done or not, so many accesses, notes and locals. -/
structure OutIs (w : World) (d : Bool) (S : TS) (A : Option Addr) (c : Nat) (A' : Option Addr) (c' : Nat) (vs : Value) (L : List Int) : Prop where
  accs : AccAt w A S.acc
  nts : NtAt w A' S.nts
  locs : Ints w vs (shortL L)
  is : LocIs L S.loc
  len : L.length ≤ 32768
  accc : S.acc.length ≤ c ∧ c ≤ 9223372036854775807
  ntsc : S.nts.length ≤ c' ∧ c' ≤ 9223372036854775807
def outV (d : Bool) (S : TS) (A : Option Addr) (c : Nat) (A' : Option Addr) (c' : Nat) (vs : Value) : Value := .agg #[.bool d, .slice A S.acc.length c, .slice A' S.nts.length c', vs]
theorem OutIs.ext {w w' : World} {d : Bool} {S : TS} {A : Option Addr} {c : Nat} {A' : Option Addr} {c' : Nat} {vs : Value} {L : List Int} (h : OutIs w d S A c A' c' vs L) (hx : Ext w w') : OutIs w' d S A c A' c' vs L :=
  { h with accs := Vals.ext h.accs hx, nts := Vals.ext h.nts hx, locs := h.locs.ext hx }
/-- The value v is the Out of d and S. -/
def Outs (w : World) (v : Value) (d : Bool) (S : TS) : Prop := ∃ A c A' c' vs L, v = outV d S A c A' c' vs ∧ OutIs w d S A c A' c' vs L
theorem Outs.ext {w w' : World} {v : Value} {d : Bool} {S : TS} (h : Outs w v d S) (hx : Ext w w') : Outs w' v d S := by
  obtain ⟨A, c, A', c', vs, L, rfl, h⟩ := h
  exact ⟨A, c, A', c', vs, L, rfl, h.ext hx⟩
theorem outs_of {w : World} {B : Nat} {d : Bool} {S : TS} {vC vN vs : Value} {L : List Int} (h1 : w.ownsRow B 39 3 vC S.acc.length (accVals S.acc)) (h2 : w.ownsRow B 53 2 vN S.nts.length (ntVals S.nts)) (h3 : Ints w vs (shortL L)) (h4 : LocIs L S.loc) (h5 : L.length ≤ 32768) :
    Outs w (.agg #[.bool d, vC, vN, vs]) d S := by
  obtain ⟨A, c, rfl, q1, q2, q3⟩ := vals_row h1
  obtain ⟨A', c', rfl, r1, r2, r3⟩ := vals_row h2
  exact ⟨A, c, A', c', vs, L, rfl, q3, r3, h3, h4, h5, ⟨q1, q2⟩, ⟨r1, r2⟩⟩
end Go.Proofs.Ytpcohbpeglledaa
/-
  Worlds in which only one block of those that were there has turned: what a drawn region holds that calls and stores.
-/
namespace Go.Proofs.Ytpcohbpeglledaa
open Go.RowKit Kv
/-- From W on only block b has turned, which still has n cells. -/
structure Near (W : World) (b n : Nat) (t : TypeId) (w : World) : Prop where
  os : w.os = W.os
  tape : w.tape = W.tape
  output : w.output = W.output
  size : W.heap.size ≤ w.heap.size
  rest : ∀ k, k < W.heap.size → k ≠ b → w.heap[k]? = W.heap[k]?
  blk : ∃ cs, w.heap[b]? = some (.cells cs t (0, 0)) ∧ cs.size = n
section
variable {W w w' : World} {b n : Nat} {t : TypeId}
theorem Near.new {cs : Array Value} (h : W.heap[b]? = some (.cells cs t (0, 0))) (hn : cs.size = n) : Near W b n t W := ⟨rfl, rfl, rfl, Nat.le_refl _, fun _ _ _ => rfl, cs, h, hn⟩
theorem Near.ext (h : Near W b n t w) (hx : Ext w w') : Near W b n t w' := by
  obtain ⟨cs, h1, h2⟩ := h.blk
  exact ⟨hx.os.trans h.os, hx.tape.trans h.tape, hx.output.trans h.output, Nat.le_trans h.size hx.size, fun k hk hb => (Below.block hx k (Nat.lt_of_lt_of_le hk h.size)).trans (h.rest k hk hb), cs, (Below.block hx b (Array.getElem?_eq_some_iff.1 h1).1).trans h1, h2⟩
theorem Near.drew (h : Near W b n t w) : Near W b n t w.drew := h.ext (Ext.refl w).drew
theorem Near.set (h : Near W b n t w) (i : Nat) (u : Value) : Near W b n t (w.setCell ⟨b, i, none⟩ u) := by
  obtain ⟨cs, h1, h2⟩ := h.blk
  refine ⟨h.os, h.tape, h.output, by have := h.size; simpa using this, fun k hk hb => (heap_setCell_ne _ _ hb).trans (h.rest k hk hb), _, heap_setCell h1 u, by simpa using h2⟩
theorem Near.cell (h : Near W b n t w) {k i : Nat} (hk : k < W.heap.size) (hb : k ≠ b) : w.cell? ⟨k, i, none⟩ = W.cell? ⟨k, i, none⟩ := World.cell?_of_block (w := W) (a := ⟨k, i, none⟩) (h.rest k hk hb)
theorem Near.frozen (h : Near W b n t w) (i : Nat) : w.frozen? ⟨b, i, none⟩ = false := by
  obtain ⟨cs, h1, h2⟩ := h.blk
  exact frozen_of_heap h1 i
/-- Behind it nothing below B has turned, if the block is not below B. -/
theorem Near.below {B : Nat} {w0 : World} (h : Near W b n t w) (h0 : Below B w0 W) (hb : B ≤ b) (hB : B ≤ W.heap.size) : Below B w0 w :=
  h0.trans ⟨h.os, h.tape, h.output, h.size, fun k hk => h.rest k (by omega) (by omega)⟩
/-- What stands in a cell. -/
def cellD (w : World) (b i : Nat) : Value := (w.cell? ⟨b, i, none⟩).getD undef
theorem Near.four (h : Near W b 4 t w) : ∀ i, w.cell? ⟨b, i, none⟩ = (#[cellD w b 0, cellD w b 1, cellD w b 2, cellD w b 3] : Array Value)[i]? := by
  obtain ⟨cs, h1, h2⟩ := h.blk
  intro i
  have e := cell_of_heap h1
  unfold cellD
  rw [e, e, e, e, e]
  match i with
  | 0 => simp [h2]
  | 1 => simp [h2]
  | 2 => simp [h2]
  | 3 => simp [h2]
  | i + 4 => simp [h2]
theorem Near.five (h : Near W b 5 t w) : ∀ i, w.cell? ⟨b, i, none⟩ = (#[cellD w b 0, cellD w b 1, cellD w b 2, cellD w b 3, cellD w b 4] : Array Value)[i]? := by
  obtain ⟨cs, h1, h2⟩ := h.blk
  intro i
  have e := cell_of_heap h1
  unfold cellD
  rw [e, e, e, e, e, e]
  match i with
  | 0 => simp [h2]
  | 1 => simp [h2]
  | 2 => simp [h2]
  | 3 => simp [h2]
  | 4 => simp [h2]
  | i + 5 => simp [h2]
end
end Go.Proofs.Ytpcohbpeglledaa
/-
  The document's Mem made.
-/
namespace Go.Proofs.Ytpcohbpeglledaa
open Go.RowKit Kv
/-- Locals as they begin. -/
def locOf (L : List Int) (i : Nat) : Int := L.getD i 0
/-- The state in which an operation begins. -/
def TS0 (L ans : List Int) : TS := ⟨ans, [], [], locOf L⟩
end Go.Proofs.Ytpcohbpeglledaa
/-
  An operation played: its deferred end, whether it came to its end or stopped; what comes of the play.
-/
namespace Go.Proofs.Ytpcohbpeglledaa
open Go.RowKit Kv
@[go_sem] theorem build_out (x : Bool) (A1 A2 A3 : Option Addr) (n1 n2 n3 c1 c2 c3 : Nat) (w : World) : (Instr.build 32 #[(0, .bool x), (1, .slice A1 n1 c1), (2, .slice A2 n2 c2), (3, .slice A3 n3 c3)]).run Try.prog w = .ok (.agg #[.bool x, .slice A1 n1 c1, .slice A2 n2 c2, .slice A3 n3 c3]) w := run_build w 32 _ _ (by kernel_rfl)
@[go_sem] theorem as_stop (v : Value) (w : World) : (Instr.typeAssert (.iface 64 v) 20 64 true).run Try.prog w = .ok (.tuple #[v, .bool true]) w := by kernel_rfl
@[go_sem] theorem ne_mem (a : Addr) (w : World) : (binOp .neq 35 (.pointer (some a)) (.pointer (some a))).run Try.prog w = .ok (.bool false) w := by
  have hs : (Try.prog.info? 61).isSome = true := by kernel_rfl
  obtain ⟨j, hj⟩ := Option.isSome_iff_exists.1 hs
  have h : ∀ d : Nat, (Op.equalIn (d + 1) 35 (.pointer (some a)) (.pointer (some a))).run Try.prog w = .ok true w := fun d => by
    simp [Op.equalIn, run_underlying Try.underlying35, sizeOf, typeInfo, hj, run_sameAddr_same]
  simp only [binOp]
  simp [Op.equal, Op.maxDepth, h 9999]
section
variable {B p b bo : Nat} {w w' W : World} {S : TS} {st : Int} {vA vL vC vN vs : Value} {L : List Int}
/-- A store into a block beside what the Mem owns. -/
theorem PMem.setO (h : PMem B w p S st vA vL vC vN L) (hn : ¬ ownR [2, 3, 4] w p b) (hb : B ≤ b) (i : Nat) (u : Value) : PMem B (w.setCell ⟨b, i, none⟩ u) p S st vA vL vC vN L := by
  have hp : p ≠ b := fun e => hn (.inl e.symm)
  refine { h with heap := (heap_setCell_ne _ _ hp).trans h.heap, ans := ints_set h.ans _ _ ?_, rowL := row_set h.rowL ?_, rowC := row_set h.rowC ?_, rowN := row_set h.rowN ?_ }
  · intro k hk e
    have := h.ansB k hk
    simp only at e
    omega
  · exact fun e => hn (ownR_at (i := 2) h.heap (by simp) rfl e)
  · exact fun e => hn (ownR_at (i := 3) h.heap (by simp) rfl e)
  · exact fun e => hn (ownR_at (i := 4) h.heap (by simp) rfl e)
theorem Held.setO {ix : List Nat} {k : Nat} {o : Obj} (h : Held ix w p k o) (hk : k ≠ b) (hn : ¬ ownR ix w p b) (i : Nat) (u : Value) : Held ix (w.setCell ⟨b, i, none⟩ u) p k o :=
  ⟨(heap_setCell_ne _ _ hk).trans h.1, fun h' => h.2 ((ownR_same (heap_setCell_ne _ _ (fun e => hn (.inl e.symm))) k).1 h')⟩
/-- The Out laid behind all. -/
theorem end_out {d x0 : Bool} {x1 x2 x3 : Value} (HM : PMem B W p S st vA vL vC vN L) (ho : W.heap[bo]? = some (.cells #[.bool x0, x1, x2, x3] 32 (0, 0))) (h2 : Ext W w') (h1 : IntRow w' W.heap.size vs (shortL L)) :
    ((((w'.setCell ⟨bo, 0, none⟩ (.bool d)).setCell ⟨bo, 1, none⟩ vC).setCell ⟨bo, 2, none⟩ vN).setCell ⟨bo, 3, none⟩ vs).heap[bo]? = some (.cells #[.bool d, vC, vN, vs] 32 (0, 0)) ∧
      Outs ((((w'.setCell ⟨bo, 0, none⟩ (.bool d)).setCell ⟨bo, 1, none⟩ vC).setCell ⟨bo, 2, none⟩ vN).setCell ⟨bo, 3, none⟩ vs) (.agg #[.bool d, vC, vN, vs]) d S := by
  have hlt := (Array.getElem?_eq_some_iff.1 ho).1
  have e0 := (Below.block h2 bo hlt).trans ho
  have rC := row_ext HM.rowC h2
  have rN := row_ext HM.rowN h2
  have nC := row_not rC e0 (by decide)
  have nN := row_not rN e0 (by decide)
  have hv : ∀ k, vs.ownBlock = some k → k ≠ bo := fun k hk => by have := (h1.lt k hk).1; omega
  have e4 := heap_setCell (i := 3) (heap_setCell (i := 2) (heap_setCell (i := 1) (heap_setCell (i := 0) e0 (.bool d)) vC) vN) vs
  refine ⟨e4, outs_of (L := L) (row_set (row_set (row_set (row_set rC nC) nC) nC) nC) (row_set (row_set (row_set (row_set rN nN) nN) nN) nN) (ints_set (ints_set (ints_set (ints_set h1.ints _ _ hv) _ _ hv) _ _ hv) _ _ hv) HM.loc HM.locN⟩
end

/-- What the deferred end leaves. -/
def EndAt (B : Nat) (w w' : World) (bg bo : Nat) (v : Value) (d : Bool) (S : TS) : Prop :=
  w'.heap[bg]? = some (.cells #[v] 3 (0, 0)) ∧ (∃ vC vN vs, w'.heap[bo]? = some (.cells #[.bool d, vC, vN, vs] 32 (0, 0)) ∧ Outs w' (.agg #[.bool d, vC, vN, vs]) d S) ∧ Below B w w'
set_option maxRecDepth 100000 in
set_option maxHeartbeats 1000000 in
theorem end_ok (B p : Nat) (S : TS) (bm bg bo : Nat) (v : Value) (w : World) (h : Plays B w p S) (hm : HeldP w p bm (.cells #[.pointer (some ⟨p, 0, none⟩)] 35 (0, 0))) (hg : HeldP w p bg (.cells #[v] 3 (0, 0)))
    (ho : HeldP w p bo (.cells #[.bool false, .slice none 0 0, .slice none 0 0, .slice none 0 0] 32 (0, 0))) (hB2 : B ≤ bo) :
    CallsD Try.prog 40 #[.pointer (some ⟨bm, 0, none⟩), .pointer (some ⟨bg, 0, none⟩), .pointer (some ⟨bo, 0, none⟩)] .returning w fun e u' w' => e = .returned (.tuple #[]) ∧ u' = .returning ∧ EndAt B w w' bg bo v true S := by
  obtain ⟨h1, vA, vL, vC, vN, L, h⟩ := h
  have hc := cell_of_heap h.heap
  have hfz := frozen_of_heap h.heap
  have cm := hm.cells
  refine callsD_of_wpS Try.func40 rfl fun c₀ cs hu => ?_
  simp only [Try.ntmps40, List.size_toArray, List.length_cons, List.length_nil, Nat.reduceAdd, Nat.reduceSub, Array.replicate_succ, Array.replicate_zero, List.push_toArray, List.append_toArray, List.nil_append, List.cons_append]
  apply wpS_seq
  refine wpS_of_wp ?_
  go_wp2_with fail
  simp only [Exit.thenS]
  apply wpS_seq
  refine wpS_of_wp ?_
  go_wp2_with fail
  simp only [Exit.thenS]
  obtain ⟨HM, HK⟩ := h.state 0
  have hmh := Lib.hid (hm.keep HK)
  have hgh := Lib.hid (hg.keep HK).1
  have hoh := Lib.hid (ho.keep HK)
  have hq := cell_of_heap HM.heap
  have cm2 := hmh.out.cells
  have HMh := Lib.hid HM
  have hbel := Lib.hid HK.below
  clear HM HK hc hfz cm hm hg ho h
  generalize w.setCell ⟨p, 0, none⟩ (.int .i64 0) = W at *
  apply wpS_seq
  apply wpS_seq
  apply wpS_region
  simp [wpOpsS, go_sem, recoverD, hu, Exit.thenS]
  refine wpS_of_wp ?_
  go_wp2_with fail
  simp only [Exit.thenS]
  refine wpS_of_wp ?_
  go_wp2_with fail
  have hI : Ints W vL L := IntRow.ints HMh.out.rowL
  obtain ⟨Al, cl, rfl, q1, q2⟩ := hI.slice
  have hIh := Lib.hid hI
  obtain ⟨Ac, cc, rfl, -, -, -⟩ := vals_row HMh.out.rowC
  obtain ⟨An, cn, rfl, -, -, -⟩ := vals_row HMh.out.rowN
  have hlen := HMh.out.locN
  have hplt := HMh.out.lt
  have hmlt := hmh.out.lt
  clear hI
  have hpo : p ≠ bo := fun e => hoh.out.2 (.inl e.symm)
  have hmo : bm ≠ bo := fun e => by
    have h1 := hmh.out.1
    rw [e, hoh.out.1] at h1
    injection h1 with h1
    injection h1 with _ h2
    cases h2
  have hlo : (Value.slice Al L.length cl).ownBlock ≠ some bo := row_not HMh.out.rowL hoh.out.1 (by decide)
  have hS : ∀ w', Near W bo 4 32 w' → ((∀ i, w'.cell? ⟨p, i, none⟩ = (#[.int .i64 0, vA, .slice Al L.length cl, .slice Ac S.acc.length cc, .slice An S.nts.length cn] : Array Value)[i]?) ∧ (∀ i, w'.cell? ⟨bm, i, none⟩ = (#[.pointer (some ⟨p, 0, none⟩)] : Array Value)[i]?) ∧ (∀ i, w'.cell? ⟨bo, i, none⟩ = (#[cellD w' bo 0, cellD w' bo 1, cellD w' bo 2, cellD w' bo 3] : Array Value)[i]?) ∧ (∀ i, w'.frozen? ⟨bo, i, none⟩ = false) ∧ Near W bo 4 32 w') := fun w' hx =>
    ⟨fun i => (hx.cell hplt hpo).trans (hq i), fun i => (hx.cell hmlt hmo).trans (cm2 i), hx.four, hx.frozen, hx⟩
  have hN : Near W bo 4 32 W := Near.new hoh.out.1 rfl
  go_region_held2 (fun w' => (∀ i, w'.cell? ⟨p, i, none⟩ = (#[.int .i64 0, vA, .slice Al L.length cl, .slice Ac S.acc.length cc, .slice An S.nts.length cn] : Array Value)[i]?) ∧ (∀ i, w'.cell? ⟨bm, i, none⟩ = (#[.pointer (some ⟨p, 0, none⟩)] : Array Value)[i]?) ∧ (∀ i, w'.cell? ⟨bo, i, none⟩ = (#[cellD w' bo 0, cellD w' bo 1, cellD w' bo 2, cellD w' bo 3] : Array Value)[i]?) ∧ (∀ i, w'.frozen? ⟨bo, i, none⟩ = false) ∧ Near W bo 4 32 w') (first | exact hS _ hN.drew | (refine hS _ ?_; (repeat refine Near.set ?_ _ _); exact hN.drew.ext h2))
    (first
      | (go_at_call 41
         refine (tshort_p Al cl L _ (hIh.out.ext (Ext.refl W).drew) q1 q2 (by omega)).mono ?_
         rintro e w' ⟨v', rfl, h1, h2⟩
         obtain ⟨As, cs, rfl, hs1, hs2⟩ := h1.ints.slice))
  obtain ⟨f1, f2⟩ := end_out (d := true) HMh.out hoh.out.1 ((Ext.refl W).drew.trans h2) h1
  have fg : bg ≠ bo := fun e => by
    have h1 := hgh.out
    rw [e, hoh.out.1] at h1
    injection h1 with h1
    injection h1 with _ h2
    cases h2
  refine ⟨rfl, FrameMode.returning, (by cases c₀; simp only at hu; subst hu; rfl), .tuple #[], (by simp [results, Try.results40, go_sem]), rfl, rfl, ?_, ⟨_, _, _, f1, f2⟩, ?_⟩
  · rw [heap_setCell_ne _ _ fg, heap_setCell_ne _ _ fg, heap_setCell_ne _ _ fg, heap_setCell_ne _ _ fg]
    exact (Below.block ((Ext.refl W).drew.trans h2) bg (Array.getElem?_eq_some_iff.1 hgh.out).1).trans hgh.out
  · exact ((((hN.drew.ext h2).set _ _).set _ _).set _ _ |>.set _ _).below hbel.out hB2 (by have := HMh.out.ge; omega)
set_option maxRecDepth 100000 in
set_option maxHeartbeats 1000000 in
theorem end_stop (B p : Nat) (S : TS) (bm bg bo : Nat) (v : Value) (older : List PanicEntry) (w : World) (h : Stops B w p S) (hm : HeldP w p bm (.cells #[.pointer (some ⟨p, 0, none⟩)] 35 (0, 0))) (hg : HeldP w p bg (.cells #[v] 3 (0, 0)))
    (ho : HeldP w p bo (.cells #[.bool false, .slice none 0 0, .slice none 0 0, .slice none 0 0] 32 (0, 0))) (hB1 : B ≤ bg) (hB2 : B ≤ bo) :
    CallsD Try.prog 40 #[.pointer (some ⟨bm, 0, none⟩), .pointer (some ⟨bg, 0, none⟩), .pointer (some ⟨bo, 0, none⟩)] (.panicking ({ v := .iface 64 (.agg #[.pointer (some ⟨p, 0, none⟩)]), recovered := false } :: older)) w fun e u' w' =>
      e = .returned (.tuple #[]) ∧ u' = .panicking ({ v := .iface 64 (.agg #[.pointer (some ⟨p, 0, none⟩)]), recovered := true } :: older) ∧ EndAt B w w' bg bo (.int .i64 0) false S := by
  obtain ⟨vA, vL, vC, vN, L, h⟩ := h
  have hc := cell_of_heap h.heap
  have hfz := frozen_of_heap h.heap
  have cm := hm.cells
  refine callsD_of_wpS Try.func40 rfl fun c₀ cs hu => ?_
  simp only [Try.ntmps40, List.size_toArray, List.length_cons, List.length_nil, Nat.reduceAdd, Nat.reduceSub, Array.replicate_succ, Array.replicate_zero, List.push_toArray, List.append_toArray, List.nil_append, List.cons_append]
  apply wpS_seq
  refine wpS_of_wp ?_
  go_wp2_with fail
  simp only [Exit.thenS]
  apply wpS_seq
  refine wpS_of_wp ?_
  go_wp2_with fail
  simp only [Exit.thenS]
  obtain ⟨HM, HK⟩ := h.state 0
  have hm2 := hm.keep HK
  have hg2 := hg.keep HK
  have ho2 := ho.keep HK
  clear hc hfz cm hm hg ho h
  generalize w.setCell ⟨p, 0, none⟩ (.int .i64 0) = W0 at *
  have hX := (Ext.refl W0).alloc (.cells #[.agg #[.pointer (some ⟨p, 0, none⟩)]] 64)
  have hq0 := cell_of_heap HM.heap
  have cm0 := hm2.cells
  have hqa : Hid (∀ O, ∀ i, (W0.alloc O).cell? ⟨bm, i, none⟩ = (#[.pointer (some ⟨p, 0, none⟩)] : Array Value)[i]?) := Lib.hid fun O i => (((Ext.refl W0).alloc O).cell (p := ⟨bm, i, none⟩) hm2.lt).trans (hm2.cells i)
  have cma := hqa.out
  have fga := frozen_of_heap hg2.1
  have cg0 := hg2.cells
  have W0lt := hg2.lt
  have fgb : Hid (∀ O i, (W0.alloc O).frozen? ⟨bg, i, none⟩ = false) := Lib.hid fun O i => frozen_of_heap ((Below.block ((Ext.refl W0).alloc O) bg hg2.lt).trans hg2.1) i
  have cgb : Hid (∀ O i, (W0.alloc O).cell? ⟨bg, i, none⟩ = (#[v] : Array Value)[i]?) := Lib.hid fun O i => (((Ext.refl W0).alloc O).cell (p := ⟨bg, i, none⟩) hg2.lt).trans (hg2.cells i)
  have fgb' := fgb.out
  have cgb' := cgb.out
  have HMh0 := Lib.hid HM
  have HKh := Lib.hid HK
  have hmh0 := Lib.hid hm2
  have hgh0 := Lib.hid hg2
  have hoh0 := Lib.hid ho2
  clear HM HK hm2 hg2 ho2
  apply wpS_seq
  apply wpS_seq
  apply wpS_region
  simp [wpOpsS, go_sem, recoverD, hu, Exit.thenS]
  refine wpS_of_wp ?_
  go_wp2_with fail
  simp only [Exit.thenS]
  refine wpS_of_wp ?_
  go_wp2_with fail
  have hgp := hgh0.out.2
  have hmg : bm ≠ bg := fun e => by
    have h1 := hmh0.out.1
    rw [e, hgh0.out.1] at h1
    injection h1 with h1
    injection h1 with _ h2
    cases h2
  have hog : bo ≠ bg := fun e => by
    have h1 := hoh0.out.1
    rw [e, hgh0.out.1] at h1
    injection h1 with h1
    injection h1 with _ h2
    cases h2
  have HM1 := HMh0.out.setO hgp hB1 0 (.int .i64 0)
  have hm1 := hmh0.out.setO hmg hgp 0 (.int .i64 0)
  have ho1 := hoh0.out.setO hog hgp 0 (.int .i64 0)
  have hg1 := heap_setCell (i := 0) hgh0.out.1 (.int .i64 0)
  have hb1 : Below B w (W0.setCell ⟨bg, 0, none⟩ (.int .i64 0)) := Below.setCell HKh.out.below (by show B ≤ bg; exact hB1) _
  have HMh := Lib.hid (HM1.ext ((Ext.refl _).alloc (.cells #[.pointer (some ⟨p, 0, none⟩)] 64)))
  have hmh := Lib.hid (hm1.alloc (.cells #[.pointer (some ⟨p, 0, none⟩)] 64) HM1.lt)
  have hoh := Lib.hid (ho1.alloc (.cells #[.pointer (some ⟨p, 0, none⟩)] 64) HM1.lt)
  have hgh := Lib.hid ((Below.block ((Ext.refl _).alloc (.cells #[.pointer (some ⟨p, 0, none⟩)] 64)) bg (Array.getElem?_eq_some_iff.1 hg1).1).trans hg1)
  have hbel := Lib.hid (Below.alloc hb1 (by have := HM1.ge; have := HM1.lt; omega) (.cells #[.pointer (some ⟨p, 0, none⟩)] 64))
  clear hX hq0 cm0 hqa cma fga cg0 fgb cgb fgb' cgb' HMh0 hmh0 hgh0 hoh0 HKh HM1 hm1 ho1 hg1 hb1 hgp W0lt
  generalize (World.alloc (W0.setCell ⟨bg, 0, none⟩ (.int .i64 0)) (.cells #[.pointer (some ⟨p, 0, none⟩)] 64)) = W at *
  have hq := cell_of_heap HMh.out.heap
  have cm2 := hmh.out.cells
  have hI : Ints W vL L := IntRow.ints HMh.out.rowL
  obtain ⟨Al, cl, rfl, q1, q2⟩ := hI.slice
  have hIh := Lib.hid hI
  obtain ⟨Ac, cc, rfl, -, -, -⟩ := vals_row HMh.out.rowC
  obtain ⟨An, cn, rfl, -, -, -⟩ := vals_row HMh.out.rowN
  have hlen := HMh.out.locN
  have hplt := HMh.out.lt
  have hmlt := hmh.out.lt
  clear hI
  have hpo : p ≠ bo := fun e => hoh.out.2 (.inl e.symm)
  have hmo : bm ≠ bo := fun e => by
    have h1 := hmh.out.1
    rw [e, hoh.out.1] at h1
    injection h1 with h1
    injection h1 with _ h2
    cases h2
  have hlo : (Value.slice Al L.length cl).ownBlock ≠ some bo := row_not HMh.out.rowL hoh.out.1 (by decide)
  have hS : ∀ w', Near W bo 4 32 w' → ((∀ i, w'.cell? ⟨p, i, none⟩ = (#[.int .i64 0, vA, .slice Al L.length cl, .slice Ac S.acc.length cc, .slice An S.nts.length cn] : Array Value)[i]?) ∧ (∀ i, w'.cell? ⟨bm, i, none⟩ = (#[.pointer (some ⟨p, 0, none⟩)] : Array Value)[i]?) ∧ (∀ i, w'.cell? ⟨bo, i, none⟩ = (#[cellD w' bo 0, cellD w' bo 1, cellD w' bo 2, cellD w' bo 3] : Array Value)[i]?) ∧ (∀ i, w'.frozen? ⟨bo, i, none⟩ = false) ∧ Near W bo 4 32 w') := fun w' hx =>
    ⟨fun i => (hx.cell hplt hpo).trans (hq i), fun i => (hx.cell hmlt hmo).trans (cm2 i), hx.four, hx.frozen, hx⟩
  have hN : Near W bo 4 32 W := Near.new hoh.out.1 rfl
  go_region_held2 (fun w' => (∀ i, w'.cell? ⟨p, i, none⟩ = (#[.int .i64 0, vA, .slice Al L.length cl, .slice Ac S.acc.length cc, .slice An S.nts.length cn] : Array Value)[i]?) ∧ (∀ i, w'.cell? ⟨bm, i, none⟩ = (#[.pointer (some ⟨p, 0, none⟩)] : Array Value)[i]?) ∧ (∀ i, w'.cell? ⟨bo, i, none⟩ = (#[cellD w' bo 0, cellD w' bo 1, cellD w' bo 2, cellD w' bo 3] : Array Value)[i]?) ∧ (∀ i, w'.frozen? ⟨bo, i, none⟩ = false) ∧ Near W bo 4 32 w') (first | exact hS _ hN.drew | (refine hS _ ?_; (repeat refine Near.set ?_ _ _); exact hN.drew.ext h2))
    (first
      | (go_at_call 41
         refine (tshort_p Al cl L _ (hIh.out.ext (Ext.refl W).drew) q1 q2 (by omega)).mono ?_
         rintro e w' ⟨v', rfl, h1, h2⟩
         obtain ⟨As, cs, rfl, hs1, hs2⟩ := h1.ints.slice))
  obtain ⟨f1, f2⟩ := end_out (d := false) HMh.out hoh.out.1 ((Ext.refl W).drew.trans h2) h1
  have fg : bg ≠ bo := fun e => by
    have h1 := hgh.out
    rw [e, hoh.out.1] at h1
    injection h1 with h1
    injection h1 with _ h2
    cases h2
  refine ⟨rfl, FrameMode.panicking ({ v := .iface 64 (.agg #[.pointer (some ⟨p, 0, none⟩)]), recovered := true } :: older), (by cases c₀; simp only at hu; subst hu; rfl), .tuple #[], (by simp [results, Try.results40, go_sem]), rfl, rfl, ?_, ⟨_, _, _, f1, f2⟩, ?_⟩
  · rw [heap_setCell_ne _ _ fg, heap_setCell_ne _ _ fg, heap_setCell_ne _ _ fg, heap_setCell_ne _ _ fg]
    exact (Below.block ((Ext.refl W).drew.trans h2) bg (Array.getElem?_eq_some_iff.1 hgh.out).1).trans hgh.out
  · exact ((((hN.drew.ext h2).set _ _).set _ _).set _ _ |>.set _ _).below hbel.out hB2 (by have := HMh.out.ge; omega)
end Go.Proofs.Ytpcohbpeglledaa
/-
  Playing an operation: the whole of it.
-/
namespace Go.Proofs.Ytpcohbpeglledaa
open Go.RowKit Kv
theorem row_base {w : World} {B B' e size n : Nat} {v : Value} {xs : List Value} (h : w.ownsRow B' e size v n xs) (hB : B ≤ B') : w.ownsRow B e size v n xs := by
  obtain ⟨h1, h2⟩ := h
  rcases h2 with h2 | ⟨g, cap, cur, rfl, hg, r⟩
  · exact ⟨h1, .inl h2⟩
  · exact ⟨h1, .inr ⟨g, cap, cur, rfl, Nat.le_trans hB hg, r⟩⟩
theorem four_boxes (w : World) (o1 o2 o3 o4 : Obj) : Ext w ((((w.alloc o1).alloc o2).alloc o3).alloc o4) ∧ ((((w.alloc o1).alloc o2).alloc o3).alloc o4).heap[w.heap.size]? = some o1 ∧ ((((w.alloc o1).alloc o2).alloc o3).alloc o4).heap[w.heap.size + 1]? = some o2 ∧
    ((((w.alloc o1).alloc o2).alloc o3).alloc o4).heap[w.heap.size + 1 + 1]? = some o3 ∧ ((((w.alloc o1).alloc o2).alloc o3).alloc o4).heap[w.heap.size + 1 + 1 + 1]? = some o4 := by
  refine ⟨((((Ext.refl w).alloc o1).alloc o2).alloc o3).alloc o4, ?_, ?_, ?_, ?_⟩
  · exact (Below.block ((((Ext.refl (w.alloc o1)).alloc o2).alloc o3).alloc o4) _ (by simp)).trans (heap_alloc_new w o1)
  · have := heap_alloc_new (w.alloc o1) o2
    rw [World.size_alloc] at this
    exact (Below.block (((Ext.refl ((w.alloc o1).alloc o2)).alloc o3).alloc o4) _ (by simp)).trans this
  · have := heap_alloc_new ((w.alloc o1).alloc o2) o3
    rw [World.size_alloc, World.size_alloc] at this
    exact (Below.block ((Ext.refl (((w.alloc o1).alloc o2).alloc o3)).alloc o4) _ (by simp)).trans this
  · have := heap_alloc_new (((w.alloc o1).alloc o2).alloc o3) o4
    rw [World.size_alloc, World.size_alloc, World.size_alloc] at this
    exact this
/-- Worlds with the same blocks. -/
structure SameW (w w' : World) : Prop where
  os : w'.os = w.os
  tape : w'.tape = w.tape
  output : w'.output = w.output
  size : w'.heap.size = w.heap.size
  blocks : ∀ k : Nat, w'.heap[k]? = w.heap[k]?
theorem SameW.drew (w : World) : SameW w w.drew := ⟨rfl, rfl, rfl, rfl, fun _ => rfl⟩
theorem SameW.drew2 {w w' : World} (h : SameW w w') : SameW w w'.drew := ⟨h.os, h.tape, h.output, h.size, h.blocks⟩
theorem SameW.refl (w : World) : SameW w w := ⟨rfl, rfl, rfl, rfl, fun _ => rfl⟩
theorem SameW.ext {w w' : World} (h : SameW w w') : Ext w w' := ⟨h.os, h.tape, h.output, Nat.le_of_eq h.size.symm, fun k _ => h.blocks k⟩
theorem SameW.set {w w' : World} {b : Nat} {cs : Array Value} {t : TypeId} (h : SameW w w') (g : w.heap[b]? = some (.cells cs t (0, 0))) {i : Nat} {v : Value} (hv : cs[i]? = some v) : SameW w (w'.setCell ⟨b, i, none⟩ v) := by
  refine ⟨h.os, h.tape, h.output, by rw [← h.size]; simp, fun k => ?_⟩
  by_cases e : k = b
  · subst e
    rw [heap_setCell ((h.blocks k).trans g) v, g]
    congr 2
    apply Array.ext_getElem?
    intro j
    rw [Array.getElem?_setIfInBounds]
    split
    · rename_i e
      subst e
      rw [hv]
      split
      · rfl
      · rename_i h2
        rw [Array.getElem?_eq_none (by omega)] at hv
        cases hv
    · rfl
  · rw [heap_setCell_ne _ _ e]
    exact h.blocks k
/-- A play begins. -/
theorem play_start {w W w' : World} {p : Nat} {Aa : Option Addr} {ca : Nat} {ans L : List Int} {v' : Value} (hx : Ext w W) (hp : w.heap.size ≤ p) (g : W.heap[p]? = some (.cells #[.int .i64 1, .slice Aa ans.length ca, .slice none 0 0, .slice none 0 0, .slice none 0 0] 61 (0, 0)))
    (h2 : Ext W w') (h1 : IntRow w' W.heap.size v' L) (hl : L.length ≤ 32768) (ha : Ints w (.slice Aa ans.length ca) ans) (hn : ans.length ≤ maxAns) (hb : ∀ b, (Value.slice Aa ans.length ca).ownBlock = some b → b < w.heap.size) :
    Plays w.heap.size (w'.setCell ⟨p, 2, none⟩ v') p (TS0 L ans) ∧ (∀ b o, W.heap[b]? = some o → b ≠ p → HeldP (w'.setCell ⟨p, 2, none⟩ v') p b o) ∧ Ext w (w'.setCell ⟨p, 2, none⟩ v') := by
  have hlt := (Array.getElem?_eq_some_iff.1 g).1
  have g' := heap_setCell (i := 2) ((Below.block h2 p hlt).trans g) v'
  have hv : ∀ k, v'.ownBlock = some k → W.heap.size ≤ k := fun k hk => (h1.lt k hk).1
  have ha' := (ha.ext hx).ext h2
  refine ⟨⟨Nat.zero_le _, .slice Aa ans.length ca, v', .slice none 0 0, .slice none 0 0, L, { ge := hp, heap := g', ans := ints_set ha' _ _ ?_, ansB := hb, rowL := row_base (row_set h1 ?_) hx.size, rowC := World.ownsRow_nil _ _ _ _, rowN := World.ownsRow_nil _ _ _ _, loc := fun _ => rfl, locN := hl, accN := Nat.zero_le _, ansN := hn, ntsN := Nat.zero_le _ }⟩, ?_, (hx.trans h2).setCell hp _⟩
  · intro k hk e
    have := hb k hk
    simp only at e
    omega
  · intro e
    have := hv p e
    omega
  · intro b o hb ho
    have hbl := (Array.getElem?_eq_some_iff.1 hb).1
    refine ⟨(heap_setCell_ne _ _ ho).trans ((Below.block h2 b hbl).trans hb), fun h' => ?_⟩
    rcases h' with e | ⟨i, hi, v, hv1, hv2⟩
    · exact ho e
    · rw [cell_of_heap g'] at hv1
      simp only [List.mem_cons, List.not_mem_nil, or_false] at hi
      rcases hi with rfl | rfl | rfl
      · obtain rfl : v' = v := by simpa using hv1
        have := hv b hv2
        omega
      · obtain rfl : Value.slice none 0 0 = v := by simpa using hv1
        simp [Value.ownBlock] at hv2
      · obtain rfl : Value.slice none 0 0 = v := by simpa using hv1
        simp [Value.ownBlock] at hv2
set_option maxRecDepth 100000 in
set_option maxHeartbeats 1000000 in
theorem play_int (f : FuncId) (cap : Array Value) (T : Prog Int) (Al : Option Addr) (cl : Nat) (L : List Int) (Aa : Option Addr) (ca : Nat) (ans : List Int) (w : World) (h : Ints w (.slice Al L.length cl) L) (hl : L.length ≤ 32768) (ha : Ints w (.slice Aa ans.length ca) ans) (hn : ans.length ≤ maxAns)
    (hb : ∀ b, (Value.slice Aa ans.length ca).ownBlock = some b → b < w.heap.size)
    (hcf : ∀ (args : Array Value) (w : World), (callFunc f args).run Try.prog w = .ok (.enter f args) w)
    (hdo : ∀ w1 p, Ext w w1 → Plays w.heap.size w1 p (TS0 L ans) → Calls Try.prog f (#[.pointer (some ⟨p, 0, none⟩)] ++ cap) w1 (Post encI w.heap.size p w1 (T.run (TS0 L ans)))) :
    Calls Try.prog 12 #[.func (.func f) #[] cap, .slice Al L.length cl, .slice Aa ans.length ca] w fun e w' => ∃ v, e = .returned (.tuple #[.int .i64 ((T.run (TS0 L ans)).1.getD 0), v]) ∧ Outs w' v (T.run (TS0 L ans)).1.isSome (T.run (TS0 L ans)).2 ∧ Ext w w' := by
  obtain ⟨q1, q2⟩ : L.length ≤ cl ∧ cl ≤ 9223372036854775807 := by
    obtain ⟨A', c', he, q1, q2, _⟩ := h
    injection he with e1 e2 e3
    subst e3
    exact ⟨q1, q2⟩
  generalize hR : (fun e w' => ∃ v, e = Ending.returned (.tuple #[.int .i64 ((T.run (TS0 L ans)).1.getD 0), v]) ∧ Outs w' v (T.run (TS0 L ans)).1.isSome (T.run (TS0 L ans)).2 ∧ Ext w w') = R
  have hfin : ∀ v w', Outs w' v (T.run (TS0 L ans)).1.isSome (T.run (TS0 L ans)).2 → Ext w w' → R (.returned (.tuple #[.int .i64 ((T.run (TS0 L ans)).1.getD 0), v])) w' := fun v w' h1 h2 => hR ▸ ⟨v, rfl, h1, h2⟩
  clear hR
  have hmf : ∀ (fn : Fn) (first cap : Array Value) (w : World), (Instr.makeFunc fn first cap).run Try.prog w = .ok (.func fn first cap) w := fun _ _ _ _ => rfl
  go_enter_defers Try.func12, Try.ntmps12
  go_wp2_with fail
  obtain ⟨hx, g1, g2, g3, g4⟩ := four_boxes w (.cells #[.int .i64 0] 3) (.cells #[.bool false, .slice none 0 0, .slice none 0 0, .slice none 0 0] 32) (.cells #[.int .i64 1, .slice Aa ans.length ca, .slice none 0 0, .slice none 0 0, .slice none 0 0] 61) (.cells #[.pointer (some ⟨w.heap.size + 1 + 1, 0, none⟩)] 35)
  generalize hW : World.alloc (World.alloc (World.alloc (World.alloc w _) _) _) _ = W at *
  clear hW
  have hI := h.ext hx
  have cm := cell_of_heap g4
  have hN : Near W (w.heap.size + 1 + 1) 5 61 W := Near.new g3 rfl
  have hmlt := (Array.getElem?_eq_some_iff.1 g4).1
  have hmin : min (L.length : Int) 32768 = (L.length : Int) := by omega
  have hS : ∀ w', Near W (w.heap.size + 1 + 1) 5 61 w' → ((∀ i, w'.cell? ⟨w.heap.size + 1 + 1 + 1, i, none⟩ = (#[.pointer (some ⟨w.heap.size + 1 + 1, 0, none⟩)] : Array Value)[i]?) ∧ (∀ i, w'.cell? ⟨w.heap.size + 1 + 1, i, none⟩ = (#[cellD w' (w.heap.size + 1 + 1) 0, cellD w' (w.heap.size + 1 + 1) 1, cellD w' (w.heap.size + 1 + 1) 2, cellD w' (w.heap.size + 1 + 1) 3, cellD w' (w.heap.size + 1 + 1) 4] : Array Value)[i]?) ∧ (∀ i, w'.frozen? ⟨w.heap.size + 1 + 1, i, none⟩ = false)) := fun w' hx =>
    ⟨fun i => (hx.cell hmlt (by omega)).trans (cm i), hx.five, hx.frozen⟩
  go_region_held3 (fun w' => (∀ i, w'.cell? ⟨w.heap.size + 1 + 1 + 1, i, none⟩ = (#[.pointer (some ⟨w.heap.size + 1 + 1, 0, none⟩)] : Array Value)[i]?) ∧ (∀ i, w'.cell? ⟨w.heap.size + 1 + 1, i, none⟩ = (#[cellD w' (w.heap.size + 1 + 1) 0, cellD w' (w.heap.size + 1 + 1) 1, cellD w' (w.heap.size + 1 + 1) 2, cellD w' (w.heap.size + 1 + 1) 3, cellD w' (w.heap.size + 1 + 1) 4] : Array Value)[i]?) ∧ (∀ i, w'.frozen? ⟨w.heap.size + 1 + 1, i, none⟩ = false)) (first | exact hS _ hN.drew | (refine hS _ ?_; (repeat refine Near.set ?_ _ _); exact hN.drew.ext h2))
    (first
      | (go_at_call 39
         refine (clone_any Al cl L _ (hI.ext (Ext.refl W).drew) (by omega)).mono ?_
         rintro e w' ⟨v', rfl, h1, h2⟩
         obtain ⟨As, cs, rfl, hs1, hs2⟩ := h1.ints.slice))
  obtain ⟨hP, hH, hE⟩ := play_start (p := w.heap.size + 1 + 1) hx (by omega) g3 ((Ext.refl W).drew.trans h2) h1 hl ha hn hb
  have hbg := hH _ _ g1 (by omega)
  have hbo := hH _ _ g2 (by omega)
  have hbm := hH _ _ g4 (by omega)
  clear hH g1 g2 g3 g4 hS hN h1 h2 hI cm hmin hmlt
  rename_i hh
  clear hh
  have hT := hdo _ _ hE hP
  clear hdo
  generalize World.setCell _ _ _ = W2 at *
  have cbm := hbm.cells
  have hnf : (binOp .neq 37 (.func (.func f) #[] cap) .nilFunc).run Try.prog W2 = .ok (.bool true) W2 := by kernel_rfl
  go_wp2_with fail
  generalize hr : T.run (TS0 L ans) = r at hT hfin
  obtain ⟨o, S⟩ := r
  clear hr
  cases o with
  | some a =>
    refine hT.mono ?_
    rintro e w3 ⟨rfl, hP3, hK3⟩
    have hbg3 := hbg.keep hK3
    have hbo3 := hbo.keep hK3
    have hbm3 := hbm.keep hK3
    have hE3 : Ext w w3 := Below.trans hE hK3.below
    clear hbg hbo hbm hE hK3 hT hP cbm hnf
    have cbg := hbg3.cells
    have fbg := frozen_of_heap hbg3.1
    have cbo := hbo3.cells
    have fbo := frozen_of_heap hbo3.1
    go_wp2_with fail
    have fgo : w.heap.size ≠ w.heap.size + 1 := by omega
    have hg4 := heap_setCell (i := 0) hbg3.1 (.int .i64 a)
    have hP4 : Plays w.heap.size (w3.setCell ⟨w.heap.size, 0, none⟩ (.int .i64 a)) (w.heap.size + 1 + 1) S := by
      obtain ⟨q, vA, vL, vC, vN, L', hM⟩ := hP3
      exact ⟨q, vA, vL, vC, vN, L', hM.setO hbg3.2 (Nat.le_refl _) _ _⟩
    have hbm4 := hbm3.setO (b := w.heap.size) (by omega) hbg3.2 0 (.int .i64 a)
    have hbo4 := hbo3.setO (b := w.heap.size) (by omega) hbg3.2 0 (.int .i64 a)
    have hbg4 : HeldP (w3.setCell ⟨w.heap.size, 0, none⟩ (.int .i64 a)) (w.heap.size + 1 + 1) w.heap.size (.cells #[.int .i64 a] 3 (0, 0)) := ⟨hg4, fun h' => hbg3.2 ((ownR_same (heap_setCell_ne _ _ (by omega)) _).1 h')⟩
    have hE4 : Ext w (w3.setCell ⟨w.heap.size, 0, none⟩ (.int .i64 a)) := hE3.setCell (Nat.le_refl _) _
    clear hP3 hbg3 hbo3 hbm3 hE3 cbg fbg cbo fbo hg4
    generalize World.setCell _ _ _ = w4 at *
    generalize hbq : w.heap.size + 1 = bo at hbm4 hbo4 hP4 ⊢
    have fgo1 : w.heap.size ≠ bo := by omega
    have fgo2 : bo ≠ w.heap.size := by omega
    clear fgo
    have cbg := hbg4.cells
    have fbg := frozen_of_heap hbg4.1
    have cbo := hbo4.cells
    have fbo := frozen_of_heap hbo4.1
    go_region
    all_goals
      generalize hW5 : World.drew _ = W5
      have hsm : SameW w4 W5 := by
        rw [← hW5]
        repeat first | with_reducible exact SameW.refl _ | with_reducible refine SameW.drew2 ?_ | refine SameW.set ?_ hbg4.1 rfl | refine SameW.set ?_ hbo4.1 rfl
      clear hW5 cbg fbg cbo fbo
      have hP5 := hP4.ext hsm.ext
      have hbm5 := hbm4.ext hsm.ext hP4.lt
      have hbg5 := hbg4.ext hsm.ext (by rw [hbq]; exact hP4.lt)
      have hbo5 := hbo4.ext hsm.ext hP4.lt
      have hE5 : Ext w W5 := hE4.trans hsm.ext
      clear hP4 hbm4 hbg4 hbo4 hE4 hsm
      go_wp2_with fail
      refine leaves_cons (f := 40) (args := #[.pointer (some ⟨bo + 1 + 1, 0, none⟩), .pointer (some ⟨w.heap.size, 0, none⟩), .pointer (some ⟨bo, 0, none⟩)]) (by simp) (by simp [go_sem]) ?_
      refine (end_ok w.heap.size _ S _ _ _ _ _ hP5 hbm5 (by rw [← hbq]; exact hbg5) hbo5 (by omega)).mono ?_
      rintro e u' w4 ⟨rfl, rfl, hg, ⟨vC, vN, vs, ho, hO⟩, hB⟩
      have cg := cell_of_heap hg
      have co := cell_of_heap ho
      have cg0 := cg 0
      have co0 := co 0
      have co1 := co 1
      have co2 := co 2
      have co3 := co 3
      refine ⟨.tuple #[.int .i64 a, .agg #[.bool true, vC, vN, vs]], ?_, hfin _ _ hO (Below.trans hE5 hB)⟩
      simp [results, Try.results12, go_sem, cg0, co0, co1, co2, co3]
  | none =>
    refine hT.mono ?_
    rintro e w3 ⟨rfl, hP3, hK3⟩
    have hbg3 := hbg.keep hK3
    have hbo3 := hbo.keep hK3
    have hbm3 := hbm.keep hK3
    have hE3 : Ext w w3 := Below.trans hE hK3.below
    clear hbg hbo hbm hE hK3 hT hP cbm hnf
    refine leaves_cons (f := 40) (args := #[.pointer (some ⟨w.heap.size + 1 + 1 + 1, 0, none⟩), .pointer (some ⟨w.heap.size, 0, none⟩), .pointer (some ⟨w.heap.size + 1, 0, none⟩)]) (by simp) (by simp [go_sem]) ?_
    refine (end_stop w.heap.size _ S _ _ _ _ [] _ hP3 hbm3 hbg3 hbo3 (Nat.le_refl _) (by omega)).mono ?_
    rintro e u' w4 ⟨rfl, rfl, hg, ⟨vC, vN, vs, ho, hO⟩, hB⟩
    have cg := cell_of_heap hg
    have co := cell_of_heap ho
    have cg0 := cg 0
    have co0 := co 0
    have co1 := co 1
    have co2 := co 2
    have co3 := co 3
    refine ⟨.tuple #[.int .i64 0, .agg #[.bool false, vC, vN, vs]], ?_, hfin _ _ hO (Below.trans hE3 hB)⟩
    simp [results, Try.results12, go_sem, cg0, co0, co1, co2, co3]
    trace_state
end Go.Proofs.Ytpcohbpeglledaa
/-
  An operation played whose result is an error's number: its deferred end.
-/
namespace Go.Proofs.Ytpcohbpeglledaa
open Go.RowKit Kv

/-- What the deferred end leaves. -/
def EndAtE (B : Nat) (w w' : World) (bg bo : Nat) (v : Value) (d : Bool) (S : TS) : Prop :=
  w'.heap[bg]? = some (.cells #[v] 45 (0, 0)) ∧ (∃ vC vN vs, w'.heap[bo]? = some (.cells #[.bool d, vC, vN, vs] 32 (0, 0)) ∧ Outs w' (.agg #[.bool d, vC, vN, vs]) d S) ∧ Below B w w'
set_option maxRecDepth 100000 in
set_option maxHeartbeats 1000000 in
theorem end_okE (B p : Nat) (S : TS) (bm bg bo : Nat) (v : Value) (w : World) (h : Plays B w p S) (hm : HeldP w p bm (.cells #[.pointer (some ⟨p, 0, none⟩)] 35 (0, 0))) (hg : HeldP w p bg (.cells #[v] 45 (0, 0)))
    (ho : HeldP w p bo (.cells #[.bool false, .slice none 0 0, .slice none 0 0, .slice none 0 0] 32 (0, 0))) (hB2 : B ≤ bo) :
    CallsD Try.prog 53 #[.pointer (some ⟨bm, 0, none⟩), .pointer (some ⟨bg, 0, none⟩), .pointer (some ⟨bo, 0, none⟩)] .returning w fun e u' w' => e = .returned (.tuple #[]) ∧ u' = .returning ∧ EndAtE B w w' bg bo v true S := by
  obtain ⟨h1, vA, vL, vC, vN, L, h⟩ := h
  have hc := cell_of_heap h.heap
  have hfz := frozen_of_heap h.heap
  have cm := hm.cells
  refine callsD_of_wpS Try.func53 rfl fun c₀ cs hu => ?_
  simp only [Try.ntmps53, List.size_toArray, List.length_cons, List.length_nil, Nat.reduceAdd, Nat.reduceSub, Array.replicate_succ, Array.replicate_zero, List.push_toArray, List.append_toArray, List.nil_append, List.cons_append]
  apply wpS_seq
  refine wpS_of_wp ?_
  go_wp2_with fail
  simp only [Exit.thenS]
  apply wpS_seq
  refine wpS_of_wp ?_
  go_wp2_with fail
  simp only [Exit.thenS]
  obtain ⟨HM, HK⟩ := h.state 0
  have hmh := Lib.hid (hm.keep HK)
  have hgh := Lib.hid (hg.keep HK).1
  have hoh := Lib.hid (ho.keep HK)
  have hq := cell_of_heap HM.heap
  have cm2 := hmh.out.cells
  have HMh := Lib.hid HM
  have hbel := Lib.hid HK.below
  clear HM HK hc hfz cm hm hg ho h
  generalize w.setCell ⟨p, 0, none⟩ (.int .i64 0) = W at *
  apply wpS_seq
  apply wpS_seq
  apply wpS_region
  simp [wpOpsS, go_sem, recoverD, hu, Exit.thenS]
  refine wpS_of_wp ?_
  go_wp2_with fail
  simp only [Exit.thenS]
  refine wpS_of_wp ?_
  go_wp2_with fail
  have hI : Ints W vL L := IntRow.ints HMh.out.rowL
  obtain ⟨Al, cl, rfl, q1, q2⟩ := hI.slice
  have hIh := Lib.hid hI
  obtain ⟨Ac, cc, rfl, -, -, -⟩ := vals_row HMh.out.rowC
  obtain ⟨An, cn, rfl, -, -, -⟩ := vals_row HMh.out.rowN
  have hlen := HMh.out.locN
  have hplt := HMh.out.lt
  have hmlt := hmh.out.lt
  clear hI
  have hpo : p ≠ bo := fun e => hoh.out.2 (.inl e.symm)
  have hmo : bm ≠ bo := fun e => by
    have h1 := hmh.out.1
    rw [e, hoh.out.1] at h1
    injection h1 with h1
    injection h1 with _ h2
    cases h2
  have hlo : (Value.slice Al L.length cl).ownBlock ≠ some bo := row_not HMh.out.rowL hoh.out.1 (by decide)
  have hS : ∀ w', Near W bo 4 32 w' → ((∀ i, w'.cell? ⟨p, i, none⟩ = (#[.int .i64 0, vA, .slice Al L.length cl, .slice Ac S.acc.length cc, .slice An S.nts.length cn] : Array Value)[i]?) ∧ (∀ i, w'.cell? ⟨bm, i, none⟩ = (#[.pointer (some ⟨p, 0, none⟩)] : Array Value)[i]?) ∧ (∀ i, w'.cell? ⟨bo, i, none⟩ = (#[cellD w' bo 0, cellD w' bo 1, cellD w' bo 2, cellD w' bo 3] : Array Value)[i]?) ∧ (∀ i, w'.frozen? ⟨bo, i, none⟩ = false) ∧ Near W bo 4 32 w') := fun w' hx =>
    ⟨fun i => (hx.cell hplt hpo).trans (hq i), fun i => (hx.cell hmlt hmo).trans (cm2 i), hx.four, hx.frozen, hx⟩
  have hN : Near W bo 4 32 W := Near.new hoh.out.1 rfl
  go_region_held2 (fun w' => (∀ i, w'.cell? ⟨p, i, none⟩ = (#[.int .i64 0, vA, .slice Al L.length cl, .slice Ac S.acc.length cc, .slice An S.nts.length cn] : Array Value)[i]?) ∧ (∀ i, w'.cell? ⟨bm, i, none⟩ = (#[.pointer (some ⟨p, 0, none⟩)] : Array Value)[i]?) ∧ (∀ i, w'.cell? ⟨bo, i, none⟩ = (#[cellD w' bo 0, cellD w' bo 1, cellD w' bo 2, cellD w' bo 3] : Array Value)[i]?) ∧ (∀ i, w'.frozen? ⟨bo, i, none⟩ = false) ∧ Near W bo 4 32 w') (first | exact hS _ hN.drew | (refine hS _ ?_; (repeat refine Near.set ?_ _ _); exact hN.drew.ext h2))
    (first
      | (go_at_call 41
         refine (tshort_p Al cl L _ (hIh.out.ext (Ext.refl W).drew) q1 q2 (by omega)).mono ?_
         rintro e w' ⟨v', rfl, h1, h2⟩
         obtain ⟨As, cs, rfl, hs1, hs2⟩ := h1.ints.slice))
  obtain ⟨f1, f2⟩ := end_out (d := true) HMh.out hoh.out.1 ((Ext.refl W).drew.trans h2) h1
  have fg : bg ≠ bo := fun e => by
    have h1 := hgh.out
    rw [e, hoh.out.1] at h1
    injection h1 with h1
    injection h1 with _ h2
    cases h2
  refine ⟨rfl, FrameMode.returning, (by cases c₀; simp only at hu; subst hu; rfl), .tuple #[], (by simp [results, Try.results53, go_sem]), rfl, rfl, ?_, ⟨_, _, _, f1, f2⟩, ?_⟩
  · rw [heap_setCell_ne _ _ fg, heap_setCell_ne _ _ fg, heap_setCell_ne _ _ fg, heap_setCell_ne _ _ fg]
    exact (Below.block ((Ext.refl W).drew.trans h2) bg (Array.getElem?_eq_some_iff.1 hgh.out).1).trans hgh.out
  · exact ((((hN.drew.ext h2).set _ _).set _ _).set _ _ |>.set _ _).below hbel.out hB2 (by have := HMh.out.ge; omega)
set_option maxRecDepth 100000 in
set_option maxHeartbeats 1000000 in
theorem end_stopE (B p : Nat) (S : TS) (bm bg bo : Nat) (v : Value) (older : List PanicEntry) (w : World) (h : Stops B w p S) (hm : HeldP w p bm (.cells #[.pointer (some ⟨p, 0, none⟩)] 35 (0, 0))) (hg : HeldP w p bg (.cells #[v] 45 (0, 0)))
    (ho : HeldP w p bo (.cells #[.bool false, .slice none 0 0, .slice none 0 0, .slice none 0 0] 32 (0, 0))) (hB1 : B ≤ bg) (hB2 : B ≤ bo) :
    CallsD Try.prog 53 #[.pointer (some ⟨bm, 0, none⟩), .pointer (some ⟨bg, 0, none⟩), .pointer (some ⟨bo, 0, none⟩)] (.panicking ({ v := .iface 64 (.agg #[.pointer (some ⟨p, 0, none⟩)]), recovered := false } :: older)) w fun e u' w' =>
      e = .returned (.tuple #[]) ∧ u' = .panicking ({ v := .iface 64 (.agg #[.pointer (some ⟨p, 0, none⟩)]), recovered := true } :: older) ∧ EndAtE B w w' bg bo (.int .i64 0) false S := by
  obtain ⟨vA, vL, vC, vN, L, h⟩ := h
  have hc := cell_of_heap h.heap
  have hfz := frozen_of_heap h.heap
  have cm := hm.cells
  refine callsD_of_wpS Try.func53 rfl fun c₀ cs hu => ?_
  simp only [Try.ntmps53, List.size_toArray, List.length_cons, List.length_nil, Nat.reduceAdd, Nat.reduceSub, Array.replicate_succ, Array.replicate_zero, List.push_toArray, List.append_toArray, List.nil_append, List.cons_append]
  apply wpS_seq
  refine wpS_of_wp ?_
  go_wp2_with fail
  simp only [Exit.thenS]
  apply wpS_seq
  refine wpS_of_wp ?_
  go_wp2_with fail
  simp only [Exit.thenS]
  obtain ⟨HM, HK⟩ := h.state 0
  have hm2 := hm.keep HK
  have hg2 := hg.keep HK
  have ho2 := ho.keep HK
  clear hc hfz cm hm hg ho h
  generalize w.setCell ⟨p, 0, none⟩ (.int .i64 0) = W0 at *
  have hX := (Ext.refl W0).alloc (.cells #[.agg #[.pointer (some ⟨p, 0, none⟩)]] 64)
  have hq0 := cell_of_heap HM.heap
  have cm0 := hm2.cells
  have hqa : Hid (∀ O, ∀ i, (W0.alloc O).cell? ⟨bm, i, none⟩ = (#[.pointer (some ⟨p, 0, none⟩)] : Array Value)[i]?) := Lib.hid fun O i => (((Ext.refl W0).alloc O).cell (p := ⟨bm, i, none⟩) hm2.lt).trans (hm2.cells i)
  have cma := hqa.out
  have fga := frozen_of_heap hg2.1
  have cg0 := hg2.cells
  have W0lt := hg2.lt
  have fgb : Hid (∀ O i, (W0.alloc O).frozen? ⟨bg, i, none⟩ = false) := Lib.hid fun O i => frozen_of_heap ((Below.block ((Ext.refl W0).alloc O) bg hg2.lt).trans hg2.1) i
  have cgb : Hid (∀ O i, (W0.alloc O).cell? ⟨bg, i, none⟩ = (#[v] : Array Value)[i]?) := Lib.hid fun O i => (((Ext.refl W0).alloc O).cell (p := ⟨bg, i, none⟩) hg2.lt).trans (hg2.cells i)
  have fgb' := fgb.out
  have cgb' := cgb.out
  have HMh0 := Lib.hid HM
  have HKh := Lib.hid HK
  have hmh0 := Lib.hid hm2
  have hgh0 := Lib.hid hg2
  have hoh0 := Lib.hid ho2
  clear HM HK hm2 hg2 ho2
  apply wpS_seq
  apply wpS_seq
  apply wpS_region
  simp [wpOpsS, go_sem, recoverD, hu, Exit.thenS]
  refine wpS_of_wp ?_
  go_wp2_with fail
  simp only [Exit.thenS]
  refine wpS_of_wp ?_
  go_wp2_with fail
  have hgp := hgh0.out.2
  have hmg : bm ≠ bg := fun e => by
    have h1 := hmh0.out.1
    rw [e, hgh0.out.1] at h1
    injection h1 with h1
    injection h1 with _ h2
    cases h2
  have hog : bo ≠ bg := fun e => by
    have h1 := hoh0.out.1
    rw [e, hgh0.out.1] at h1
    injection h1 with h1
    injection h1 with _ h2
    cases h2
  have HM1 := HMh0.out.setO hgp hB1 0 (.int .i64 0)
  have hm1 := hmh0.out.setO hmg hgp 0 (.int .i64 0)
  have ho1 := hoh0.out.setO hog hgp 0 (.int .i64 0)
  have hg1 := heap_setCell (i := 0) hgh0.out.1 (.int .i64 0)
  have hb1 : Below B w (W0.setCell ⟨bg, 0, none⟩ (.int .i64 0)) := Below.setCell HKh.out.below (by show B ≤ bg; exact hB1) _
  have HMh := Lib.hid (HM1.ext ((Ext.refl _).alloc (.cells #[.pointer (some ⟨p, 0, none⟩)] 64)))
  have hmh := Lib.hid (hm1.alloc (.cells #[.pointer (some ⟨p, 0, none⟩)] 64) HM1.lt)
  have hoh := Lib.hid (ho1.alloc (.cells #[.pointer (some ⟨p, 0, none⟩)] 64) HM1.lt)
  have hgh := Lib.hid ((Below.block ((Ext.refl _).alloc (.cells #[.pointer (some ⟨p, 0, none⟩)] 64)) bg (Array.getElem?_eq_some_iff.1 hg1).1).trans hg1)
  have hbel := Lib.hid (Below.alloc hb1 (by have := HM1.ge; have := HM1.lt; omega) (.cells #[.pointer (some ⟨p, 0, none⟩)] 64))
  clear hX hq0 cm0 hqa cma fga cg0 fgb cgb fgb' cgb' HMh0 hmh0 hgh0 hoh0 HKh HM1 hm1 ho1 hg1 hb1 hgp W0lt
  generalize (World.alloc (W0.setCell ⟨bg, 0, none⟩ (.int .i64 0)) (.cells #[.pointer (some ⟨p, 0, none⟩)] 64)) = W at *
  have hq := cell_of_heap HMh.out.heap
  have cm2 := hmh.out.cells
  have hI : Ints W vL L := IntRow.ints HMh.out.rowL
  obtain ⟨Al, cl, rfl, q1, q2⟩ := hI.slice
  have hIh := Lib.hid hI
  obtain ⟨Ac, cc, rfl, -, -, -⟩ := vals_row HMh.out.rowC
  obtain ⟨An, cn, rfl, -, -, -⟩ := vals_row HMh.out.rowN
  have hlen := HMh.out.locN
  have hplt := HMh.out.lt
  have hmlt := hmh.out.lt
  clear hI
  have hpo : p ≠ bo := fun e => hoh.out.2 (.inl e.symm)
  have hmo : bm ≠ bo := fun e => by
    have h1 := hmh.out.1
    rw [e, hoh.out.1] at h1
    injection h1 with h1
    injection h1 with _ h2
    cases h2
  have hlo : (Value.slice Al L.length cl).ownBlock ≠ some bo := row_not HMh.out.rowL hoh.out.1 (by decide)
  have hS : ∀ w', Near W bo 4 32 w' → ((∀ i, w'.cell? ⟨p, i, none⟩ = (#[.int .i64 0, vA, .slice Al L.length cl, .slice Ac S.acc.length cc, .slice An S.nts.length cn] : Array Value)[i]?) ∧ (∀ i, w'.cell? ⟨bm, i, none⟩ = (#[.pointer (some ⟨p, 0, none⟩)] : Array Value)[i]?) ∧ (∀ i, w'.cell? ⟨bo, i, none⟩ = (#[cellD w' bo 0, cellD w' bo 1, cellD w' bo 2, cellD w' bo 3] : Array Value)[i]?) ∧ (∀ i, w'.frozen? ⟨bo, i, none⟩ = false) ∧ Near W bo 4 32 w') := fun w' hx =>
    ⟨fun i => (hx.cell hplt hpo).trans (hq i), fun i => (hx.cell hmlt hmo).trans (cm2 i), hx.four, hx.frozen, hx⟩
  have hN : Near W bo 4 32 W := Near.new hoh.out.1 rfl
  go_region_held2 (fun w' => (∀ i, w'.cell? ⟨p, i, none⟩ = (#[.int .i64 0, vA, .slice Al L.length cl, .slice Ac S.acc.length cc, .slice An S.nts.length cn] : Array Value)[i]?) ∧ (∀ i, w'.cell? ⟨bm, i, none⟩ = (#[.pointer (some ⟨p, 0, none⟩)] : Array Value)[i]?) ∧ (∀ i, w'.cell? ⟨bo, i, none⟩ = (#[cellD w' bo 0, cellD w' bo 1, cellD w' bo 2, cellD w' bo 3] : Array Value)[i]?) ∧ (∀ i, w'.frozen? ⟨bo, i, none⟩ = false) ∧ Near W bo 4 32 w') (first | exact hS _ hN.drew | (refine hS _ ?_; (repeat refine Near.set ?_ _ _); exact hN.drew.ext h2))
    (first
      | (go_at_call 41
         refine (tshort_p Al cl L _ (hIh.out.ext (Ext.refl W).drew) q1 q2 (by omega)).mono ?_
         rintro e w' ⟨v', rfl, h1, h2⟩
         obtain ⟨As, cs, rfl, hs1, hs2⟩ := h1.ints.slice))
  obtain ⟨f1, f2⟩ := end_out (d := false) HMh.out hoh.out.1 ((Ext.refl W).drew.trans h2) h1
  have fg : bg ≠ bo := fun e => by
    have h1 := hgh.out
    rw [e, hoh.out.1] at h1
    injection h1 with h1
    injection h1 with _ h2
    cases h2
  refine ⟨rfl, FrameMode.panicking ({ v := .iface 64 (.agg #[.pointer (some ⟨p, 0, none⟩)]), recovered := true } :: older), (by cases c₀; simp only at hu; subst hu; rfl), .tuple #[], (by simp [results, Try.results53, go_sem]), rfl, rfl, ?_, ⟨_, _, _, f1, f2⟩, ?_⟩
  · rw [heap_setCell_ne _ _ fg, heap_setCell_ne _ _ fg, heap_setCell_ne _ _ fg, heap_setCell_ne _ _ fg]
    exact (Below.block ((Ext.refl W).drew.trans h2) bg (Array.getElem?_eq_some_iff.1 hgh.out).1).trans hgh.out
  · exact ((((hN.drew.ext h2).set _ _).set _ _).set _ _ |>.set _ _).below hbel.out hB2 (by have := HMh.out.ge; omega)
end Go.Proofs.Ytpcohbpeglledaa
/-
  Playing an operation whose result is an error's number.
-/
namespace Go.Proofs.Ytpcohbpeglledaa
open Go.RowKit Kv
set_option maxRecDepth 100000 in
set_option maxHeartbeats 1000000 in
theorem play_err (f : FuncId) (cap : Array Value) (T : Prog Int) (Al : Option Addr) (cl : Nat) (L : List Int) (Aa : Option Addr) (ca : Nat) (ans : List Int) (w : World) (h : Ints w (.slice Al L.length cl) L) (hl : L.length ≤ 32768) (ha : Ints w (.slice Aa ans.length ca) ans) (hn : ans.length ≤ maxAns)
    (hb : ∀ b, (Value.slice Aa ans.length ca).ownBlock = some b → b < w.heap.size)
    (hcf : ∀ (args : Array Value) (w : World), (callFunc f args).run Try.prog w = .ok (.enter f args) w)
    (hdo : ∀ w1 p, Ext w w1 → Plays w.heap.size w1 p (TS0 L ans) → Calls Try.prog f (#[.pointer (some ⟨p, 0, none⟩)] ++ cap) w1 (Post encI w.heap.size p w1 (T.run (TS0 L ans)))) :
    Calls Try.prog 22 #[.func (.func f) #[] cap, .slice Al L.length cl, .slice Aa ans.length ca] w fun e w' => ∃ v, e = .returned (.tuple #[.int .i64 ((T.run (TS0 L ans)).1.getD 0), v]) ∧ Outs w' v (T.run (TS0 L ans)).1.isSome (T.run (TS0 L ans)).2 ∧ Ext w w' := by
  obtain ⟨q1, q2⟩ : L.length ≤ cl ∧ cl ≤ 9223372036854775807 := by
    obtain ⟨A', c', he, q1, q2, _⟩ := h
    injection he with e1 e2 e3
    subst e3
    exact ⟨q1, q2⟩
  generalize hR : (fun e w' => ∃ v, e = Ending.returned (.tuple #[.int .i64 ((T.run (TS0 L ans)).1.getD 0), v]) ∧ Outs w' v (T.run (TS0 L ans)).1.isSome (T.run (TS0 L ans)).2 ∧ Ext w w') = R
  have hfin : ∀ v w', Outs w' v (T.run (TS0 L ans)).1.isSome (T.run (TS0 L ans)).2 → Ext w w' → R (.returned (.tuple #[.int .i64 ((T.run (TS0 L ans)).1.getD 0), v])) w' := fun v w' h1 h2 => hR ▸ ⟨v, rfl, h1, h2⟩
  clear hR
  have hmf : ∀ (fn : Fn) (first cap : Array Value) (w : World), (Instr.makeFunc fn first cap).run Try.prog w = .ok (.func fn first cap) w := fun _ _ _ _ => rfl
  go_enter_defers Try.func22, Try.ntmps22
  go_wp2_with fail
  obtain ⟨hx, g1, g2, g3, g4⟩ := four_boxes w (.cells #[.int .i64 0] 45) (.cells #[.bool false, .slice none 0 0, .slice none 0 0, .slice none 0 0] 32) (.cells #[.int .i64 1, .slice Aa ans.length ca, .slice none 0 0, .slice none 0 0, .slice none 0 0] 61) (.cells #[.pointer (some ⟨w.heap.size + 1 + 1, 0, none⟩)] 35)
  generalize hW : World.alloc (World.alloc (World.alloc (World.alloc w _) _) _) _ = W at *
  clear hW
  have hI := h.ext hx
  have cm := cell_of_heap g4
  have hN : Near W (w.heap.size + 1 + 1) 5 61 W := Near.new g3 rfl
  have hmlt := (Array.getElem?_eq_some_iff.1 g4).1
  have hmin : min (L.length : Int) 32768 = (L.length : Int) := by omega
  have hS : ∀ w', Near W (w.heap.size + 1 + 1) 5 61 w' → ((∀ i, w'.cell? ⟨w.heap.size + 1 + 1 + 1, i, none⟩ = (#[.pointer (some ⟨w.heap.size + 1 + 1, 0, none⟩)] : Array Value)[i]?) ∧ (∀ i, w'.cell? ⟨w.heap.size + 1 + 1, i, none⟩ = (#[cellD w' (w.heap.size + 1 + 1) 0, cellD w' (w.heap.size + 1 + 1) 1, cellD w' (w.heap.size + 1 + 1) 2, cellD w' (w.heap.size + 1 + 1) 3, cellD w' (w.heap.size + 1 + 1) 4] : Array Value)[i]?) ∧ (∀ i, w'.frozen? ⟨w.heap.size + 1 + 1, i, none⟩ = false)) := fun w' hx =>
    ⟨fun i => (hx.cell hmlt (by omega)).trans (cm i), hx.five, hx.frozen⟩
  go_region_held3 (fun w' => (∀ i, w'.cell? ⟨w.heap.size + 1 + 1 + 1, i, none⟩ = (#[.pointer (some ⟨w.heap.size + 1 + 1, 0, none⟩)] : Array Value)[i]?) ∧ (∀ i, w'.cell? ⟨w.heap.size + 1 + 1, i, none⟩ = (#[cellD w' (w.heap.size + 1 + 1) 0, cellD w' (w.heap.size + 1 + 1) 1, cellD w' (w.heap.size + 1 + 1) 2, cellD w' (w.heap.size + 1 + 1) 3, cellD w' (w.heap.size + 1 + 1) 4] : Array Value)[i]?) ∧ (∀ i, w'.frozen? ⟨w.heap.size + 1 + 1, i, none⟩ = false)) (first | exact hS _ hN.drew | (refine hS _ ?_; (repeat refine Near.set ?_ _ _); exact hN.drew.ext h2))
    (first
      | (go_at_call 39
         refine (clone_any Al cl L _ (hI.ext (Ext.refl W).drew) (by omega)).mono ?_
         rintro e w' ⟨v', rfl, h1, h2⟩
         obtain ⟨As, cs, rfl, hs1, hs2⟩ := h1.ints.slice))
  obtain ⟨hP, hH, hE⟩ := play_start (p := w.heap.size + 1 + 1) hx (by omega) g3 ((Ext.refl W).drew.trans h2) h1 hl ha hn hb
  have hbg := hH _ _ g1 (by omega)
  have hbo := hH _ _ g2 (by omega)
  have hbm := hH _ _ g4 (by omega)
  clear hH g1 g2 g3 g4 hS hN h1 h2 hI cm hmin hmlt
  rename_i hh
  clear hh
  have hT := hdo _ _ hE hP
  clear hdo
  generalize World.setCell _ _ _ = W2 at *
  have cbm := hbm.cells
  have hnf : (binOp .neq 49 (.func (.func f) #[] cap) .nilFunc).run Try.prog W2 = .ok (.bool true) W2 := by kernel_rfl
  go_wp2_with fail
  generalize hr : T.run (TS0 L ans) = r at hT hfin
  obtain ⟨o, S⟩ := r
  clear hr
  cases o with
  | some a =>
    refine hT.mono ?_
    rintro e w3 ⟨rfl, hP3, hK3⟩
    have hbg3 := hbg.keep hK3
    have hbo3 := hbo.keep hK3
    have hbm3 := hbm.keep hK3
    have hE3 : Ext w w3 := Below.trans hE hK3.below
    clear hbg hbo hbm hE hK3 hT hP cbm hnf
    have cbg := hbg3.cells
    have fbg := frozen_of_heap hbg3.1
    have cbo := hbo3.cells
    have fbo := frozen_of_heap hbo3.1
    go_wp2_with fail
    have fgo : w.heap.size ≠ w.heap.size + 1 := by omega
    have hg4 := heap_setCell (i := 0) hbg3.1 (.int .i64 a)
    have hP4 : Plays w.heap.size (w3.setCell ⟨w.heap.size, 0, none⟩ (.int .i64 a)) (w.heap.size + 1 + 1) S := by
      obtain ⟨q, vA, vL, vC, vN, L', hM⟩ := hP3
      exact ⟨q, vA, vL, vC, vN, L', hM.setO hbg3.2 (Nat.le_refl _) _ _⟩
    have hbm4 := hbm3.setO (b := w.heap.size) (by omega) hbg3.2 0 (.int .i64 a)
    have hbo4 := hbo3.setO (b := w.heap.size) (by omega) hbg3.2 0 (.int .i64 a)
    have hbg4 : HeldP (w3.setCell ⟨w.heap.size, 0, none⟩ (.int .i64 a)) (w.heap.size + 1 + 1) w.heap.size (.cells #[.int .i64 a] 45 (0, 0)) := ⟨hg4, fun h' => hbg3.2 ((ownR_same (heap_setCell_ne _ _ (by omega)) _).1 h')⟩
    have hE4 : Ext w (w3.setCell ⟨w.heap.size, 0, none⟩ (.int .i64 a)) := hE3.setCell (Nat.le_refl _) _
    clear hP3 hbg3 hbo3 hbm3 hE3 cbg fbg cbo fbo hg4
    generalize World.setCell _ _ _ = w4 at *
    generalize hbq : w.heap.size + 1 = bo at hbm4 hbo4 hP4 ⊢
    have fgo1 : w.heap.size ≠ bo := by omega
    have fgo2 : bo ≠ w.heap.size := by omega
    clear fgo
    have cbg := hbg4.cells
    have fbg := frozen_of_heap hbg4.1
    have cbo := hbo4.cells
    have fbo := frozen_of_heap hbo4.1
    go_region
    all_goals
      generalize hW5 : World.drew _ = W5
      have hsm : SameW w4 W5 := by
        rw [← hW5]
        repeat first | with_reducible exact SameW.refl _ | with_reducible refine SameW.drew2 ?_ | refine SameW.set ?_ hbg4.1 rfl | refine SameW.set ?_ hbo4.1 rfl
      clear hW5 cbg fbg cbo fbo
      have hP5 := hP4.ext hsm.ext
      have hbm5 := hbm4.ext hsm.ext hP4.lt
      have hbg5 := hbg4.ext hsm.ext (by rw [hbq]; exact hP4.lt)
      have hbo5 := hbo4.ext hsm.ext hP4.lt
      have hE5 : Ext w W5 := hE4.trans hsm.ext
      clear hP4 hbm4 hbg4 hbo4 hE4 hsm
      go_wp2_with fail
      refine leaves_cons (f := 53) (args := #[.pointer (some ⟨bo + 1 + 1, 0, none⟩), .pointer (some ⟨w.heap.size, 0, none⟩), .pointer (some ⟨bo, 0, none⟩)]) (by simp) (by simp [go_sem]) ?_
      refine (end_okE w.heap.size _ S _ _ _ _ _ hP5 hbm5 (by rw [← hbq]; exact hbg5) hbo5 (by omega)).mono ?_
      rintro e u' w4 ⟨rfl, rfl, hg, ⟨vC, vN, vs, ho, hO⟩, hB⟩
      have cg := cell_of_heap hg
      have co := cell_of_heap ho
      have cg0 := cg 0
      have co0 := co 0
      have co1 := co 1
      have co2 := co 2
      have co3 := co 3
      refine ⟨.tuple #[.int .i64 a, .agg #[.bool true, vC, vN, vs]], ?_, hfin _ _ hO (Below.trans hE5 hB)⟩
      simp [results, Try.results22, go_sem, cg0, co0, co1, co2, co3]
  | none =>
    refine hT.mono ?_
    rintro e w3 ⟨rfl, hP3, hK3⟩
    have hbg3 := hbg.keep hK3
    have hbo3 := hbo.keep hK3
    have hbm3 := hbm.keep hK3
    have hE3 : Ext w w3 := Below.trans hE hK3.below
    clear hbg hbo hbm hE hK3 hT hP cbm hnf
    refine leaves_cons (f := 53) (args := #[.pointer (some ⟨w.heap.size + 1 + 1 + 1, 0, none⟩), .pointer (some ⟨w.heap.size, 0, none⟩), .pointer (some ⟨w.heap.size + 1, 0, none⟩)]) (by simp) (by simp [go_sem]) ?_
    refine (end_stopE w.heap.size _ S _ _ _ _ [] _ hP3 hbm3 hbg3 hbo3 (Nat.le_refl _) (by omega)).mono ?_
    rintro e u' w4 ⟨rfl, rfl, hg, ⟨vC, vN, vs, ho, hO⟩, hB⟩
    have cg := cell_of_heap hg
    have co := cell_of_heap ho
    have cg0 := cg 0
    have co0 := co 0
    have co1 := co 1
    have co2 := co 2
    have co3 := co 3
    refine ⟨.tuple #[.int .i64 0, .agg #[.bool false, vC, vN, vs]], ?_, hfin _ _ hO (Below.trans hE3 hB)⟩
    simp [results, Try.results22, go_sem, cg0, co0, co1, co2, co3]
    trace_state
end Go.Proofs.Ytpcohbpeglledaa
/-
  Accesses, notes and wants compared.
-/
namespace Go.Proofs.Ytpcohbpeglledaa
open Go.RowKit Kv
theorem eqIn_acc (a b c a' b' c' : Int) (w : World) : (Op.equalIn 10000 39 (.agg #[.int .i64 a, .int .i64 b, .int .i64 c]) (.agg #[.int .i64 a', .int .i64 b', .int .i64 c'])).run Try.prog w = .ok (decide (a = a' ∧ b = b' ∧ c = c')) w := by
  rw [run_equalIn_struct w 9999 39 _ _ (by kernel_rfl) (by kernel_rfl)]
  have hu : Try.prog.underlying 3 = some (.int .i64) := Try.underlying3
  simp only [Program.fieldsOf, Try.underlying39, Op.eqFields]
  simp [go_sem, run_equalIn_int, hu]
  by_cases h0 : a = a' <;> by_cases h1 : b = b' <;> by_cases h2 : c = c' <;> simp [h0, h1, h2]
@[go_sem] theorem eql_acc (a b c a' b' c' : Int) (w : World) : (binOp .eql 39 (.agg #[.int .i64 a, .int .i64 b, .int .i64 c]) (.agg #[.int .i64 a', .int .i64 b', .int .i64 c'])).run Try.prog w = .ok (.bool (decide (a = a' ∧ b = b' ∧ c = c'))) w := by
  rw [run_eql_struct, eqIn_acc]; rfl
@[go_sem] theorem neq_acc (a b c a' b' c' : Int) (w : World) : (binOp .neq 39 (.agg #[.int .i64 a, .int .i64 b, .int .i64 c]) (.agg #[.int .i64 a', .int .i64 b', .int .i64 c'])).run Try.prog w = .ok (.bool (!decide (a = a' ∧ b = b' ∧ c = c'))) w := by
  rw [run_neq_struct, eqIn_acc]; rfl
theorem eqIn_nt (a b a' b' : Int) (w : World) : (Op.equalIn 10000 53 (.agg #[.int .i64 a, .int .i64 b]) (.agg #[.int .i64 a', .int .i64 b'])).run Try.prog w = .ok (decide (a = a' ∧ b = b')) w := by
  rw [run_equalIn_struct w 9999 53 _ _ (by kernel_rfl) (by kernel_rfl)]
  have hu : Try.prog.underlying 3 = some (.int .i64) := Try.underlying3
  simp only [Program.fieldsOf, Try.underlying53, Op.eqFields]
  simp [go_sem, run_equalIn_int, hu]
  by_cases h0 : a = a' <;> by_cases h1 : b = b' <;> simp [h0, h1]
@[go_sem] theorem eql_nt (a b a' b' : Int) (w : World) : (binOp .eql 53 (.agg #[.int .i64 a, .int .i64 b]) (.agg #[.int .i64 a', .int .i64 b'])).run Try.prog w = .ok (.bool (decide (a = a' ∧ b = b'))) w := by
  rw [run_eql_struct, eqIn_nt]; rfl
@[go_sem] theorem neq_nt (a b a' b' : Int) (w : World) : (binOp .neq 53 (.agg #[.int .i64 a, .int .i64 b]) (.agg #[.int .i64 a', .int .i64 b'])).run Try.prog w = .ok (.bool (!decide (a = a' ∧ b = b'))) w := by
  rw [run_neq_struct, eqIn_nt]; rfl
theorem eqIn_want (a b a' b' : Int) (w : World) : (Op.equalIn 10000 59 (.agg #[.int .i64 a, .int .i64 b]) (.agg #[.int .i64 a', .int .i64 b'])).run Try.prog w = .ok (decide (a = a' ∧ b = b')) w := by
  rw [run_equalIn_struct w 9999 59 _ _ (by kernel_rfl) (by kernel_rfl)]
  have hu : Try.prog.underlying 3 = some (.int .i64) := Try.underlying3
  simp only [Program.fieldsOf, Try.underlying59, Op.eqFields]
  simp [go_sem, run_equalIn_int, hu]
  by_cases h0 : a = a' <;> by_cases h1 : b = b' <;> simp [h0, h1]
@[go_sem] theorem eql_want (a b a' b' : Int) (w : World) : (binOp .eql 59 (.agg #[.int .i64 a, .int .i64 b]) (.agg #[.int .i64 a', .int .i64 b'])).run Try.prog w = .ok (.bool (decide (a = a' ∧ b = b'))) w := by
  rw [run_eql_struct, eqIn_want]; rfl
@[go_sem] theorem neq_want (a b a' b' : Int) (w : World) : (binOp .neq 59 (.agg #[.int .i64 a, .int .i64 b]) (.agg #[.int .i64 a', .int .i64 b'])).run Try.prog w = .ok (.bool (!decide (a = a' ∧ b = b'))) w := by
  rw [run_neq_struct, eqIn_want]; rfl
end Go.Proofs.Ytpcohbpeglledaa
/-
  Two lists of ints compared by the document.
-/
namespace Go.Proofs.Ytpcohbpeglledaa
open Go.RowKit Kv
theorem take_snoc_eq {a b : List Int} {k : Nat} (ha : k < a.length) (hb : k < b.length) (h : a.take k = b.take k) : (a.take (k + 1) = b.take (k + 1)) ↔ a.getD k 0 = b.getD k 0 := by
  rw [List.take_succ_eq_append_getElem ha, List.take_succ_eq_append_getElem hb, h]
  rw [List.append_cancel_left_eq]
  simp [List.getD, List.getElem?_eq_getElem ha, List.getElem?_eq_getElem hb]
end Go.Proofs.Ytpcohbpeglledaa
/-
  Two Outs compared by the document.
-/
namespace Go.Proofs.Ytpcohbpeglledaa
open Go.RowKit Kv
end Go.Proofs.Ytpcohbpeglledaa
/-
  Plain mathematics: operations that ask for an access at least; what is left of the answers.
-/
namespace Kv
/-- An operation that asks for an access on each way. -/
inductive Prog.Asks {α : Type} : Prog α → Prop
  | read (c : Int) (k : Int → Prog α) : Asks (.read c k)
  | write (c v : Int) (k : Unit → Prog α) : Asks (.write c v k)
  | get (i : Int) {k : Int → Prog α} : (∀ x, Asks (k x)) → Asks (.get i k)
  | set (i v : Int) {k : Unit → Prog α} : Asks (k ()) → Asks (.set i v k)
  | note (m : Int) {k : Unit → Prog α} : Asks (k ()) → Asks (.note m k)
theorem Prog.Asks.bind {α β : Type} {p : Prog α} (h : p.Asks) (f : α → Prog β) : (p.bind f).Asks := by
  induction h with
  | read c k => exact .read _ _
  | write c v k => exact .write _ _ _
  | get i _ ih => exact .get i fun x => ih x
  | set i v _ ih => exact .set i v ih
  | note m _ ih => exact .note m ih
theorem Prog.Asks.then {α β : Type} {f : α → Prog β} (h : ∀ a, (f a).Asks) : ∀ p : Prog α, (p.bind f).Asks
  | .ret a => h a
  | .read _ _ => .read _ _
  | .write _ _ _ => .write _ _ _
  | .get i k => .get i fun x => Asks.then h (k x)
  | .set i v k => .set i v (Asks.then h (k ()))
  | .note m k => .note m (Asks.then h (k ()))
theorem Prog.run_len {α : Type} (p : Prog α) (S : TS) : S.acc.length ≤ (p.run S).2.acc.length := by
  obtain ⟨l, h⟩ := Prog.run_acc p S
  rw [h]; simp
/-- Behind such an operation there is an access more. -/
theorem Prog.Asks.run {α : Type} {p : Prog α} (h : p.Asks) : ∀ S : TS, S.acc.length < (p.run S).2.acc.length := by
  induction h with
  | read c k =>
    intro S
    simp only [Prog.run]
    cases S.next with
    | none => simp [TS.put]
    | some v => have := Prog.run_len (k v) (S.put ⟨1, c, 0⟩); simp [TS.put] at this ⊢; omega
  | write c v k =>
    intro S
    simp only [Prog.run]
    cases S.next with
    | none => simp [TS.put]
    | some _ => have := Prog.run_len (k ()) (S.put ⟨2, c, v⟩); simp [TS.put] at this ⊢; omega
  | get i _ ih => intro S; exact ih _ _
  | set i v _ ih => intro S; have := ih (S.upd i v); rw [TS.upd_acc] at this; exact this
  | note m _ ih => intro S; exact ih (S.noted m)
/-- How many answers are left. -/
def TS.left (S : TS) : Nat := S.ans.length - S.acc.length
theorem Prog.run_left {α : Type} (p : Prog α) (S : TS) : (p.run S).2.left ≤ S.left := by
  have h1 := Prog.run_ans p S
  have h2 := Prog.run_len p S
  unfold TS.left
  rw [h1]; omega
theorem Prog.Asks.left {α : Type} {p : Prog α} (h : p.Asks) {S S1 : TS} {a : α} (hr : p.run S = (some a, S1)) (hl : S1.acc.length ≤ S1.ans.length) : S1.left < S.left := by
  have h1 := Prog.run_ans p S
  have h2 := h.run S
  rw [hr] at h1 h2
  simp only at h1 h2
  unfold TS.left
  rw [← h1]; omega
theorem asks_rd (c : Int) : (rd c).Asks := .read _ _
theorem asks_wr (c v : Int) : (wr c v).Asks := .write _ _ _
theorem asks_trompR (b l : Int) : (trompR b l).Asks := (asks_rd _).bind _
theorem asks_slotsR (b l : Int) : (slotsR b l).Asks := (asks_trompR _ _).bind _
theorem asks_slotsW (b l v : Int) : (slotsW b l v).Asks := (asks_trompR _ _).bind _
theorem asks_tableR (b l n w top me : Int) (h : me ≠ w) : (tableR b l n w top me).Asks := by
  unfold tableR
  rw [if_neg h]
  exact (asks_slotsR _ _).bind _
theorem asks_manyRs (b l n top me : Int) (k : Nat) (j s v : Int) : (manyRs b l n top me (k + 2) j s v).Asks := by
  by_cases h : me = j
  · unfold manyRs
    refine Prog.Asks.then (fun y => ?_) _
    split
    · exact (asks_tableR _ _ _ _ _ _ (by omega)).bind _
    · exact (asks_tableR _ _ _ _ _ _ (by omega)).bind _
  · exact (asks_tableR _ _ _ _ _ _ h).bind _
/-- A register that is read by accesses. -/
def Reg.told (r : Reg) (me : Int) : Prop := r.kind = 1 ∨ (r.kind = 6 ∧ me ≠ r.wr) ∨ (r.kind = 7 ∧ 2 ≤ r.n)
theorem asks_regR (r : Reg) (me : Int) (h : r.told me) : (regR r me).Asks := by
  unfold regR
  rcases h with h | ⟨h, h2⟩ | ⟨h, h2⟩
  · rw [if_pos h]; exact asks_rd _
  · rw [if_neg (by omega), if_pos h]; exact asks_tableR _ _ _ _ _ _ h2
  · rw [if_neg (by omega), if_neg (by omega)]
    unfold manyR
    obtain ⟨k, hk⟩ : ∃ k : Nat, r.n.toNat = k + 2 := ⟨r.n.toNat - 2, by omega⟩
    rw [hk]
    exact (asks_manyRs _ _ _ _ _ _ _ _ _).bind _
end Kv
