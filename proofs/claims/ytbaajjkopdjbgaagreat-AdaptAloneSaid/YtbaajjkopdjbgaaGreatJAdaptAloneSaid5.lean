/-
  The black-white bakery laid, by the program.
-/
import Derived.Test.YtbaajjkopdjbgaaGreatJAdaptAloneSaid4
import Derived.Deep.Upon
/-
  The black-white bakery laid, by the program.
-/
namespace Go.Proofs.YtbaajjkopdjbgaaGreat
open Go.RowKit Kv
theorem heap_setCells_all {w : World} {z : Nat} {t : TypeId} {cur : Array Value} (h : w.heap[z]? = some (.cells cur t (0, 0))) (vs : List Value) (hl : vs.length = cur.size) : (w.setCells z 0 vs).heap[z]? = some (.cells vs.toArray t (0, 0)) := by
  obtain ⟨cur', h1, h2⟩ := heap_setCells_ex z t vs 0 w cur h
  rw [h1]
  congr 2
  apply Array.ext_getElem?
  intro i
  by_cases hi : i < vs.length
  · have hc := World.cell?_setCells_in z vs 0 w (fun j hj => by
      rw [Nat.zero_add, cell_of_heap h]
      have : j < cur.size := by omega
      simp [this]) i hi
    rw [Nat.zero_add, cell_of_heap h1] at hc
    rw [hc]
    simp [hi]
  · rw [Array.getElem?_eq_none (by omega), Array.getElem?_eq_none (by simpa using hi)]
set_option maxRecDepth 100000 in
set_option maxHeartbeats 1000000 in
theorem bwlay_p (alg mode base loc room me : Int) (N : Nat) (rs : List Reg) (w : World) (h1 : 1 ≤ N) (h2 : N ≤ 8) (hl : layM (bwWants N) N mode base loc = some rs) (hlc : 0 ≤ loc ∧ loc ≤ 32768) (hm0 : 0 ≤ me) (hm1 : me < N) (r0 : Reg) (hr0 : rs[0]? = some r0) :
    Calls Tryz.prog 244 #[.agg #[.int .i64 alg, .int .i64 N, .int .i64 mode, .int .i64 base, .int .i64 loc, .int .i64 room], .int .i64 me] w fun e w' => ∃ b c1 c2, e = .returned (.tuple #[.agg #[.int .i64 r0.kind, .int .i64 r0.base, .int .i64 r0.loc, .int .i64 r0.n, .int .i64 r0.wr, .int .i64 r0.rd, .int .i64 r0.top, .slice (some ⟨b, 7, none⟩) N c1, .slice (some ⟨b, (1 + N) * 7, none⟩) N c2, .int .i64 (loc + sumL rs)], .int .i64 0]) ∧ w.heap.size ≤ b ∧ b < w'.heap.size ∧ (∀ (i : Nat) u, (rs.flatMap regVals)[i]? = some u → w'.cell? ⟨b, i, none⟩ = some u) ∧ Ext w w' := by
  have hlen := layM_len hl
  rw [bwWants_len] at hlen
  have hok : ∀ r ∈ rs, r.ok := fun r hr => (laid_all hl r hr).1
  have hbd := sum_bd hok rs.length (Nat.le_refl _)
  rw [List.take_length] at hbd
  have hw := IntWalk.i64_in (loc + sumL rs) (by omega)
  have hw2 := IntWalk.i64_in ((1 : Int) + (N : Int)) (by omega)
  replace hl := Lib.hid hl
  have hlenh := Lib.hid hlen
  have hokh := Lib.hid hok
  have hr0h := Lib.hid hr0
  clear hlen hok hbd hr0
  have d1 : decide (me < 0) = false := by rw [decide_eq_false_iff_not]; omega
  have d2 : decide ((N : Int) ≤ me) = false := by rw [decide_eq_false_iff_not]; omega
  have hX := Ext.refl w
  have b1 := Blk.new w (.cells #[.int .i64 alg, .int .i64 N, .int .i64 mode, .int .i64 base, .int .i64 loc, .int .i64 room] 23)
  replace hX := hX.alloc (.cells #[.int .i64 alg, .int .i64 N, .int .i64 mode, .int .i64 base, .int .i64 loc, .int .i64 room] 23)
  have c_b1 := b1.cells
  go_enter Tryz.func244, Tryz.ntmps244
  go_wp2_with fail
  have z1 := Blk.new (w.alloc (.cells #[.int .i64 alg, .int .i64 N, .int .i64 mode, .int .i64 base, .int .i64 loc, .int .i64 room] 23)) (.cells #[.int .i64 0, .int .i64 0, .int .i64 0, .int .i64 0, .int .i64 0, .int .i64 0, .int .i64 0, .slice none 0 0, .slice none 0 0, .int .i64 0] 187)
  rw [World.size_alloc] at z1
  replace b1 := b1.alloc (.cells #[.int .i64 0, .int .i64 0, .int .i64 0, .int .i64 0, .int .i64 0, .int .i64 0, .int .i64 0, .slice none 0 0, .slice none 0 0, .int .i64 0] 187)
  replace hX := hX.alloc (.cells #[.int .i64 0, .int .i64 0, .int .i64 0, .int .i64 0, .int .i64 0, .int .i64 0, .int .i64 0, .slice none 0 0, .slice none 0 0, .int .i64 0] 187)
  clear c_b1
  generalize World.alloc (World.alloc w _) _ = W at *
  have hXW := hX
  clear hX
  have hX := (Ext.refl W).drew
  have hS : ∀ w', Ext W w' → (∀ i, w'.cell? ⟨w.heap.size, i, none⟩ = (#[.int .i64 alg, .int .i64 N, .int .i64 mode, .int .i64 base, .int .i64 loc, .int .i64 room] : Array Value)[i]?) := fun w' hx => (b1.ext hx).cells
  go_region_held2 (fun w' => ∀ i, w'.cell? ⟨w.heap.size, i, none⟩ = (#[.int .i64 alg, .int .i64 N, .int .i64 mode, .int .i64 base, .int .i64 loc, .int .i64 room] : Array Value)[i]?) (exact hS _ hX)
    (first
      | (go_at_call 185
         refine (bwwants_p N _ h1 h2).mono ?_
         rintro e w2 ⟨v2, rfl, hw2, hx⟩
         replace hX := hX.trans hx
         have hz2 := hX.size
         clear hx)
      | (go_at_call 163
         refine (layp_some hl.out _ (hw2.ext (Ext.refl _)) (by rw [bwWants_len]; omega)).mono ?_
         rintro e w3 ⟨v3, rfl, hr3, hx⟩
         replace hX := hX.trans hx
         clear hx))
  rename_i hh
  clear hh
  obtain ⟨⟨A, c0, rfl, q1, q2, hV⟩, hown⟩ := hr3
  obtain ⟨c, rfl⟩ : ∃ c, c0 = c + N + 2 := ⟨c0 - N - 2, by have := hlenh.out; omega⟩
  obtain ⟨b, rfl, hb, hcells⟩ := hV (by cases rs with | nil => have := hlenh.out; simp only [List.length_nil] at this; omega | cons r l => simp [regVals])
  have hgeW : W.heap.size ≤ b := Nat.le_trans hz2 (hown b rfl)
  have hge : w.heap.size ≤ b := Nat.le_trans hXW.size hgeW
  have hch := Lib.hid hcells
  clear hcells hV hown hz2
  go_wp2_with fail
  refine (size_p b (c + N + 2) rs w3 hb hch.out hokh.out (by have := hlenh.out; omega)).mono ?_
  rintro e w4 ⟨rfl, hx4⟩
  have hX4 := hX.trans hx4
  have hcells4 : ∀ (i : Nat) u, (rs.flatMap regVals)[i]? = some u → w4.cell? ⟨b, i, none⟩ = some u := fun i u hu => (hx4.cell (p := ⟨b, i, none⟩) hb).trans (hch.out i u hu)
  have hb4 := Nat.lt_of_lt_of_le hb hx4.size
  obtain ⟨a0, a1, a2, a3, a4, a5, a6⟩ := reg_cells (w := w4) (b := b) hcells4 hr0h.out
  simp only [Nat.zero_mul, Nat.zero_add] at a0 a1 a2 a3 a4 a5 a6
  have c_b4 := (b1.ext hX4).cells
  have z4 := z1.ext hX4
  have hlen9 : (rs.length : Int) = 2 * (N : Int) + 1 := by have := hlenh.out; omega
  have hcells4h := Lib.hid hcells4
  have c_z4 := z4.cells
  have hfz : ∀ i, w4.frozen? ⟨w.heap.size + 1, i, none⟩ = false := fun i => by
    have z5 := z4
    unfold Blk at z5
    simp [World.frozen?, z5]
  have l1 : (0 : Int) < 2 * (N : Int) + 1 := by omega
  clear hcells4 hx4 hX hch hb
  go_wp2_with fail
  go_region
  have hne : w.heap.size + 1 ≠ b := by have := z1.lt; omega
  have hE4 : Ext w w4 := hXW.trans hX4
  have hg9 : w.heap.size ≤ w.heap.size + 1 := Nat.le_succ _
  have hWW : ((((((((((w4.setCell ⟨w.heap.size + 1, 0, none⟩ (.int .i64 r0.kind)).setCell ⟨w.heap.size + 1, 1, none⟩ (.int .i64 r0.base)).setCell ⟨w.heap.size + 1, 2, none⟩ (.int .i64 r0.loc)).setCell ⟨w.heap.size + 1, 3, none⟩ (.int .i64 r0.n)).setCell ⟨w.heap.size + 1, 4, none⟩ (.int .i64 r0.wr)).setCell ⟨w.heap.size + 1, 5, none⟩ (.int .i64 r0.rd)).setCell ⟨w.heap.size + 1, 6, none⟩ (.int .i64 r0.top)).setCell ⟨w.heap.size + 1, 7, none⟩ (.slice (some ⟨b, 7, none⟩) N (c + N + 1))).setCell ⟨w.heap.size + 1, 8, none⟩ (.slice (some ⟨b, (1 + N) * 7, none⟩) (rs.length - (1 + N)) (c + N + 2 - (1 + N)))).setCell ⟨w.heap.size + 1, 9, none⟩ (.int .i64 (loc + sumL rs))) = w4.setCells (w.heap.size + 1) 0 [.int .i64 r0.kind, .int .i64 r0.base, .int .i64 r0.loc, .int .i64 r0.n, .int .i64 r0.wr, .int .i64 r0.rd, .int .i64 r0.top, .slice (some ⟨b, 7, none⟩) N (c + N + 1), .slice (some ⟨b, (1 + N) * 7, none⟩) (rs.length - (1 + N)) (c + N + 2 - (1 + N)), .int .i64 (loc + sumL rs)] := rfl
  obtain ⟨W5, hW5⟩ : ∃ W5, W5 = w4.setCells (w.heap.size + 1) 0 [.int .i64 r0.kind, .int .i64 r0.base, .int .i64 r0.loc, .int .i64 r0.n, .int .i64 r0.wr, .int .i64 r0.rd, .int .i64 r0.top, .slice (some ⟨b, 7, none⟩) N (c + N + 1), .slice (some ⟨b, (1 + N) * 7, none⟩) (rs.length - (1 + N)) (c + N + 2 - (1 + N)), .int .i64 (loc + sumL rs)] := ⟨_, rfl⟩
  have z5 : W5.heap[w.heap.size + 1]? = some (.cells #[.int .i64 r0.kind, .int .i64 r0.base, .int .i64 r0.loc, .int .i64 r0.n, .int .i64 r0.wr, .int .i64 r0.rd, .int .i64 r0.top, .slice (some ⟨b, 7, none⟩) N (c + N + 1), .slice (some ⟨b, (1 + N) * 7, none⟩) (rs.length - (1 + N)) (c + N + 2 - (1 + N)), .int .i64 (loc + sumL rs)] 187 (0, 0)) := by
    rw [hW5]
    exact heap_setCells_all z4 [.int .i64 r0.kind, .int .i64 r0.base, .int .i64 r0.loc, .int .i64 r0.n, .int .i64 r0.wr, .int .i64 r0.rd, .int .i64 r0.top, .slice (some ⟨b, 7, none⟩) N (c + N + 1), .slice (some ⟨b, (1 + N) * 7, none⟩) (rs.length - (1 + N)) (c + N + 2 - (1 + N)), .int .i64 (loc + sumL rs)] rfl
  have hE5 : Ext w W5 := by
    rw [hW5]
    exact Ext.setCells hE4 hg9 _ _
  have hB : W5.heap[b]? = w4.heap[b]? := by
    rw [hW5]
    exact World.heap_setCells_other _ _ _ _ hb4 (fun h => hne h.symm)
  rw [← hW5] at hWW
  clear hW5
  have hcl : ∀ i, W5.cell? ⟨b, i, none⟩ = w4.cell? ⟨b, i, none⟩ := fun i => World.cell?_of_block (w := w4) (a := ⟨b, i, none⟩) hB
  have hb5 : b < W5.heap.size := by
    have : W5.heap[b]? = some w4.heap[b] := by rw [hB]; exact Array.getElem?_eq_getElem hb4
    exact (Array.getElem?_eq_some_iff.1 this).1
  have hcells5 : Hid (∀ (i : Nat) u, (rs.flatMap regVals)[i]? = some u → W5.cell? ⟨b, i, none⟩ = some u) := Lib.hid fun i u hu => (hcl i).trans (hcells4h.out i u hu)
  have c_z5 := fun i => cell_of_heap z5 i
  try rw [hWW]
  clear a0 a1 a2 a3 a4 a5 a6 c_b4 c_z4 hfz hcl hB hcells4h z4 z1 b1
  go_wp2_with fail
  refine bodyPost_ret (v := .tuple #[.agg #[.int .i64 r0.kind, .int .i64 r0.base, .int .i64 r0.loc, .int .i64 r0.n, .int .i64 r0.wr, .int .i64 r0.rd, .int .i64 r0.top, .slice (some ⟨b, 7, none⟩) N (c + N + 1), .slice (some ⟨b, (1 + N) * 7, none⟩) (rs.length - (1 + N)) (c + N + 2 - (1 + N)), .int .i64 (loc + sumL rs)], .int .i64 0]) (by simp [results, Tryz.results244, go_sem, c_z5]) rfl ?_
  rw [show rs.length - (1 + N) = N from by have := hlenh.out; omega]
  exact ⟨_, _, _, rfl, hge, hb5, hcells5.out, hE5.drew⟩
end Go.Proofs.YtbaajjkopdjbgaaGreat
/-
  A lock that adapts, by the program: laid.
-/
namespace Go.Proofs.YtbaajjkopdjbgaaGreat
open Go.RowKit Kv
@[go_sem] theorem build_adreg (x y : Value) (a : Int) (w : World) (A1 A2 : Option Addr) (n1 c1 n2 c2 : Nat) (hx : x = .slice A1 n1 c1) (hy : y = .slice A2 n2 c2) : (Instr.build 96 #[(0, x), (1, y), (2, .int .i64 a)]).run Tryz.prog w = .ok (.agg #[x, y, .int .i64 a]) w := by
  subst hx hy
  exact run_build w 96 _ _ (by kernel_rfl)
set_option maxRecDepth 100000 in
set_option maxHeartbeats 1000000 in
theorem adlay_p (alg mode base loc room me : Int) (N : Nat) (rs : List Reg) (w : World) (h1 : 1 ≤ N) (h2 : N ≤ 8) (hl : layM (adWants N) N mode base loc = some rs) (hlc : 0 ≤ loc ∧ loc ≤ 32768) (hm0 : 0 ≤ me) (hm1 : me < N) :
    Calls Tryz.prog 88 #[.agg #[.int .i64 alg, .int .i64 N, .int .i64 mode, .int .i64 base, .int .i64 loc, .int .i64 room], .int .i64 me] w fun e w' => ∃ b A c2, e = .returned (.tuple #[.agg #[.slice (some ⟨b, 0, none⟩) (2 * triN N) (2 * triN N), .slice A (rs.length - 2 * triN N) c2, .int .i64 (loc + sumL rs)], .int .i64 0]) ∧ (rs.length ≠ 2 * triN N → A = some ⟨b, 2 * triN N * 7, none⟩) ∧ rs.length - 2 * triN N ≤ c2 ∧ c2 ≤ 9223372036854775807 ∧ w.heap.size ≤ b ∧ b < w'.heap.size ∧ (∀ (i : Nat) u, (rs.flatMap regVals)[i]? = some u → w'.cell? ⟨b, i, none⟩ = some u) ∧ Ext w w' := by
  have hlen := layM_len hl
  rw [adWants_len] at hlen
  have ht := adTree_le h1 h2
  obtain ⟨q1, q2⟩ := triN_le h1 h2
  have hok : ∀ r ∈ rs, r.ok := fun r hr => (laid_all hl r hr).1
  have hbd := sum_bd hok rs.length (Nat.le_refl _)
  rw [List.take_length] at hbd
  have hlen3 : rs.length ≤ 261 := by omega
  have hw := IntWalk.i64_in (loc + sumL rs) (by omega)
  replace hl := Lib.hid hl
  have hlenh := Lib.hid hlen
  have hokh := Lib.hid hok
  have hW := fun w => adwants_p N w h1 h2
  have hRW := fun w => renwants_p N w h1 h2
  have hwl : (adWants N).length ≤ 1000 := by rw [adWants_len]; omega
  obtain ⟨L, hL⟩ : ∃ L, 3 * (2 ^ levels (triN N : Nat) - 1) = L := ⟨_, rfl⟩
  rw [hL] at hlen
  obtain ⟨cut, hcut⟩ : ∃ cut, cut = 2 * triN N := ⟨_, rfl⟩
  rw [← hcut] at hRW hlen ⊢
  have hcutn : ((2 * triN N : Nat) : Int) = (cut : Int) := by rw [hcut]
  have hcb : 1 ≤ cut ∧ cut ≤ 72 := by omega
  have hlenc : Hid (rs.length = cut + L) := Lib.hid hlen
  clear hlen hok hbd hL ht hlenh
  have d1 : decide (me < 0) = false := by rw [decide_eq_false_iff_not]; omega
  have d2 : decide ((N : Int) ≤ me) = false := by rw [decide_eq_false_iff_not]; omega
  have hX := Ext.refl w
  have b1 := Blk.new w (.cells #[.int .i64 alg, .int .i64 N, .int .i64 mode, .int .i64 base, .int .i64 loc, .int .i64 room] 23)
  replace hX := hX.alloc (.cells #[.int .i64 alg, .int .i64 N, .int .i64 mode, .int .i64 base, .int .i64 loc, .int .i64 room] 23)
  have c_b1 := b1.cells
  go_enter Tryz.func88, Tryz.ntmps88
  go_wp2_with fail
  have z1 := Blk.new (w.alloc (.cells #[.int .i64 alg, .int .i64 N, .int .i64 mode, .int .i64 base, .int .i64 loc, .int .i64 room] 23)) (.cells #[.slice none 0 0, .slice none 0 0, .int .i64 0] 96)
  rw [World.size_alloc] at z1
  replace b1 := b1.alloc (.cells #[.slice none 0 0, .slice none 0 0, .int .i64 0] 96)
  replace hX := hX.alloc (.cells #[.slice none 0 0, .slice none 0 0, .int .i64 0] 96)
  clear c_b1
  generalize World.alloc (World.alloc w _) _ = W at *
  have hXW := hX
  clear hX
  have hX := (Ext.refl W).drew
  have hS : ∀ w', Ext W w' → (∀ i, w'.cell? ⟨w.heap.size, i, none⟩ = (#[.int .i64 alg, .int .i64 N, .int .i64 mode, .int .i64 base, .int .i64 loc, .int .i64 room] : Array Value)[i]?) := fun w' hx => (b1.ext hx).cells
  go_region_held2 (fun w' => ∀ i, w'.cell? ⟨w.heap.size, i, none⟩ = (#[.int .i64 alg, .int .i64 N, .int .i64 mode, .int .i64 base, .int .i64 loc, .int .i64 room] : Array Value)[i]?) (exact hS _ hX)
    (first
      | (go_at_call 98
         refine (hW _).mono ?_
         rintro e w2 ⟨v2, rfl, hw2, hx⟩
         replace hX := hX.trans hx
         have hz2 := hX.size
         clear hx)
      | (go_at_call 163
         refine (layp_some hl.out _ (hw2.ext (Ext.refl _)) hwl).mono ?_
         rintro e w3 ⟨v3, rfl, hr3, hx⟩
         replace hX := hX.trans hx
         clear hx))
  rename_i hh
  clear hh
  obtain ⟨⟨A, c0, rfl, q3, q4, hV⟩, hown⟩ := hr3
  obtain ⟨b, rfl, hb, hcells⟩ := hV (by cases rs with | nil => have := hlenc.out; simp only [List.length_nil] at this; omega | cons r l => simp [regVals])
  have hgeW : W.heap.size ≤ b := Nat.le_trans hz2 (hown b rfl)
  have hge : w.heap.size ≤ b := Nat.le_trans hXW.size hgeW
  have hch := Lib.hid hcells
  clear hcells hV hown hz2
  go_wp2_with fail
  refine (size_p b c0 rs w3 hb hch.out hokh.out (by omega)).mono ?_
  rintro e w4 ⟨rfl, hx4⟩
  have hX4 := hX.trans hx4
  have hcells4 : ∀ (i : Nat) u, (rs.flatMap regVals)[i]? = some u → w4.cell? ⟨b, i, none⟩ = some u := fun i u hu => (hx4.cell (p := ⟨b, i, none⟩) hb).trans (hch.out i u hu)
  have hb4 := Nat.lt_of_lt_of_le hb hx4.size
  have c_b4 := (b1.ext hX4).cells
  clear hX hx4 hb hch
  go_wp2_with fail
  refine (hRW _).mono ?_
  rintro e w5 ⟨v5, rfl, hown5, hx5⟩
  obtain ⟨A5, c5, rfl, _, _, _⟩ := Recs.of_row hown5
  have hX5 := hX4.trans hx5
  have hcells5 : ∀ (i : Nat) u, (rs.flatMap regVals)[i]? = some u → w5.cell? ⟨b, i, none⟩ = some u := fun i u hu => (hx5.cell (p := ⟨b, i, none⟩) hb4).trans (hcells4 i u hu)
  have hb5 := Nat.lt_of_lt_of_le hb4 hx5.size
  clear c_b4 hown5 hx5 hcells4 hb4 hX4
  have c_b5 := (b1.ext hX5).cells
  have z5 := z1.ext hX5
  have c_z5 := z5.cells
  have hfz : ∀ i, w5.frozen? ⟨w.heap.size + 1, i, none⟩ = false := fun i => by
    have z6 := z5
    unfold Blk at z6
    simp [World.frozen?, z6]
  have hcells5h := Lib.hid hcells5
  clear hcells5
  have l1 : (cut : Int) ≤ (c0 : Int) := by have := hlenc.out; omega
  have l2 : (cut : Int) ≤ (rs.length : Int) := by have := hlenc.out; omega
  have l3 : (0 : Int) ≤ (cut : Int) := by omega
  go_wp2_with fail
  go_region
  obtain ⟨A, hA⟩ : ∃ A : Option Addr, A = if c0 = 2 * triN N then some ⟨b, 0, none⟩ else some ⟨b, 2 * triN N * 7, none⟩ := ⟨_, rfl⟩
  rw [← hA]
  have hA2 : Hid (rs.length ≠ 2 * triN N → A = some ⟨b, 2 * triN N * 7, none⟩) := Lib.hid fun hne => by
    rw [hA, if_neg (by have := hlenc.out; omega)]
  clear hA
  have hne : w.heap.size + 1 ≠ b := by have := z1.lt; omega
  have hE4 : Ext w w5 := hXW.trans hX5
  have hg9 : w.heap.size ≤ w.heap.size + 1 := Nat.le_succ _
  have hWW : ((w5.setCell ⟨w.heap.size + 1, 0, none⟩ (.slice (some ⟨b, 0, none⟩) (2 * triN N) (2 * triN N))).setCell ⟨w.heap.size + 1, 1, none⟩ (.slice A (rs.length - 2 * triN N) (c0 - 2 * triN N))).setCell ⟨w.heap.size + 1, 2, none⟩ (.int .i64 (loc + sumL rs)) = w5.setCells (w.heap.size + 1) 0 [.slice (some ⟨b, 0, none⟩) (2 * triN N) (2 * triN N), .slice A (rs.length - 2 * triN N) (c0 - 2 * triN N), .int .i64 (loc + sumL rs)] := rfl
  obtain ⟨W6, hW6⟩ : ∃ W6, W6 = w5.setCells (w.heap.size + 1) 0 [.slice (some ⟨b, 0, none⟩) (2 * triN N) (2 * triN N), .slice A (rs.length - 2 * triN N) (c0 - 2 * triN N), .int .i64 (loc + sumL rs)] := ⟨_, rfl⟩
  have z6 : W6.heap[w.heap.size + 1]? = some (.cells #[.slice (some ⟨b, 0, none⟩) (2 * triN N) (2 * triN N), .slice A (rs.length - 2 * triN N) (c0 - 2 * triN N), .int .i64 (loc + sumL rs)] 96 (0, 0)) := by
    rw [hW6]
    exact heap_setCells_all z5 [.slice (some ⟨b, 0, none⟩) (2 * triN N) (2 * triN N), .slice A (rs.length - 2 * triN N) (c0 - 2 * triN N), .int .i64 (loc + sumL rs)] rfl
  have hE6 : Ext w W6 := by
    rw [hW6]
    exact Ext.setCells hE4 hg9 _ _
  have hB : W6.heap[b]? = w5.heap[b]? := by
    rw [hW6]
    exact World.heap_setCells_other _ _ _ _ hb5 (fun h => hne h.symm)
  rw [← hW6] at hWW
  clear hW6
  have hcl : ∀ i, W6.cell? ⟨b, i, none⟩ = w5.cell? ⟨b, i, none⟩ := fun i => World.cell?_of_block (w := w5) (a := ⟨b, i, none⟩) hB
  have hb6 : b < W6.heap.size := by
    have : W6.heap[b]? = some w5.heap[b] := by rw [hB]; exact Array.getElem?_eq_getElem hb5
    exact (Array.getElem?_eq_some_iff.1 this).1
  have hcells6 : Hid (∀ (i : Nat) u, (rs.flatMap regVals)[i]? = some u → W6.cell? ⟨b, i, none⟩ = some u) := Lib.hid fun i u hu => (hcl i).trans (hcells5h.out i u hu)
  have c_z6 := fun i => cell_of_heap z6 i
  rw [hWW]
  clear c_b5 c_z5 hfz hcl hB hcells5h z5 z1 b1
  go_wp2_with fail
  refine bodyPost_ret (v := .tuple #[.agg #[.slice (some ⟨b, 0, none⟩) (2 * triN N) (2 * triN N), .slice A (rs.length - 2 * triN N) (c0 - 2 * triN N), .int .i64 (loc + sumL rs)], .int .i64 0]) (by simp [results, Tryz.results88, go_sem, c_z6]) rfl ?_
  subst hcut
  refine ⟨_, _, _, rfl, hA2.out, by omega, by omega, hge, hb6, hcells6.out, hE6.drew⟩
end Go.Proofs.YtbaajjkopdjbgaaGreat
/-
  Trees whose registers stand from a number on in a longer row: climbing and going down, by the program.
-/
namespace Go.Proofs.YtbaajjkopdjbgaaGreat
open Go.RowKit Kv
set_option maxRecDepth 100000 in
theorem tregs_o3 (b c n o : Nat) (len : Nat) (w : World) (h1 : 1 ≤ n) (h2 : n * 3 ≤ len) (h3 : len ≤ c) (h4 : c ≤ 9223372036854775807) (h5 : len ≤ 1000000) :
    Calls Tryz.prog 173 #[.slice (some ⟨b, o * 7, none⟩) len c, .agg #[.func (.func 235) #[] #[], .func (.func 236) #[] #[], .func (.func 237) #[] #[]], .int .i64 n] w fun e w' => ∃ c', e = .returned (.slice (some ⟨b, (o + 3 * (n - 1)) * 7, none⟩) 3 c') ∧ 3 ≤ c' ∧ c' ≤ 9223372036854775807 ∧ Ext w w' := by
  obtain ⟨k, rfl⟩ : ∃ k, n = k + 1 := ⟨n - 1, by omega⟩
  rw [Nat.add_sub_cancel]
  have w1 := IntWalk.i64_in (((k + 1 : Nat) : Int) - 1) (by omega)
  have w2 := IntWalk.i64_in ((((k + 1 : Nat) : Int) - 1) * 3) (by omega)
  have w3 := IntWalk.i64_in (((k + 1 : Nat) : Int) * 3) (by omega)
  have d1 : decide ((len : Int) < ((k : Int) + 1) * 3) = false := by rw [decide_eq_false_iff_not]; omega
  have hX := Ext.refl w
  have b1 := Blk.new w (.cells #[.func (.func 235) #[] #[], .func (.func 236) #[] #[], .func (.func 237) #[] #[]] 147)
  replace hX := hX.alloc (.cells #[.func (.func 235) #[] #[], .func (.func 236) #[] #[], .func (.func 237) #[] #[]] 147)
  have c_b1 := b1.cells
  go_enter Tryz.func173, Tryz.ntmps173
  go_wp2_with fail
  refine (awants_p _).mono ?_
  rintro e w2 ⟨v2, rfl, hr2, hx3⟩
  obtain ⟨A, c2, rfl, r1, r2, -⟩ := hr2
  rw [List.length_replicate]
  replace hX := hX.trans hx3
  clear hx3
  go_wp2_with fail
  go_ret
  exact ⟨c - k * 3, by rw [show (k + 1) * 3 - k * 3 = 3 from by omega, show o * 7 + k * 3 * 7 = (o + 3 * k) * 7 from by omega]; rfl, by omega, by omega, hX⟩
theorem node_enter_o3 (B p D n : Nat) (S : TS) (rs T : List Reg) (o : Nat) (hT : T = rs.drop o) (x me : Int) (b c : Nat) (w : World) (h : Plays B w p S) (hl : RegsAt [2, 3, 4] w p b rs) (hall : ∀ r ∈ T, r.ok ∧ me < r.n ∧ r.told me) (hm0 : 0 ≤ me) (hn : x / 2 = n) (hn1 : 1 ≤ n) (hn2 : n * 3 ≤ T.length) (hD : S.left < D) (_hc4 : 3 ≤ c) (_hc5 : c ≤ 9223372036854775807) :
    Calls Tryz.prog 236 #[.pointer (some ⟨p, 0, none⟩), .slice (some ⟨b, (o + 3 * (n - 1)) * 7, none⟩) 3 c, .int .i64 (x % 2), .int .i64 me] w (Post encU B p w ((nodeE 3 D T me x).run S)) := by
  have hsh : ∀ i, i < T.length → rs[o + i]? = some (nthR T i) := fun i hi => by
    have := nthR_of (rs := T) (i := i) hi
    rw [hT, List.getElem?_drop] at this
    rw [hT]
    exact this
  unfold nodeE
  rw [if_neg (by decide), hn, Int.toNat_natCast]
  obtain ⟨k0, l0, t0⟩ := hall _ (List.mem_of_getElem? (nthR_of (rs := T) (i := 3 * (n - 1)) (by omega)))
  obtain ⟨k1, l1, t1⟩ := hall _ (List.mem_of_getElem? (nthR_of (rs := T) (i := 3 * (n - 1) + 1) (by omega)))
  obtain ⟨k2, l2, t2⟩ := hall _ (List.mem_of_getElem? (nthR_of (rs := T) (i := 3 * (n - 1) + 2) (by omega)))
  exact arbn_enter_p B p D S _ _ _ (x % 2) me b c (o + 3 * (n - 1)) rs w h hl ⟨hsh (3 * (n - 1)) (by omega), hsh (3 * (n - 1) + 1) (by omega), hsh (3 * (n - 1) + 2) (by omega)⟩ k0 k1 k2 hm0 l0 l1 l2 t0 t1 hD
theorem node_leave_o3 (B p n : Nat) (S : TS) (rs T : List Reg) (o : Nat) (hT : T = rs.drop o) (x me : Int) (b c : Nat) (w : World) (h : Plays B w p S) (hl : RegsAt [2, 3, 4] w p b rs) (hall : ∀ r ∈ T, r.ok ∧ me < r.n ∧ r.told me) (hm0 : 0 ≤ me) (hn : x / 2 = n) (hn1 : 1 ≤ n) (hn2 : n * 3 ≤ T.length) :
    Calls Tryz.prog 237 #[.pointer (some ⟨p, 0, none⟩), .slice (some ⟨b, (o + 3 * (n - 1)) * 7, none⟩) 3 c, .int .i64 (x % 2), .int .i64 me] w (Post encU B p w ((nodeL 3 T me x).run S)) := by
  have hsh : ∀ i, i < T.length → rs[o + i]? = some (nthR T i) := fun i hi => by
    have := nthR_of (rs := T) (i := i) hi
    rw [hT, List.getElem?_drop] at this
    rw [hT]
    exact this
  unfold nodeL
  rw [hn, Int.toNat_natCast]
  obtain ⟨k0, l0, t0⟩ := hall _ (List.mem_of_getElem? (nthR_of (rs := T) (i := 3 * (n - 1)) (by omega)))
  obtain ⟨k1, l1, t1⟩ := hall _ (List.mem_of_getElem? (nthR_of (rs := T) (i := 3 * (n - 1) + 1) (by omega)))
  obtain ⟨k2, l2, t2⟩ := hall _ (List.mem_of_getElem? (nthR_of (rs := T) (i := 3 * (n - 1) + 2) (by omega)))
  exact arbn_leave_p B p S _ _ (nthR T (3 * (n - 1) + 2)) (x % 2) me b c (o + 3 * (n - 1)) rs w h hl ⟨hsh (3 * (n - 1)) (by omega), hsh (3 * (n - 1) + 1) (by omega), hsh (3 * (n - 1) + 2) (by omega)⟩ k0 k1 hm0 l0 l1
set_option maxRecDepth 100000 in
set_option maxHeartbeats 2000000 in
theorem climb_o3 (B p D : Nat) (S : TS) (kind : Int) (m place : Nat) (me : Int) (rs T : List Reg) (o : Nat) (hT : T = rs.drop o) (A : Option Addr) (c : Nat) (w : World) (h : Plays B w p S) (hk : kind ≠ 7) (h1 : 1 ≤ m) (h2 : m ≤ 64) (h3 : place < m) (hlen : T.length = 3 * (2 ^ levels m - 1)) (hc1 : T.length ≤ c) (hc2 : c ≤ 9223372036854775807)
    (hreg : T ≠ [] → ∃ b, A = some ⟨b, o * 7, none⟩ ∧ RegsAt [2, 3, 4] w p b rs) (hall : ∀ r ∈ T, r.ok ∧ me < r.n ∧ r.told me) (hm0 : 0 ≤ me) (hD : S.left < D) :
    Calls Tryz.prog 91 #[.pointer (some ⟨p, 0, none⟩), .slice A T.length c, .int .i64 kind, .int .i64 m, .int .i64 place, .int .i64 me] w (Post encU B p w ((forP (fun x _ => nodeE 3 D T me x) (pathL m place) ()).run S)) := by
  generalize hR : Post encU B p w ((forP (fun x _ => nodeE 3 D T me x) (pathL m place) ()).run S) = R
  have hO : Owes R encU B p w ((forP (fun x _ => nodeE 3 D T me x) (pathL m place) ()).run S) := hR ▸ owes _ _ _ _ _
  clear hR
  have hTh := Lib.hid hT
  clear hT
  have hmem := fun y (hy : y ∈ pathL m place) => pathL_mem h2 h3 hy
  have hPth := fun w => path_p m place w h1 h2 h3
  have hlv := lev_le h2
  obtain ⟨p1, p2⟩ := pow_le hlv
  have e : (2 : Int) ^ levels m = ((2 ^ levels m : Nat) : Int) := by rw [Int.natCast_pow]; rfl
  rw [e] at hmem
  have hll : (pathL m place).length ≤ 128 := by
    have := pathN_len (2 ^ levels m + place) (2 ^ levels m + place)
    unfold pathL
    omega
  clear e hlv
  generalize 2 ^ levels m = P at *
  generalize pathL m place = l at *
  have hn : nodeV kind = .agg #[.func (.func 235) #[] #[], .func (.func 236) #[] #[], .func (.func 237) #[] #[]] := by unfold nodeV; rw [if_neg hk]; rfl
  have hN := fun w => nodeOf_p kind w
  rw [hn] at hN
  have hmemh := Lib.hid hmem
  have hallh := Lib.hid hall
  have hlenh := Lib.hid hlen
  have hOh := Lib.hid hO
  clear hn hk hmem hall hlen hO
  go_enter Tryz.func91, Tryz.ntmps91
  go_wp2_with fail
  refine (hN _).mono ?_
  rintro e w2 ⟨rfl, hx2⟩
  have hK := Keep.of_ext (ix := [2, 3, 4]) (B := B) hx2 h.lt h.le
  have hP := h.ext hx2
  have hreg2 : T ≠ [] → ∃ b, A = some ⟨b, o * 7, none⟩ ∧ RegsAt [2, 3, 4] w2 p b rs := fun hne => by
    obtain ⟨b, e1, e2⟩ := hreg hne
    exact ⟨b, e1, e2.extL hx2 h.lt⟩
  clear hx2 h hreg
  have bx := hP.held (.cells #[.func (.func 235) #[] #[], .func (.func 236) #[] #[], .func (.func 237) #[] #[]] 147)
  replace hK := hK.trans (Keep.alloc (.cells #[.func (.func 235) #[] #[], .func (.func 236) #[] #[], .func (.func 237) #[] #[]] 147) hP.lt hP.le)
  have hreg3 : T ≠ [] → ∃ b, A = some ⟨b, o * 7, none⟩ ∧ RegsAt [2, 3, 4] (w2.alloc (.cells #[.func (.func 235) #[] #[], .func (.func 236) #[] #[], .func (.func 237) #[] #[]] 147)) p b rs := fun hne => by
    obtain ⟨b, e1, e2⟩ := hreg2 hne
    exact ⟨b, e1, e2.extL ((Ext.refl w2).alloc (.cells #[.func (.func 235) #[] #[], .func (.func 236) #[] #[], .func (.func 237) #[] #[]] 147)) hP.lt⟩
  replace hP := hP.alloc (.cells #[.func (.func 235) #[] #[], .func (.func 236) #[] #[], .func (.func 237) #[] #[]] 147)
  clear hreg2
  go_wp2_with fail
  generalize w2.heap.size = z at *
  generalize w2.alloc _ = W at *
  refine (hPth _).mono ?_
  rintro e w3 ⟨v3, rfl, hrow, hx3⟩
  obtain ⟨A3, c3, rfl, hR⟩ := RowH.of_row (p := p) (ix := [2, 3, 4]) hrow (fun b hb => hP.fresh hx3 hb)
  replace hK := hK.trans (Keep.of_ext hx3 hP.lt hP.le)
  replace bx := bx.ext hx3 hP.lt
  have hreg : T ≠ [] → ∃ b, A = some ⟨b, o * 7, none⟩ ∧ RegsAt [2, 3, 4] w3 p b rs := fun hne => by
    obtain ⟨b, e1, e2⟩ := hreg3 hne
    exact ⟨b, e1, e2.extL hx3 hP.lt⟩
  replace hP := hP.ext hx3
  clear hreg3 hx3 hrow hPth hN
  by_cases hl0 : l = []
  · subst hl0
    have hf := hOh.out.done (v := ()) hP hK
    clear hOh hmemh hR hreg hallh hlenh
    go_wp2_with fail
    go_loopw [21] (fun i wr => i = .int .i64 0 ∧ w3 = wr) (fun _ _ => 0)
    case atStart => exact ⟨rfl, rfl⟩
    case round =>
      obtain ⟨rfl, rfl⟩ := hrel
      go_wp2_with fail
      first | exact hf | (refine bodyPost_ret (results_none rfl _ _ _) rfl ?_; exact hf)
  obtain ⟨g, cur, rfl, hg, hcur⟩ := hR hl0
  obtain ⟨b, rfl, hl⟩ := hreg (by
    obtain ⟨y, l', rfl⟩ : ∃ y l', l = y :: l' := by cases l with | nil => exact absurd rfl hl0 | cons y l' => exact ⟨y, l', rfl⟩
    have h1 := hmemh.out y (List.mem_cons_self ..)
    have h2 := hlenh.out
    intro hne
    rw [hne, List.length_nil] at h2
    omega)
  have hch := Lib.hid hcur
  clear hreg hR hl0 hcur
  go_wp2_with fail
  go_loopw [21] (fun i wr => ∃ (j : Nat) (S2 : TS), i = .int .i64 j ∧ j ≤ l.length ∧ Plays B wr p S2 ∧ KeepP B p w wr ∧ HeldP wr p z (.cells #[.func (.func 235) #[] #[], .func (.func 236) #[] #[], .func (.func 237) #[] #[]] 147) ∧ HeldP wr p g (.cells cur 3) ∧ RegsAt [2, 3, 4] wr p b rs ∧ S2.left < D ∧ Hid (Owes R encU B p w ((forP (fun x _ => nodeE 3 D T me x) (l.drop j) ()).run S2))) (fun i _ => l.length - (intOf i).toNat)
  case atStart => exact ⟨0, S, rfl, by omega, hP, hK, bx, hg, hl, hD, hOh⟩
  case round =>
    clear hP hK bx hg hl hD hOh
    obtain ⟨j, S2, rfl, hj, hP, hK, bx, hg, hl, hD, hOh⟩ := hrel
    by_cases hjl : j < l.length
    · obtain ⟨y, hy⟩ : ∃ y, l[j]? = some y := ⟨_, List.getElem?_eq_getElem hjl⟩
      have hym := hmemh.out y (List.mem_of_getElem? hy)
      obtain ⟨Y, rfl⟩ : ∃ Y : Nat, y = (Y : Int) := ⟨y.toNat, by omega⟩
      have c_g := hg.at_ hch.out hy
      have hO := hOh.out
      rw [List.drop_eq_getElem_cons hjl, show l[j] = (Y : Int) from by rw [List.getElem?_eq_getElem hjl] at hy; exact Option.some.inj hy] at hO
      have hOk : Hid (Owes R encU B p w (((nodeE 3 D T me (Y : Int)).bind fun _ => forP (fun x _ => nodeE 3 D T me x) (l.drop (j + 1)) ()).run S2)) := Lib.hid hO
      clear hO hOh hy
      have hn2 : Y / 2 * 3 ≤ T.length := by have := hlenh.out; omega
      have hn1 : 1 ≤ Y / 2 := by omega
      have hlen9 : T.length ≤ 1000000 := by have := hlenh.out; omega
      have hrg := fun w => tregs_o3 b c (Y / 2) o T.length w hn1 hn2 hc1 hc2 hlen9
      have hq1 : IntKind.i64.wrap ((Y : Int) / 2) = ((Y / 2 : Nat) : Int) := by rw [IntWalk.i64_in _ (by omega)]; omega
      have hq2 : (Y : Int).tmod 2 = (Y : Int) % 2 := Int.tmod_eq_emod_of_nonneg (by omega)
      go_wp2_with fail
      have hS : ∀ w', HeldP w' p z (.cells #[.func (.func 235) #[] #[], .func (.func 236) #[] #[], .func (.func 237) #[] #[]] 147) → (∀ i, w'.cell? ⟨z, i, none⟩ = (#[.func (.func 235) #[] #[], .func (.func 236) #[] #[], .func (.func 237) #[] #[]] : Array Value)[i]?) := fun w' x => x.cells
      have c_bx := bx.cells
      refine wp_region_held_drew (S := fun w' => ∀ i, w'.cell? ⟨z, i, none⟩ = (#[.func (.func 235) #[] #[], .func (.func 236) #[] #[], .func (.func 237) #[] #[]] : Array Value)[i]?) rfl (hS _ bx) (fun hHeld => ?_)
      replace hl := hl.extL (Ext.refl wr).drew hP.lt
      replace hP := hP.drew
      replace hK := hK.drew
      replace bx := bx.drew
      replace hg := hg.drew
      refine wpAnyH_take (i := 0) (v := ?_) rfl (by kernel_rfl) (by kernel_rfl) (by kernel_rfl) (fun _ _ _ h => h) (Or.inl ⟨by kernel_rfl, ?_⟩) (by assumption) ?_
      rotate_left
      · (intro w hSw; (try dsimp only at hSw); go_simp; try with_reducible rfl)
      try simp only [put_pack]
      refine wpAnyH_take (i := 1) (v := ?_) rfl (by kernel_rfl) (by kernel_rfl) (by kernel_rfl) (fun _ _ _ h => h) (Or.inl ⟨by kernel_rfl, ?_⟩) (by assumption) ?_
      rotate_left
      · (intro w hSw; (try dsimp only at hSw); go_simp; try with_reducible rfl)
      try simp only [put_pack]
      refine wpAnyH_take (i := 2) (v := ?_) rfl (by kernel_rfl) (by kernel_rfl) (by kernel_rfl) (fun _ _ _ h => h) (Or.inl ⟨by kernel_rfl, ?_⟩) (by assumption) ?_
      rotate_left
      · (intro w hSw; (try dsimp only at hSw); go_simp; try with_reducible rfl)
      try simp only [put_pack]
      refine wpAnyH_take (i := 3) (v := ?_) rfl (by kernel_rfl) (by kernel_rfl) (by kernel_rfl) (fun _ _ _ h => h) (Or.inl ⟨by kernel_rfl, ?_⟩) (by assumption) ?_
      rotate_left
      · (intro w hSw; (try dsimp only at hSw); go_simp; try with_reducible rfl)
      try simp only [put_pack]
      refine wpAnyH_take (i := 4) (v := ?_) rfl (by kernel_rfl) (by kernel_rfl) (by kernel_rfl) (fun _ _ _ h => h) (Or.inl ⟨by kernel_rfl, ?_⟩) (by assumption) ?_
      rotate_left
      · (intro w hSw; (try dsimp only at hSw); go_simp; try with_reducible rfl)
      try simp only [put_pack]
      refine wpAnyH_take (i := 5) (v := ?_) rfl (by kernel_rfl) (by kernel_rfl) (by kernel_rfl) (fun _ _ _ h => h) (Or.inl ⟨by kernel_rfl, ?_⟩) (by assumption) ?_
      rotate_left
      · (intro w hSw; (try dsimp only at hSw); go_simp; try with_reducible rfl)
      try simp only [put_pack]
      refine wpAnyH_take (i := 6) (v := ?_) rfl (by kernel_rfl) (by kernel_rfl) (by kernel_rfl) (fun _ _ _ h => h) (Or.inl ⟨by kernel_rfl, ?_⟩) (by assumption) ?_
      rotate_left
      · (intro w hSw; (try dsimp only at hSw); go_simp; try with_reducible rfl)
      try simp only [put_pack]
      refine wpAnyH_take (i := 8) (v := ?_) rfl (by kernel_rfl) (by kernel_rfl) (by kernel_rfl) (fun _ _ _ h => h) (Or.inl ⟨by kernel_rfl, ?_⟩) (by assumption) ?_
      rotate_left
      · (intro w hSw; (try dsimp only at hSw); go_simp; try with_reducible rfl)
      try simp only [put_pack]
      refine wpAnyH_take (i := 9) (v := ?_) rfl (by kernel_rfl) (by kernel_rfl) (by kernel_rfl) (fun _ _ _ h => h) (Or.inl ⟨by kernel_rfl, ?_⟩) (by assumption) ?_
      rotate_left
      · (intro w hSw; (try dsimp only at hSw); go_simp; try with_reducible rfl)
      try simp only [put_pack]
      refine wpAnyH_take (i := 10) (v := ?_) rfl (by kernel_rfl) (by kernel_rfl) (by kernel_rfl) (fun _ _ _ h => h) (Or.inl ⟨by kernel_rfl, ?_⟩) (by assumption) ?_
      rotate_left
      · (intro w hSw; (try dsimp only at hSw); go_simp; try with_reducible rfl)
      try simp only [put_pack]
      refine wpAnyH_ready (rs := [7]) (by kernel_rfl) (by simp) ?_
      refine AllReadyH.cons rfl (fun K hKK => ?_) AllReadyH.nil
      go_simp
      refine (hrg _).mono ?_
      rintro e w4 ⟨c', rfl, q1, q2, hx⟩
      replace bx := bx.ext hx hP.lt
      replace hg := hg.ext hx hP.lt
      replace hl := hl.extL hx hP.lt
      replace hK := hK.trans (Keep.of_ext hx hP.lt hP.le)
      replace hP := hP.ext hx
      clear hx hrg c_g c_bx
      refine hKK.out _ _ (hS _ bx) (fun hHeld => ?_)
      clear hKK K
      try dsimp only
      refine wpAnyH_ready (rs := [11]) (by kernel_rfl) (by simp) ?_
      refine AllReadyH.cons rfl (fun K hKK => ?_) AllReadyH.nil
      go_simp
      refine tstepL hOk.out hK (node_enter_o3 B p D (Y / 2) S2 rs T o hTh.out Y me b c' _ hP hl hallh.out hm0 (by omega) hn1 hn2 hD q1 q2) (fun _ h => ⟨rfl, h⟩) ?_
      clear hK hP hOk
      intro u S3 w5 hlf _ hP hk1 hK hO
      replace hD := Nat.lt_of_le_of_lt hlf hD
      replace bx := bx.keep hk1
      replace hg := hg.keep hk1
      replace hl := hl.keep hk1
      clear hk1 hlf
      refine hKK.out _ _ (hS _ bx) (fun hHeld => ?_)
      clear hKK K
      try dsimp only
      refine wpAnyH_done (by kernel_rfl) ?_ _
      go_simp
      have hf := Lib.hid hO
      clear hO hS
      go_wp2_with fail
      refine ⟨⟨j + 1, S3, by go_num, by omega, hP, hK, bx, hg, hl, hD, hf⟩, ?_⟩
      simp [intOf]; omega
    · obtain rfl : j = l.length := by omega
      have hO := hOh.out
      rw [List.drop_length] at hO
      have hf := hO.done (v := ()) hP hK
      clear hO hOh hP hK hl hg bx
      go_wp2_with fail
      first | exact hf | (refine bodyPost_ret (results_none rfl _ _ _) rfl ?_; exact hf)
set_option maxRecDepth 100000 in
set_option maxHeartbeats 2000000 in
theorem down_o3 (B p : Nat) (S : TS) (kind : Int) (m place : Nat) (me : Int) (rs T : List Reg) (o : Nat) (hT : T = rs.drop o) (A : Option Addr) (c : Nat) (w : World) (h : Plays B w p S) (hk : kind ≠ 7) (h1 : 1 ≤ m) (h2 : m ≤ 64) (h3 : place < m) (hlen : T.length = 3 * (2 ^ levels m - 1)) (hc1 : T.length ≤ c) (hc2 : c ≤ 9223372036854775807)
    (hreg : T ≠ [] → ∃ b, A = some ⟨b, o * 7, none⟩ ∧ RegsAt [2, 3, 4] w p b rs) (hall : ∀ r ∈ T, r.ok ∧ me < r.n ∧ r.told me) (hm0 : 0 ≤ me) :
    Calls Tryz.prog 94 #[.pointer (some ⟨p, 0, none⟩), .slice A T.length c, .int .i64 kind, .int .i64 m, .int .i64 place, .int .i64 me] w (Post encU B p w ((forP (fun x _ => nodeL 3 T me x) (pathL m place).reverse ()).run S)) := by
  generalize hR : Post encU B p w ((forP (fun x _ => nodeL 3 T me x) (pathL m place).reverse ()).run S) = R
  have hO : Owes R encU B p w ((forP (fun x _ => nodeL 3 T me x) (pathL m place).reverse ()).run S) := hR ▸ owes _ _ _ _ _
  clear hR
  have hTh := Lib.hid hT
  clear hT
  have hmem := fun y (hy : y ∈ pathL m place) => pathL_mem h2 h3 hy
  have hPth := fun w => path_p m place w h1 h2 h3
  have hlv := lev_le h2
  obtain ⟨p1, p2⟩ := pow_le hlv
  have e : (2 : Int) ^ levels m = ((2 ^ levels m : Nat) : Int) := by rw [Int.natCast_pow]; rfl
  rw [e] at hmem
  have hll : (pathL m place).length ≤ 128 := by
    have := pathN_len (2 ^ levels m + place) (2 ^ levels m + place)
    unfold pathL
    omega
  clear e hlv
  generalize 2 ^ levels m = P at *
  generalize pathL m place = l at *
  have hn : nodeV kind = .agg #[.func (.func 235) #[] #[], .func (.func 236) #[] #[], .func (.func 237) #[] #[]] := by unfold nodeV; rw [if_neg hk]; rfl
  have hN := fun w => nodeOf_p kind w
  rw [hn] at hN
  have hmemh := Lib.hid hmem
  have hallh := Lib.hid hall
  have hlenh := Lib.hid hlen
  have hOh := Lib.hid hO
  clear hn hk hmem hall hlen hO
  go_enter Tryz.func94, Tryz.ntmps94
  go_wp2_with fail
  refine (hN _).mono ?_
  rintro e w2 ⟨rfl, hx2⟩
  have hK := Keep.of_ext (ix := [2, 3, 4]) (B := B) hx2 h.lt h.le
  have hP := h.ext hx2
  have hreg2 : T ≠ [] → ∃ b, A = some ⟨b, o * 7, none⟩ ∧ RegsAt [2, 3, 4] w2 p b rs := fun hne => by
    obtain ⟨b, e1, e2⟩ := hreg hne
    exact ⟨b, e1, e2.extL hx2 h.lt⟩
  clear hx2 h hreg
  have bx := hP.held (.cells #[.func (.func 235) #[] #[], .func (.func 236) #[] #[], .func (.func 237) #[] #[]] 147)
  replace hK := hK.trans (Keep.alloc (.cells #[.func (.func 235) #[] #[], .func (.func 236) #[] #[], .func (.func 237) #[] #[]] 147) hP.lt hP.le)
  have hreg3 : T ≠ [] → ∃ b, A = some ⟨b, o * 7, none⟩ ∧ RegsAt [2, 3, 4] (w2.alloc (.cells #[.func (.func 235) #[] #[], .func (.func 236) #[] #[], .func (.func 237) #[] #[]] 147)) p b rs := fun hne => by
    obtain ⟨b, e1, e2⟩ := hreg2 hne
    exact ⟨b, e1, e2.extL ((Ext.refl w2).alloc (.cells #[.func (.func 235) #[] #[], .func (.func 236) #[] #[], .func (.func 237) #[] #[]] 147)) hP.lt⟩
  replace hP := hP.alloc (.cells #[.func (.func 235) #[] #[], .func (.func 236) #[] #[], .func (.func 237) #[] #[]] 147)
  clear hreg2
  go_wp2_with fail
  generalize w2.heap.size = z at *
  generalize w2.alloc _ = W at *
  refine (hPth _).mono ?_
  rintro e w3 ⟨v3, rfl, hrow, hx3⟩
  go_wp2_with fail
  refine (reverse_p hx3 hrow (by omega)).mono ?_
  rintro e w4 ⟨rfl, hx4, hrow4⟩
  obtain ⟨A3, c3, rfl, hR⟩ := RowH.of_row (p := p) (ix := [2, 3, 4]) hrow4 (fun b hb => hP.fresh hx4 hb)
  replace hK := hK.trans (Keep.of_ext hx4 hP.lt hP.le)
  replace bx := bx.ext hx4 hP.lt
  clear hrow hx3
  have hreg : T ≠ [] → ∃ b, A = some ⟨b, o * 7, none⟩ ∧ RegsAt [2, 3, 4] w4 p b rs := fun hne => by
    obtain ⟨b, e1, e2⟩ := hreg3 hne
    exact ⟨b, e1, e2.extL hx4 hP.lt⟩
  replace hP := hP.ext hx4
  clear hreg3 hx4 hrow4 hPth hN
  have hmem2 : ∀ y ∈ l.reverse, 2 ≤ y ∧ y < 2 * ((P : Nat) : Int) := fun y hy => hmemh.out y (List.mem_reverse.1 hy)
  replace hll : l.reverse.length ≤ 128 := by rw [List.length_reverse]; exact hll
  generalize l.reverse = l2 at *
  clear hmemh
  have hmemh := Lib.hid hmem2
  clear hmem2
  by_cases hl0 : l2 = []
  · subst hl0
    have hf := hOh.out.done (v := ()) hP hK
    clear hOh hmemh hR hreg hallh hlenh
    go_wp2_with fail
    go_loopw [25] (fun i wr => i = .int .i64 0 ∧ w4 = wr) (fun _ _ => 0)
    case atStart => exact ⟨rfl, rfl⟩
    case round =>
      obtain ⟨rfl, rfl⟩ := hrel
      go_wp2_with fail
      first | exact hf | (refine bodyPost_ret (results_none rfl _ _ _) rfl ?_; exact hf)
  obtain ⟨g, cur, rfl, hg, hcur⟩ := hR hl0
  obtain ⟨b, rfl, hl⟩ := hreg (by
    obtain ⟨y, l2', rfl⟩ : ∃ y l2', l2 = y :: l2' := by cases l2 with | nil => exact absurd rfl hl0 | cons y l2' => exact ⟨y, l2', rfl⟩
    have h1 := hmemh.out y (List.mem_cons_self ..)
    have h2 := hlenh.out
    intro hne
    rw [hne, List.length_nil] at h2
    omega)
  have hch := Lib.hid hcur
  clear hreg hR hl0 hcur
  go_wp2_with fail
  go_loopw [25] (fun i wr => ∃ (j : Nat) (S2 : TS), i = .int .i64 j ∧ j ≤ l2.length ∧ Plays B wr p S2 ∧ KeepP B p w wr ∧ HeldP wr p z (.cells #[.func (.func 235) #[] #[], .func (.func 236) #[] #[], .func (.func 237) #[] #[]] 147) ∧ HeldP wr p g (.cells cur 3) ∧ RegsAt [2, 3, 4] wr p b rs ∧ Hid (Owes R encU B p w ((forP (fun x _ => nodeL 3 T me x) (l2.drop j) ()).run S2))) (fun i _ => l2.length - (intOf i).toNat)
  case atStart => exact ⟨0, S, rfl, by omega, hP, hK, bx, hg, hl, hOh⟩
  case round =>
    clear hP hK bx hg hl hOh
    obtain ⟨j, S2, rfl, hj, hP, hK, bx, hg, hl, hOh⟩ := hrel
    by_cases hjl : j < l2.length
    · obtain ⟨y, hy⟩ : ∃ y, l2[j]? = some y := ⟨_, List.getElem?_eq_getElem hjl⟩
      have hym := hmemh.out y (List.mem_of_getElem? hy)
      obtain ⟨Y, rfl⟩ : ∃ Y : Nat, y = (Y : Int) := ⟨y.toNat, by omega⟩
      have c_g := hg.at_ hch.out hy
      have hO := hOh.out
      rw [List.drop_eq_getElem_cons hjl, show l2[j] = (Y : Int) from by rw [List.getElem?_eq_getElem hjl] at hy; exact Option.some.inj hy] at hO
      have hOk : Hid (Owes R encU B p w (((nodeL 3 T me (Y : Int)).bind fun _ => forP (fun x _ => nodeL 3 T me x) (l2.drop (j + 1)) ()).run S2)) := Lib.hid hO
      clear hO hOh hy
      have hn2 : Y / 2 * 3 ≤ T.length := by have := hlenh.out; omega
      have hn1 : 1 ≤ Y / 2 := by omega
      have hlen9 : T.length ≤ 1000000 := by have := hlenh.out; omega
      have hrg := fun w => tregs_o3 b c (Y / 2) o T.length w hn1 hn2 hc1 hc2 hlen9
      have hq1 : IntKind.i64.wrap ((Y : Int) / 2) = ((Y / 2 : Nat) : Int) := by rw [IntWalk.i64_in _ (by omega)]; omega
      have hq2 : (Y : Int).tmod 2 = (Y : Int) % 2 := Int.tmod_eq_emod_of_nonneg (by omega)
      go_wp2_with fail
      have hS : ∀ w', HeldP w' p z (.cells #[.func (.func 235) #[] #[], .func (.func 236) #[] #[], .func (.func 237) #[] #[]] 147) → (∀ i, w'.cell? ⟨z, i, none⟩ = (#[.func (.func 235) #[] #[], .func (.func 236) #[] #[], .func (.func 237) #[] #[]] : Array Value)[i]?) := fun w' x => x.cells
      have c_bx := bx.cells
      refine wp_region_held_drew (S := fun w' => ∀ i, w'.cell? ⟨z, i, none⟩ = (#[.func (.func 235) #[] #[], .func (.func 236) #[] #[], .func (.func 237) #[] #[]] : Array Value)[i]?) rfl (hS _ bx) (fun hHeld => ?_)
      replace hl := hl.extL (Ext.refl wr).drew hP.lt
      replace hP := hP.drew
      replace hK := hK.drew
      replace bx := bx.drew
      replace hg := hg.drew
      refine wpAnyH_take (i := 0) (v := ?_) rfl (by kernel_rfl) (by kernel_rfl) (by kernel_rfl) (fun _ _ _ h => h) (Or.inl ⟨by kernel_rfl, ?_⟩) (by assumption) ?_
      rotate_left
      · (intro w hSw; (try dsimp only at hSw); go_simp; try with_reducible rfl)
      try simp only [put_pack]
      refine wpAnyH_take (i := 1) (v := ?_) rfl (by kernel_rfl) (by kernel_rfl) (by kernel_rfl) (fun _ _ _ h => h) (Or.inl ⟨by kernel_rfl, ?_⟩) (by assumption) ?_
      rotate_left
      · (intro w hSw; (try dsimp only at hSw); go_simp; try with_reducible rfl)
      try simp only [put_pack]
      refine wpAnyH_take (i := 2) (v := ?_) rfl (by kernel_rfl) (by kernel_rfl) (by kernel_rfl) (fun _ _ _ h => h) (Or.inl ⟨by kernel_rfl, ?_⟩) (by assumption) ?_
      rotate_left
      · (intro w hSw; (try dsimp only at hSw); go_simp; try with_reducible rfl)
      try simp only [put_pack]
      refine wpAnyH_take (i := 3) (v := ?_) rfl (by kernel_rfl) (by kernel_rfl) (by kernel_rfl) (fun _ _ _ h => h) (Or.inl ⟨by kernel_rfl, ?_⟩) (by assumption) ?_
      rotate_left
      · (intro w hSw; (try dsimp only at hSw); go_simp; try with_reducible rfl)
      try simp only [put_pack]
      refine wpAnyH_take (i := 4) (v := ?_) rfl (by kernel_rfl) (by kernel_rfl) (by kernel_rfl) (fun _ _ _ h => h) (Or.inl ⟨by kernel_rfl, ?_⟩) (by assumption) ?_
      rotate_left
      · (intro w hSw; (try dsimp only at hSw); go_simp; try with_reducible rfl)
      try simp only [put_pack]
      refine wpAnyH_take (i := 5) (v := ?_) rfl (by kernel_rfl) (by kernel_rfl) (by kernel_rfl) (fun _ _ _ h => h) (Or.inl ⟨by kernel_rfl, ?_⟩) (by assumption) ?_
      rotate_left
      · (intro w hSw; (try dsimp only at hSw); go_simp; try with_reducible rfl)
      try simp only [put_pack]
      refine wpAnyH_take (i := 6) (v := ?_) rfl (by kernel_rfl) (by kernel_rfl) (by kernel_rfl) (fun _ _ _ h => h) (Or.inl ⟨by kernel_rfl, ?_⟩) (by assumption) ?_
      rotate_left
      · (intro w hSw; (try dsimp only at hSw); go_simp; try with_reducible rfl)
      try simp only [put_pack]
      refine wpAnyH_take (i := 8) (v := ?_) rfl (by kernel_rfl) (by kernel_rfl) (by kernel_rfl) (fun _ _ _ h => h) (Or.inl ⟨by kernel_rfl, ?_⟩) (by assumption) ?_
      rotate_left
      · (intro w hSw; (try dsimp only at hSw); go_simp; try with_reducible rfl)
      try simp only [put_pack]
      refine wpAnyH_take (i := 9) (v := ?_) rfl (by kernel_rfl) (by kernel_rfl) (by kernel_rfl) (fun _ _ _ h => h) (Or.inl ⟨by kernel_rfl, ?_⟩) (by assumption) ?_
      rotate_left
      · (intro w hSw; (try dsimp only at hSw); go_simp; try with_reducible rfl)
      try simp only [put_pack]
      refine wpAnyH_take (i := 10) (v := ?_) rfl (by kernel_rfl) (by kernel_rfl) (by kernel_rfl) (fun _ _ _ h => h) (Or.inl ⟨by kernel_rfl, ?_⟩) (by assumption) ?_
      rotate_left
      · (intro w hSw; (try dsimp only at hSw); go_simp; try with_reducible rfl)
      try simp only [put_pack]
      refine wpAnyH_ready (rs := [7]) (by kernel_rfl) (by simp) ?_
      refine AllReadyH.cons rfl (fun K hKK => ?_) AllReadyH.nil
      go_simp
      refine (hrg _).mono ?_
      rintro e w4 ⟨c', rfl, q1, q2, hx⟩
      replace bx := bx.ext hx hP.lt
      replace hg := hg.ext hx hP.lt
      replace hl := hl.extL hx hP.lt
      replace hK := hK.trans (Keep.of_ext hx hP.lt hP.le)
      replace hP := hP.ext hx
      clear hx hrg c_g c_bx
      refine hKK.out _ _ (hS _ bx) (fun hHeld => ?_)
      clear hKK K
      try dsimp only
      refine wpAnyH_ready (rs := [11]) (by kernel_rfl) (by simp) ?_
      refine AllReadyH.cons rfl (fun K hKK => ?_) AllReadyH.nil
      go_simp
      refine tstepL hOk.out hK (node_leave_o3 B p (Y / 2) S2 rs T o hTh.out Y me b c' _ hP hl hallh.out hm0 (by omega) hn1 hn2) (fun _ h => ⟨rfl, h⟩) ?_
      clear hK hP hOk
      intro u S3 w5 hlf _ hP hk1 hK hO
      replace bx := bx.keep hk1
      replace hg := hg.keep hk1
      replace hl := hl.keep hk1
      clear hk1 hlf
      refine hKK.out _ _ (hS _ bx) (fun hHeld => ?_)
      clear hKK K
      try dsimp only
      refine wpAnyH_done (by kernel_rfl) ?_ _
      go_simp
      have hf := Lib.hid hO
      clear hO hS
      go_wp2_with fail
      refine ⟨⟨j + 1, S3, by go_num, by omega, hP, hK, bx, hg, hl, hf⟩, ?_⟩
      simp [intOf]; omega
    · obtain rfl : j = l2.length := by omega
      have hO := hOh.out
      rw [List.drop_length] at hO
      have hf := hO.done (v := ()) hP hK
      clear hO hOh hP hK hl hg bx
      go_wp2_with fail
      first | exact hf | (refine bodyPost_ret (results_none rfl _ _ _) rfl ?_; exact hf)
end Go.Proofs.YtbaajjkopdjbgaaGreat
/-
  Trees of locks of two sides: the document's leaves, wants and paths.
-/
namespace Kv
theorem lev_least {m : Nat} (h : m ≤ 64) {j : Nat} (hj : j < levels m) : 2 ^ j < m := by
  have : ∀ m : Nat, m < 65 → ∀ j : Nat, j < levels m → 2 ^ j < m := by decide +kernel
  exact this m (by omega) j hj
end Kv
namespace Go.Proofs.YtbaajjkopdjbgaaGreat
open Go.RowKit Kv
theorem leaves_r (m : Nat) (w : World) (h2 : m ≤ 64) : Calls Tryz.prog 243 #[.int .i64 m] w fun e w' => e = .returned (.int .i64 ((2 ^ levels m : Nat) : Int)) ∧ w = w' := by
  have hlt := fun j (hj : j < levels m) => lev_least h2 hj
  have hge := lev_ge h2
  have hle := lev_le h2
  generalize levels (m : Int) = L at *
  have hp2 := (pow_le hle).2
  obtain ⟨P, hP⟩ : ∃ P, 2 ^ L = P := ⟨_, rfl⟩
  rw [hP] at hge hp2 ⊢
  have hlth := Lib.hid hlt
  have hgeh := Lib.hid hge
  have hPh := Lib.hid hP
  clear hlt hge hP
  go_enter Tryz.func243, Tryz.ntmps243
  go_wp2_with fail
  go_loop [3] (fun p => ∃ j q : Nat, p = .int .i64 q ∧ 1 ≤ q ∧ q ≤ 128 ∧ Hid (q = 2 ^ j ∧ j ≤ L)) (fun p => 256 - (intOf p).toNat)
  case atStart => exact ⟨0, 1, rfl, by omega, by omega, Lib.hid ⟨rfl, by omega⟩⟩
  case round =>
    obtain ⟨j, q, rfl, q1, q2, hq⟩ := hrel
    by_cases hm : q < m
    · have d1 : decide ((q : Int) < (m : Int)) = true := by rw [decide_eq_true_eq]; omega
      have hj : j < L := by
        have h1 := hq.out.2
        have h3 := hgeh.out
        by_cases e : j = L
        · have h4 := hq.out.1
          rw [e, hPh.out] at h4
          omega
        · omega
      have hq2 : Hid (2 * q = 2 ^ (j + 1) ∧ j + 1 ≤ L) := Lib.hid ⟨by rw [hq.out.1, Nat.pow_succ]; omega, by omega⟩
      clear hq
      go_wp2_with fail
      go_round
      case rel => exact ⟨j + 1, 2 * q, by go_num, by omega, by omega, hq2⟩
      case measure => simp [intOf]; omega
    · have d1 : decide ((q : Int) < (m : Int)) = false := by rw [decide_eq_false_iff_not]; omega
      have hj : j = L := by
        by_cases e : j = L
        · exact e
        · have := hlth.out j (by have := hq.out.2; omega)
          rw [← hq.out.1] at this
          omega
      have hf := hq.out.1
      rw [hj, hPh.out] at hf
      subst hf
      clear hq hPh hlth hgeh
      go_wp2_with fail
      go_ret
      exact ⟨rfl, rfl⟩
theorem each_r (kind : Int) (w : World) : Calls Tryz.prog 242 #[.int .i64 kind] w fun e w' => e = .returned (.int .i64 ((eachK kind : Nat) : Int)) ∧ w = w' := by
  unfold eachK
  by_cases h : kind = 7
  · have d : (kind == 7) = true := by simpa using h
    rw [if_pos h]
    clear h
    go_enter Tryz.func242, Tryz.ntmps242
    go_wp2_with fail
    go_ret
    exact ⟨rfl, rfl⟩
  · have d : (kind == 7) = false := by simpa using h
    rw [if_neg h]
    clear h
    go_enter Tryz.func242, Tryz.ntmps242
    go_wp2_with fail
    go_ret
    exact ⟨rfl, rfl⟩
theorem rtwants_r (kind : Int) (m : Nat) (w : World) (h2 : m ≤ 64) :
    Calls Tryz.prog 180 #[.int .i64 kind, .int .i64 m] w fun e w' => ∃ v, e = .returned v ∧ WantsAt w' v (treeWants (eachK kind) m) ∧ Ext w w' := by
  have hL := fun w => leaves_r m w h2
  have hE := fun w => each_r kind w
  obtain ⟨p1, p2⟩ := pow_le (lev_le h2)
  obtain ⟨e1, e2⟩ := each_le kind
  have hW := fun w => wants28_r (eachK kind * (2 ^ levels m - 1)) w (by
    have := Nat.mul_le_mul e2 (show 2 ^ levels (m : Int) - 1 ≤ 63 by omega)
    omega)
  unfold treeWants
  generalize eachK kind = E at *
  generalize 2 ^ levels (m : Int) = P at *
  have hmul : (E : Int) * ((P : Int) - 1) = ((E * (P - 1) : Nat) : Int) := by
    obtain ⟨M, rfl⟩ : ∃ M, P = M + 1 := ⟨P - 1, by omega⟩
    rw [Int.natCast_mul]
    congr 1
    omega
  have hb : E * (P - 1) ≤ 4 * 63 := Nat.mul_le_mul e2 (by omega)
  have w1 : IntKind.i64.wrap ((P : Int) - 1) = (P : Int) - 1 := IntWalk.i64_in _ (by omega)
  have w2 : IntKind.i64.wrap ((E : Int) * ((P : Int) - 1)) = ((E * (P - 1) : Nat) : Int) := by rw [hmul]; exact IntWalk.i64_in _ (by omega)
  generalize E * (P - 1) = M at *
  clear hmul
  go_enter Tryz.func180, Tryz.ntmps180
  go_wp2_with fail
  refine (hE _).mono ?_
  rintro e w' ⟨rfl, rfl⟩
  go_wp2_with fail
  refine (hL _).mono ?_
  rintro e w' ⟨rfl, rfl⟩
  go_wp2_with fail
  refine (hW _).mono ?_
  rintro e w3 ⟨v, rfl, hv, hx⟩
  have hf := Lib.hid hv
  clear hv
  go_wp2_with fail
  go_ret
  exact ⟨_, rfl, hf.out, hx⟩
set_option maxRecDepth 100000 in
set_option maxHeartbeats 1000000 in
theorem rpath_r (m place : Nat) (w : World) (h1 : 1 ≤ m) (h2 : m ≤ 64) (h3 : place < m) :
    Calls Tryz.prog 264 #[.int .i64 m, .int .i64 place] w fun e w' => ∃ v, e = .returned v ∧ IntRow w' w.heap.size v (pathL m place) ∧ Ext w w' := by
  have hlv := fun w => leaves_r m w h2
  have hle := lev_le h2
  unfold pathL
  generalize levels m = L at *
  obtain ⟨p1, p2⟩ := pow_le hle
  generalize 2 ^ L = P at *
  clear hle
  obtain ⟨X, hX⟩ : ∃ X : Nat, P + place = X := ⟨_, rfl⟩
  rw [hX]
  have hw : IntKind.i64.wrap ((P : Int) + (place : Int)) = (X : Int) := by rw [IntWalk.i64_in _ (by omega)]; omega
  go_enter Tryz.func264, Tryz.ntmps264
  go_wp2_with fail
  refine (hlv _).mono ?_
  rintro e w' ⟨rfl, rfl⟩
  go_wp2_with fail
  go_loopw [5, 6] (fun v i wr => ∃ (x : Nat) (l : List Int), i = .int .i64 x ∧ x ≤ 128 ∧ l.length + x ≤ X ∧ IntRow wr w.heap.size v l ∧ Hid (l ++ pathN x x = pathN X X) ∧ Ext w wr) (fun _ i _ => (intOf i).toNat)
  case atStart => exact ⟨X, [], rfl, by omega, by simp, IntRow.nil _ _, Lib.hid rfl, Ext.refl w⟩
  case round =>
    obtain ⟨x, l, rfl, hx, hln, hown, hpath, hE⟩ := hrel
    by_cases hx1 : 1 < x
    · have e1 : decide ((1 : Int) < (x : Int)) = true := by rw [decide_eq_true_eq]; omega
      go_wp2_with (at_builtin; refine append_int rfl _ _ rfl w.heap.size _ l x hown rfl rfl (by omega) hE.size ?_)
      intro v' w' ho hg
      have hx' := hE.appended hown hg
      have hoh := Lib.hid ho
      have hp2 : Hid ((l ++ [(x : Int)]) ++ pathN (x / 2) (x / 2) = pathN X X) := Lib.hid (by rw [← hpath.out, pathN_cons hx1, List.append_assoc]; rfl)
      clear hown ho hg hpath hE
      go_wp2_with fail
      refine ⟨⟨x / 2, l ++ [(x : Int)], by go_num, by omega, by simp; omega, hoh.out, hp2, hx'⟩, ?_⟩
      simp [intOf]; omega
    · have e1 : decide ((1 : Int) < (x : Int)) = false := by rw [decide_eq_false_iff_not]; omega
      have hp := hpath.out
      rw [pathN_nil (by omega), List.append_nil] at hp
      have hf := Lib.hid hown
      subst hp
      clear hown hpath
      go_wp2_with fail
      go_ret
      exact ⟨_, rfl, hf.out, hE⟩
end Go.Proofs.YtbaajjkopdjbgaaGreat
/-
  Trees of locks of two sides: climbing and going down, by the document.
-/
namespace Go.Proofs.YtbaajjkopdjbgaaGreat
open Go.RowKit Kv
theorem node_enter_r7 (B p D n : Nat) (o : Bool) (S : TS) (rs : List Reg) (x me : Int) (b c : Nat) (w : World) (h : RAt B w p o S) (hl : RegsAt [3, 4, 5] w p b rs) (hall : ∀ r ∈ rs, r.ok ∧ me < r.n ∧ r.told me) (hm0 : 0 ≤ me) (hn : x / 2 = n) (hn1 : 1 ≤ n) (hn2 : n * 4 ≤ rs.length) (hD : S.left < D) :
    Calls Tryz.prog 265 #[.pointer (some ⟨p, 0, none⟩), .slice (some ⟨b, 4 * (n - 1) * 7, none⟩) 4 c, .int .i64 (x % 2), .int .i64 me] w (RPost encU B p w (nodeE 4 D rs me x) o S) := by
  unfold nodeE
  rw [if_pos rfl, hn, Int.toNat_natCast]
  obtain ⟨k0, l0, t0⟩ := hall _ (List.mem_of_getElem? (nthR_of (rs := rs) (i := 4 * (n - 1)) (by omega)))
  obtain ⟨k1, l1, t1⟩ := hall _ (List.mem_of_getElem? (nthR_of (rs := rs) (i := 4 * (n - 1) + 1) (by omega)))
  obtain ⟨k2, l2, t2⟩ := hall _ (List.mem_of_getElem? (nthR_of (rs := rs) (i := 4 * (n - 1) + 2) (by omega)))
  obtain ⟨k3, l3, t3⟩ := hall _ (List.mem_of_getElem? (nthR_of (rs := rs) (i := 4 * (n - 1) + 3) (by omega)))
  exact kesn_enter_r B p D o S _ _ _ _ (x % 2) me b c (4 * (n - 1)) rs w h hl ⟨nthR_of (i := 4 * (n - 1)) (by omega), nthR_of (i := 4 * (n - 1) + 1) (by omega), nthR_of (i := 4 * (n - 1) + 2) (by omega), nthR_of (i := 4 * (n - 1) + 3) (by omega)⟩ k0 k1 k2 k3 hm0 l0 l1 l2 l3 t0 t1 t2 t3 hD
theorem node_leave_r7 (B p n : Nat) (o : Bool) (S : TS) (rs : List Reg) (x me : Int) (b c : Nat) (w : World) (h : RAt B w p o S) (hl : RegsAt [3, 4, 5] w p b rs) (hall : ∀ r ∈ rs, r.ok ∧ me < r.n ∧ r.told me) (hm0 : 0 ≤ me) (hn : x / 2 = n) (hn1 : 1 ≤ n) (hn2 : n * 4 ≤ rs.length) :
    Calls Tryz.prog 271 #[.pointer (some ⟨p, 0, none⟩), .slice (some ⟨b, 4 * (n - 1) * 7, none⟩) 4 c, .int .i64 (x % 2), .int .i64 me] w (RPost encU B p w (nodeL 4 rs me x) o S) := by
  unfold nodeL
  rw [hn, Int.toNat_natCast]
  obtain ⟨k0, l0, t0⟩ := hall _ (List.mem_of_getElem? (nthR_of (rs := rs) (i := 4 * (n - 1)) (by omega)))
  obtain ⟨k1, l1, t1⟩ := hall _ (List.mem_of_getElem? (nthR_of (rs := rs) (i := 4 * (n - 1) + 1) (by omega)))
  obtain ⟨k2, l2, t2⟩ := hall _ (List.mem_of_getElem? (nthR_of (rs := rs) (i := 4 * (n - 1) + 2) (by omega)))
  obtain ⟨k3, l3, t3⟩ := hall _ (List.mem_of_getElem? (nthR_of (rs := rs) (i := 4 * (n - 1) + 3) (by omega)))
  exact kesn_leave_r B p o S _ _ (nthR rs (4 * (n - 1) + 2)) (nthR rs (4 * (n - 1) + 3)) (x % 2) me b c (4 * (n - 1)) rs w h hl ⟨nthR_of (i := 4 * (n - 1)) (by omega), nthR_of (i := 4 * (n - 1) + 1) (by omega), nthR_of (i := 4 * (n - 1) + 2) (by omega), nthR_of (i := 4 * (n - 1) + 3) (by omega)⟩ k0 k1 hm0 l0 l1
theorem node_enter_r3 (B p D n : Nat) (o : Bool) (S : TS) (rs : List Reg) (x me : Int) (b c : Nat) (w : World) (h : RAt B w p o S) (hl : RegsAt [3, 4, 5] w p b rs) (hall : ∀ r ∈ rs, r.ok ∧ me < r.n ∧ r.told me) (hm0 : 0 ≤ me) (hn : x / 2 = n) (hn1 : 1 ≤ n) (hn2 : n * 3 ≤ rs.length) (hD : S.left < D) :
    Calls Tryz.prog 266 #[.pointer (some ⟨p, 0, none⟩), .slice (some ⟨b, 3 * (n - 1) * 7, none⟩) 3 c, .int .i64 (x % 2), .int .i64 me] w (RPost encU B p w (nodeE 3 D rs me x) o S) := by
  unfold nodeE
  rw [if_neg (by decide), hn, Int.toNat_natCast]
  obtain ⟨k0, l0, t0⟩ := hall _ (List.mem_of_getElem? (nthR_of (rs := rs) (i := 3 * (n - 1)) (by omega)))
  obtain ⟨k1, l1, t1⟩ := hall _ (List.mem_of_getElem? (nthR_of (rs := rs) (i := 3 * (n - 1) + 1) (by omega)))
  obtain ⟨k2, l2, t2⟩ := hall _ (List.mem_of_getElem? (nthR_of (rs := rs) (i := 3 * (n - 1) + 2) (by omega)))
  exact darbn_enter_r B p D o S _ _ _ (x % 2) me b c (3 * (n - 1)) rs w h hl ⟨nthR_of (i := 3 * (n - 1)) (by omega), nthR_of (i := 3 * (n - 1) + 1) (by omega), nthR_of (i := 3 * (n - 1) + 2) (by omega)⟩ k0 k1 k2 hm0 l0 l1 l2 t0 t1 hD
theorem node_leave_r3 (B p n : Nat) (o : Bool) (S : TS) (rs : List Reg) (x me : Int) (b c : Nat) (w : World) (h : RAt B w p o S) (hl : RegsAt [3, 4, 5] w p b rs) (hall : ∀ r ∈ rs, r.ok ∧ me < r.n ∧ r.told me) (hm0 : 0 ≤ me) (hn : x / 2 = n) (hn1 : 1 ≤ n) (hn2 : n * 3 ≤ rs.length) :
    Calls Tryz.prog 271 #[.pointer (some ⟨p, 0, none⟩), .slice (some ⟨b, 3 * (n - 1) * 7, none⟩) 3 c, .int .i64 (x % 2), .int .i64 me] w (RPost encU B p w (nodeL 3 rs me x) o S) := by
  unfold nodeL
  rw [hn, Int.toNat_natCast]
  obtain ⟨k0, l0, t0⟩ := hall _ (List.mem_of_getElem? (nthR_of (rs := rs) (i := 3 * (n - 1)) (by omega)))
  obtain ⟨k1, l1, t1⟩ := hall _ (List.mem_of_getElem? (nthR_of (rs := rs) (i := 3 * (n - 1) + 1) (by omega)))
  obtain ⟨k2, l2, t2⟩ := hall _ (List.mem_of_getElem? (nthR_of (rs := rs) (i := 3 * (n - 1) + 2) (by omega)))
  exact darbn_leave_r B p o S _ _ (nthR rs (3 * (n - 1) + 2)) (x % 2) me b c (3 * (n - 1)) rs w h hl ⟨nthR_of (i := 3 * (n - 1)) (by omega), nthR_of (i := 3 * (n - 1) + 1) (by omega), nthR_of (i := 3 * (n - 1) + 2) (by omega)⟩ k0 k1 hm0 l0 l1
set_option maxRecDepth 100000 in
set_option maxHeartbeats 2000000 in
theorem rclimb_r7 (B p D : Nat) (o : Bool) (S : TS) (kind : Int) (m place : Nat) (me : Int) (rs : List Reg) (A : Option Addr) (c : Nat) (w : World) (h : RAt B w p o S) (hk : kind = 7) (h1 : 1 ≤ m) (h2 : m ≤ 64) (h3 : place < m) (hlen : rs.length = 4 * (2 ^ levels m - 1)) (hc1 : rs.length ≤ c) (hc2 : c ≤ 9223372036854775807)
    (hreg : rs ≠ [] → ∃ b, A = some ⟨b, 0, none⟩ ∧ RegsAt [3, 4, 5] w p b rs) (hall : ∀ r ∈ rs, r.ok ∧ me < r.n ∧ r.told me) (hm0 : 0 ≤ me) (hD : S.left < D) :
    Calls Tryz.prog 210 #[.pointer (some ⟨p, 0, none⟩), .slice A rs.length c, .int .i64 kind, .int .i64 m, .int .i64 place, .int .i64 me] w (RPost encU B p w (forP (fun x _ => nodeE 4 D rs me x) (pathL m place) ()) o S) := by
  generalize hR : RPost encU B p w (forP (fun x _ => nodeE 4 D rs me x) (pathL m place) ()) o S = R
  have hO : ROwes R encU B p w (forP (fun x _ => nodeE 4 D rs me x) (pathL m place) ()) o S := hR ▸ rowes _ _ _ _ _ _ _
  clear hR
  have hmem := fun y (hy : y ∈ pathL m place) => pathL_mem h2 h3 hy
  have hPth := fun w => rpath_r m place w h1 h2 h3
  have hEa := fun w => each_r kind w
  unfold eachK at hEa
  rw [if_pos hk] at hEa
  have hlv := lev_le h2
  obtain ⟨p1, p2⟩ := pow_le hlv
  have e : (2 : Int) ^ levels m = ((2 ^ levels m : Nat) : Int) := by rw [Int.natCast_pow]; rfl
  rw [e] at hmem
  have hll : (pathL m place).length ≤ 128 := by
    have := pathN_len (2 ^ levels m + place) (2 ^ levels m + place)
    unfold pathL
    omega
  clear e hlv
  generalize 2 ^ levels m = P at *
  generalize pathL m place = l at *
  have hk7 : (kind == 7) = true := by simp [hk]
  have hmemh := Lib.hid hmem
  have hallh := Lib.hid hall
  have hlenh := Lib.hid hlen
  have hOh := Lib.hid hO
  clear hk hmem hall hlen hO
  go_enter Tryz.func210, Tryz.ntmps210
  go_wp2_with fail
  refine (hPth _).mono ?_
  rintro e w2 ⟨v3, rfl, hrow, hx2⟩
  obtain ⟨A3, c3, rfl, hR⟩ := RowH.of_row (p := p) (ix := [3, 4, 5]) hrow (fun b hb => h.fresh hx2 hb)
  have hK := Keep.of_ext (ix := [3, 4, 5]) (B := B) hx2 h.lt h.le
  have hP := h.ext hx2
  have hreg2 : rs ≠ [] → ∃ b, A = some ⟨b, 0, none⟩ ∧ RegsAt [3, 4, 5] w2 p b rs := fun hne => by
    obtain ⟨b, e1, e2⟩ := hreg hne
    exact ⟨b, e1, e2.extL hx2 h.lt⟩
  clear hx2 h hreg hrow hPth
  go_wp2_with fail
  refine (hEa _).mono ?_
  rintro e w' ⟨rfl, rfl⟩
  clear hEa
  by_cases hl0 : l = []
  · subst hl0
    have hf : R (.returned (encU ())) w2 := hOh.out.ret hP hK
    clear hOh hmemh hR hreg2 hallh hlenh
    go_wp2_with fail
    go_loopw [14] (fun i wr => i = .int .i64 0 ∧ w2 = wr) (fun _ _ => 0)
    case atStart => exact ⟨rfl, rfl⟩
    case round =>
      obtain ⟨rfl, rfl⟩ := hrel
      go_wp2_with fail
      first | exact hf | (refine bodyPost_ret (results_none rfl _ _ _) rfl ?_; exact hf)
  obtain ⟨g, cur, rfl, hg, hcur⟩ := hR hl0
  obtain ⟨b, rfl, hl⟩ := hreg2 (by
    obtain ⟨y, l', rfl⟩ : ∃ y l', l = y :: l' := by cases l with | nil => exact absurd rfl hl0 | cons y l' => exact ⟨y, l', rfl⟩
    have h1 := hmemh.out y (List.mem_cons_self ..)
    have h2 := hlenh.out
    intro hne
    rw [hne, List.length_nil] at h2
    omega)
  have hch := Lib.hid hcur
  clear hreg2 hR hl0 hcur
  go_wp2_with fail
  go_loopw [14] (fun i wr => ∃ (j : Nat) (o2 : Bool) (S2 : TS), i = .int .i64 j ∧ j ≤ l.length ∧ RAt B wr p o2 S2 ∧ KeepR B p w wr ∧ HeldR wr p g (.cells cur 3) ∧ RegsAt [3, 4, 5] wr p b rs ∧ S2.left < D ∧ Hid (ROwes R encU B p w (forP (fun x _ => nodeE 4 D rs me x) (l.drop j) ()) o2 S2)) (fun i _ => l.length - (intOf i).toNat)
  case atStart => exact ⟨0, o, S, rfl, by omega, hP, hK, hg, hl, hD, hOh⟩
  case round =>
    clear hP hK hg hl hD hOh
    obtain ⟨j, o2, S2, rfl, hj, hP, hK, hg, hl, hD, hOh⟩ := hrel
    obtain ⟨_, _, _, _, _, hcc⟩ := hP.cell
    by_cases hjl : j < l.length
    · have dl : decide ((j : Int) < (l.length : Int)) = true := by rw [decide_eq_true_eq]; omega
      cases o2 with
      | true =>
        have hf : R (.returned (encU ())) wr := hOh.out.over () hP hK
        clear hOh hP hK hl hg
        go_wp2_with fail
        first | exact hf | (refine bodyPost_ret (results_none rfl _ _ _) rfl ?_; exact hf)
      | false =>
        obtain ⟨y, hy⟩ : ∃ y, l[j]? = some y := ⟨_, List.getElem?_eq_getElem hjl⟩
        have hym := hmemh.out y (List.mem_of_getElem? hy)
        obtain ⟨Y, rfl⟩ : ∃ Y : Nat, y = (Y : Int) := ⟨y.toNat, by omega⟩
        have c_g := hg.at_ hch.out hy
        have hO := hOh.out
        rw [List.drop_eq_getElem_cons hjl, show l[j] = (Y : Int) from by rw [List.getElem?_eq_getElem hjl] at hy; exact Option.some.inj hy] at hO
        have hOk : Hid (ROwes R encU B p w ((nodeE 4 D rs me (Y : Int)).bind fun _ => forP (fun x _ => nodeE 4 D rs me x) (l.drop (j + 1)) ()) false S2) := Lib.hid hO
        clear hO hOh hy
        obtain ⟨k, hk⟩ : ∃ k, Y / 2 = k + 1 := ⟨Y / 2 - 1, by omega⟩
        have hn2 : (k + 1) * 4 ≤ rs.length := by have := hlenh.out; omega
        have hlen9 : rs.length ≤ 1000000 := by have := hlenh.out; omega
        have hq1 : IntKind.i64.wrap ((Y : Int) / 2) = (k : Int) + 1 := by rw [IntWalk.i64_in _ (by omega)]; omega
        have hq2 : (Y : Int).tmod 2 = (Y : Int) % 2 := Int.tmod_eq_emod_of_nonneg (by omega)
        have hq3 := IntWalk.i64_in (4 * (k : Int)) (by omega)
        have hq4 := IntWalk.i64_in (4 * ((k : Int) + 1)) (by omega)
        have hq5 : (Y : Int) / 2 = (k : Int) + 1 := by omega
        obtain ⟨c2, rfl⟩ : ∃ c2, c = 4 * (k + 1) + c2 := ⟨c - 4 * (k + 1), by omega⟩
        go_wp2_with fail
        rw [show 4 * (k + 1) - 4 * k = 4 from by omega]
        have hc := node_enter_r7 B p D (k + 1) false S2 rs Y me b (4 * (k + 1) + c2 - 4 * k) wr hP hl hallh.out hm0 (by omega) (by omega) hn2 hD
        rw [Nat.add_sub_cancel] at hc
        clear hcc c_g
        refine rstepL hOk.out hK hc ?_
        clear hK hP hOk hc
        intro u o3 S3 w5 hlf _ hP hk1 hK hO
        replace hD := Nat.lt_of_le_of_lt hlf hD
        replace hg := hg.keep hk1
        replace hl := hl.keep hk1
        clear hk1 hlf
        have hf := Lib.hid hO
        clear hO
        go_wp2_with fail
        refine ⟨⟨j + 1, o3, S3, by go_num, by omega, hP, hK, hg, hl, hD, hf⟩, ?_⟩
        simp [intOf]; omega
    · obtain rfl : j = l.length := by omega
      have dl : decide ((l.length : Int) < (l.length : Int)) = false := by rw [decide_eq_false_iff_not]; omega
      have hO := hOh.out
      rw [List.drop_length] at hO
      have hf : R (.returned (encU ())) wr := hO.ret hP hK
      clear hO hOh hP hK hl hg
      go_wp2_with fail
      first | exact hf | (refine bodyPost_ret (results_none rfl _ _ _) rfl ?_; exact hf)
set_option maxRecDepth 100000 in
set_option maxHeartbeats 2000000 in
theorem rclimb_r3 (B p D : Nat) (o : Bool) (S : TS) (kind : Int) (m place : Nat) (me : Int) (rs : List Reg) (A : Option Addr) (c : Nat) (w : World) (h : RAt B w p o S) (hk : kind ≠ 7) (h1 : 1 ≤ m) (h2 : m ≤ 64) (h3 : place < m) (hlen : rs.length = 3 * (2 ^ levels m - 1)) (hc1 : rs.length ≤ c) (hc2 : c ≤ 9223372036854775807)
    (hreg : rs ≠ [] → ∃ b, A = some ⟨b, 0, none⟩ ∧ RegsAt [3, 4, 5] w p b rs) (hall : ∀ r ∈ rs, r.ok ∧ me < r.n ∧ r.told me) (hm0 : 0 ≤ me) (hD : S.left < D) :
    Calls Tryz.prog 210 #[.pointer (some ⟨p, 0, none⟩), .slice A rs.length c, .int .i64 kind, .int .i64 m, .int .i64 place, .int .i64 me] w (RPost encU B p w (forP (fun x _ => nodeE 3 D rs me x) (pathL m place) ()) o S) := by
  generalize hR : RPost encU B p w (forP (fun x _ => nodeE 3 D rs me x) (pathL m place) ()) o S = R
  have hO : ROwes R encU B p w (forP (fun x _ => nodeE 3 D rs me x) (pathL m place) ()) o S := hR ▸ rowes _ _ _ _ _ _ _
  clear hR
  have hmem := fun y (hy : y ∈ pathL m place) => pathL_mem h2 h3 hy
  have hPth := fun w => rpath_r m place w h1 h2 h3
  have hEa := fun w => each_r kind w
  unfold eachK at hEa
  rw [if_neg hk] at hEa
  have hlv := lev_le h2
  obtain ⟨p1, p2⟩ := pow_le hlv
  have e : (2 : Int) ^ levels m = ((2 ^ levels m : Nat) : Int) := by rw [Int.natCast_pow]; rfl
  rw [e] at hmem
  have hll : (pathL m place).length ≤ 128 := by
    have := pathN_len (2 ^ levels m + place) (2 ^ levels m + place)
    unfold pathL
    omega
  clear e hlv
  generalize 2 ^ levels m = P at *
  generalize pathL m place = l at *
  have hk7 : (kind == 7) = false := by simp [hk]
  have hmemh := Lib.hid hmem
  have hallh := Lib.hid hall
  have hlenh := Lib.hid hlen
  have hOh := Lib.hid hO
  clear hk hmem hall hlen hO
  go_enter Tryz.func210, Tryz.ntmps210
  go_wp2_with fail
  refine (hPth _).mono ?_
  rintro e w2 ⟨v3, rfl, hrow, hx2⟩
  obtain ⟨A3, c3, rfl, hR⟩ := RowH.of_row (p := p) (ix := [3, 4, 5]) hrow (fun b hb => h.fresh hx2 hb)
  have hK := Keep.of_ext (ix := [3, 4, 5]) (B := B) hx2 h.lt h.le
  have hP := h.ext hx2
  have hreg2 : rs ≠ [] → ∃ b, A = some ⟨b, 0, none⟩ ∧ RegsAt [3, 4, 5] w2 p b rs := fun hne => by
    obtain ⟨b, e1, e2⟩ := hreg hne
    exact ⟨b, e1, e2.extL hx2 h.lt⟩
  clear hx2 h hreg hrow hPth
  go_wp2_with fail
  refine (hEa _).mono ?_
  rintro e w' ⟨rfl, rfl⟩
  clear hEa
  by_cases hl0 : l = []
  · subst hl0
    have hf : R (.returned (encU ())) w2 := hOh.out.ret hP hK
    clear hOh hmemh hR hreg2 hallh hlenh
    go_wp2_with fail
    go_loopw [14] (fun i wr => i = .int .i64 0 ∧ w2 = wr) (fun _ _ => 0)
    case atStart => exact ⟨rfl, rfl⟩
    case round =>
      obtain ⟨rfl, rfl⟩ := hrel
      go_wp2_with fail
      first | exact hf | (refine bodyPost_ret (results_none rfl _ _ _) rfl ?_; exact hf)
  obtain ⟨g, cur, rfl, hg, hcur⟩ := hR hl0
  obtain ⟨b, rfl, hl⟩ := hreg2 (by
    obtain ⟨y, l', rfl⟩ : ∃ y l', l = y :: l' := by cases l with | nil => exact absurd rfl hl0 | cons y l' => exact ⟨y, l', rfl⟩
    have h1 := hmemh.out y (List.mem_cons_self ..)
    have h2 := hlenh.out
    intro hne
    rw [hne, List.length_nil] at h2
    omega)
  have hch := Lib.hid hcur
  clear hreg2 hR hl0 hcur
  go_wp2_with fail
  go_loopw [14] (fun i wr => ∃ (j : Nat) (o2 : Bool) (S2 : TS), i = .int .i64 j ∧ j ≤ l.length ∧ RAt B wr p o2 S2 ∧ KeepR B p w wr ∧ HeldR wr p g (.cells cur 3) ∧ RegsAt [3, 4, 5] wr p b rs ∧ S2.left < D ∧ Hid (ROwes R encU B p w (forP (fun x _ => nodeE 3 D rs me x) (l.drop j) ()) o2 S2)) (fun i _ => l.length - (intOf i).toNat)
  case atStart => exact ⟨0, o, S, rfl, by omega, hP, hK, hg, hl, hD, hOh⟩
  case round =>
    clear hP hK hg hl hD hOh
    obtain ⟨j, o2, S2, rfl, hj, hP, hK, hg, hl, hD, hOh⟩ := hrel
    obtain ⟨_, _, _, _, _, hcc⟩ := hP.cell
    by_cases hjl : j < l.length
    · have dl : decide ((j : Int) < (l.length : Int)) = true := by rw [decide_eq_true_eq]; omega
      cases o2 with
      | true =>
        have hf : R (.returned (encU ())) wr := hOh.out.over () hP hK
        clear hOh hP hK hl hg
        go_wp2_with fail
        first | exact hf | (refine bodyPost_ret (results_none rfl _ _ _) rfl ?_; exact hf)
      | false =>
        obtain ⟨y, hy⟩ : ∃ y, l[j]? = some y := ⟨_, List.getElem?_eq_getElem hjl⟩
        have hym := hmemh.out y (List.mem_of_getElem? hy)
        obtain ⟨Y, rfl⟩ : ∃ Y : Nat, y = (Y : Int) := ⟨y.toNat, by omega⟩
        have c_g := hg.at_ hch.out hy
        have hO := hOh.out
        rw [List.drop_eq_getElem_cons hjl, show l[j] = (Y : Int) from by rw [List.getElem?_eq_getElem hjl] at hy; exact Option.some.inj hy] at hO
        have hOk : Hid (ROwes R encU B p w ((nodeE 3 D rs me (Y : Int)).bind fun _ => forP (fun x _ => nodeE 3 D rs me x) (l.drop (j + 1)) ()) false S2) := Lib.hid hO
        clear hO hOh hy
        obtain ⟨k, hk⟩ : ∃ k, Y / 2 = k + 1 := ⟨Y / 2 - 1, by omega⟩
        have hn2 : (k + 1) * 3 ≤ rs.length := by have := hlenh.out; omega
        have hlen9 : rs.length ≤ 1000000 := by have := hlenh.out; omega
        have hq1 : IntKind.i64.wrap ((Y : Int) / 2) = (k : Int) + 1 := by rw [IntWalk.i64_in _ (by omega)]; omega
        have hq2 : (Y : Int).tmod 2 = (Y : Int) % 2 := Int.tmod_eq_emod_of_nonneg (by omega)
        have hq3 := IntWalk.i64_in (3 * (k : Int)) (by omega)
        have hq4 := IntWalk.i64_in (3 * ((k : Int) + 1)) (by omega)
        have hq5 : (Y : Int) / 2 = (k : Int) + 1 := by omega
        obtain ⟨c2, rfl⟩ : ∃ c2, c = 3 * (k + 1) + c2 := ⟨c - 3 * (k + 1), by omega⟩
        go_wp2_with fail
        rw [show 3 * (k + 1) - 3 * k = 3 from by omega]
        have hc := node_enter_r3 B p D (k + 1) false S2 rs Y me b (3 * (k + 1) + c2 - 3 * k) wr hP hl hallh.out hm0 (by omega) (by omega) hn2 hD
        rw [Nat.add_sub_cancel] at hc
        clear hcc c_g
        refine rstepL hOk.out hK hc ?_
        clear hK hP hOk hc
        intro u o3 S3 w5 hlf _ hP hk1 hK hO
        replace hD := Nat.lt_of_le_of_lt hlf hD
        replace hg := hg.keep hk1
        replace hl := hl.keep hk1
        clear hk1 hlf
        have hf := Lib.hid hO
        clear hO
        go_wp2_with fail
        refine ⟨⟨j + 1, o3, S3, by go_num, by omega, hP, hK, hg, hl, hD, hf⟩, ?_⟩
        simp [intOf]; omega
    · obtain rfl : j = l.length := by omega
      have dl : decide ((l.length : Int) < (l.length : Int)) = false := by rw [decide_eq_false_iff_not]; omega
      have hO := hOh.out
      rw [List.drop_length] at hO
      have hf : R (.returned (encU ())) wr := hO.ret hP hK
      clear hO hOh hP hK hl hg
      go_wp2_with fail
      first | exact hf | (refine bodyPost_ret (results_none rfl _ _ _) rfl ?_; exact hf)
end Go.Proofs.YtbaajjkopdjbgaaGreat
/-
  Trees of locks of two sides: going down, by the document.
-/
namespace Go.Proofs.YtbaajjkopdjbgaaGreat
open Go.RowKit Kv
set_option maxRecDepth 100000 in
set_option maxHeartbeats 2000000 in
theorem rdown_r7 (B p : Nat) (o : Bool) (S : TS) (kind : Int) (m place : Nat) (me : Int) (rs : List Reg) (A : Option Addr) (c : Nat) (w : World) (h : RAt B w p o S) (hk : kind = 7) (h1 : 1 ≤ m) (h2 : m ≤ 64) (h3 : place < m) (hlen : rs.length = 4 * (2 ^ levels m - 1)) (hc1 : rs.length ≤ c) (hc2 : c ≤ 9223372036854775807)
    (hreg : rs ≠ [] → ∃ b, A = some ⟨b, 0, none⟩ ∧ RegsAt [3, 4, 5] w p b rs) (hall : ∀ r ∈ rs, r.ok ∧ me < r.n ∧ r.told me) (hm0 : 0 ≤ me) :
    Calls Tryz.prog 217 #[.pointer (some ⟨p, 0, none⟩), .slice A rs.length c, .int .i64 kind, .int .i64 m, .int .i64 place, .int .i64 me] w (RPost encU B p w (forP (fun x _ => nodeL 4 rs me x) (pathL m place).reverse ()) o S) := by
  generalize hR : RPost encU B p w (forP (fun x _ => nodeL 4 rs me x) (pathL m place).reverse ()) o S = R
  have hO : ROwes R encU B p w (forP (fun x _ => nodeL 4 rs me x) (pathL m place).reverse ()) o S := hR ▸ rowes _ _ _ _ _ _ _
  clear hR
  have hmem := fun y (hy : y ∈ pathL m place) => pathL_mem h2 h3 hy
  have hPth := fun w => rpath_r m place w h1 h2 h3
  have hEa := fun w => each_r kind w
  unfold eachK at hEa
  rw [if_pos hk] at hEa
  have hlv := lev_le h2
  obtain ⟨p1, p2⟩ := pow_le hlv
  have e : (2 : Int) ^ levels m = ((2 ^ levels m : Nat) : Int) := by rw [Int.natCast_pow]; rfl
  rw [e] at hmem
  have hll : (pathL m place).length ≤ 128 := by
    have := pathN_len (2 ^ levels m + place) (2 ^ levels m + place)
    unfold pathL
    omega
  clear e hlv
  generalize 2 ^ levels m = P at *
  generalize pathL m place = l at *
  have hk7 : (kind == 7) = true := by simp [hk]
  have hmemh := Lib.hid hmem
  have hallh := Lib.hid hall
  have hlenh := Lib.hid hlen
  have hOh := Lib.hid hO
  clear hk hmem hall hlen hO
  go_enter Tryz.func217, Tryz.ntmps217
  go_wp2_with fail
  refine (hPth _).mono ?_
  rintro e w2 ⟨v3, rfl, hrow, hx2⟩
  obtain ⟨A3, c3, rfl, hR⟩ := RowH.of_row (p := p) (ix := [3, 4, 5]) hrow (fun b hb => h.fresh hx2 hb)
  have hK := Keep.of_ext (ix := [3, 4, 5]) (B := B) hx2 h.lt h.le
  have hP := h.ext hx2
  have hreg2 : rs ≠ [] → ∃ b, A = some ⟨b, 0, none⟩ ∧ RegsAt [3, 4, 5] w2 p b rs := fun hne => by
    obtain ⟨b, e1, e2⟩ := hreg hne
    exact ⟨b, e1, e2.extL hx2 h.lt⟩
  clear hx2 h hreg hrow hPth
  go_wp2_with fail
  refine (hEa _).mono ?_
  rintro e w' ⟨rfl, rfl⟩
  clear hEa
  by_cases hl0 : l = []
  · subst hl0
    have hf : R (.returned (encU ())) w2 := hOh.out.ret hP hK
    clear hOh hmemh hR hreg2 hallh hlenh
    go_wp2_with fail
    go_loopw [14] (fun i wr => i = .int .i64 (-1) ∧ w2 = wr) (fun _ _ => 0)
    case atStart => exact ⟨rfl, rfl⟩
    case round =>
      obtain ⟨rfl, rfl⟩ := hrel
      go_wp2_with fail
      first | exact hf | (refine bodyPost_ret (results_none rfl _ _ _) rfl ?_; exact hf)
  obtain ⟨g, cur, rfl, hg, hcur⟩ := hR hl0
  obtain ⟨b, rfl, hl⟩ := hreg2 (by
    obtain ⟨y, l', rfl⟩ : ∃ y l', l = y :: l' := by cases l with | nil => exact absurd rfl hl0 | cons y l' => exact ⟨y, l', rfl⟩
    have h1 := hmemh.out y (List.mem_cons_self ..)
    have h2 := hlenh.out
    intro hne
    rw [hne, List.length_nil] at h2
    omega)
  have hch := Lib.hid hcur
  clear hreg2 hR hl0 hcur
  have hq0 := IntWalk.i64_in ((l.length : Int) - 1) (by omega)
  go_wp2_with fail
  go_loopw [14] (fun i wr => ∃ (j : Nat) (o2 : Bool) (S2 : TS), i = .int .i64 ((j : Int) - 1) ∧ j ≤ l.length ∧ RAt B wr p o2 S2 ∧ KeepR B p w wr ∧ HeldR wr p g (.cells cur 3) ∧ RegsAt [3, 4, 5] wr p b rs ∧ Hid (ROwes R encU B p w (forP (fun x _ => nodeL 4 rs me x) (l.take j).reverse ()) o2 S2)) (fun i _ => (intOf i + 1).toNat)
  case atStart => exact ⟨l.length, o, S, rfl, by omega, hP, hK, hg, hl, by rw [List.take_length]; exact hOh⟩
  case round =>
    clear hP hK hg hl hOh hq0
    obtain ⟨j, o2, S2, rfl, hj, hP, hK, hg, hl, hOh⟩ := hrel
    obtain ⟨_, _, _, _, _, hcc⟩ := hP.cell
    cases j with
    | succ j =>
      have hjl : j < l.length := by omega
      rw [show (((j + 1 : Nat) : Int) - 1) = (j : Int) from by omega]
      have dl : decide ((0 : Int) ≤ (j : Int)) = true := by rw [decide_eq_true_eq]; omega
      cases o2 with
      | true =>
        have hf : R (.returned (encU ())) wr := hOh.out.over () hP hK
        clear hOh hP hK hl hg
        go_wp2_with fail
        first | exact hf | (refine bodyPost_ret (results_none rfl _ _ _) rfl ?_; exact hf)
      | false =>
        obtain ⟨y, hy⟩ : ∃ y, l[j]? = some y := ⟨_, List.getElem?_eq_getElem hjl⟩
        have hym := hmemh.out y (List.mem_of_getElem? hy)
        obtain ⟨Y, rfl⟩ : ∃ Y : Nat, y = (Y : Int) := ⟨y.toNat, by omega⟩
        have c_g := hg.at_ hch.out hy
        have hO := hOh.out
        rw [List.take_add_one, hy, Option.toList_some, List.reverse_append] at hO
        have hOk : Hid (ROwes R encU B p w ((nodeL 4 rs me (Y : Int)).bind fun _ => forP (fun x _ => nodeL 4 rs me x) (l.take j).reverse ()) false S2) := Lib.hid hO
        clear hO hOh hy
        obtain ⟨k, hk⟩ : ∃ k, Y / 2 = k + 1 := ⟨Y / 2 - 1, by omega⟩
        have hn2 : (k + 1) * 4 ≤ rs.length := by have := hlenh.out; omega
        have hlen9 : rs.length ≤ 1000000 := by have := hlenh.out; omega
        have hq1 : IntKind.i64.wrap ((Y : Int) / 2) = (k : Int) + 1 := by rw [IntWalk.i64_in _ (by omega)]; omega
        have hq2 : (Y : Int).tmod 2 = (Y : Int) % 2 := Int.tmod_eq_emod_of_nonneg (by omega)
        have hq3 := IntWalk.i64_in (4 * (k : Int)) (by omega)
        have hq4 := IntWalk.i64_in (4 * ((k : Int) + 1)) (by omega)
        have hq5 : (Y : Int) / 2 = (k : Int) + 1 := by omega
        have hq6 := IntWalk.i64_in ((j : Int) - 1) (by omega)
        have hq7 := IntWalk.i64_in ((k : Int) + 1) (by omega)
        have hq8 := IntWalk.i64_in (k : Int) (by omega)
        obtain ⟨c2, rfl⟩ : ∃ c2, c = 4 * (k + 1) + c2 := ⟨c - 4 * (k + 1), by omega⟩
        have f8 : (k : Int) ≤ (k : Int) + 1 := by omega
        have f1 : (0 : Int) ≤ 4 * ((k : Int) + 1) := by omega
        have f2 : (4 : Int) * ((k : Int) + 1) ≤ 4 * ((k : Int) + 1) + (c2 : Int) := by omega
        have f3 : (0 : Int) ≤ 4 * (k : Int) := by omega
        have f4 : (4 : Int) * (k : Int) ≤ max (4 * ((k : Int) + 1)) 0 := by omega
        have f5 : ((4 : Int) * ((k : Int) + 1)).toNat = 4 * (k + 1) := by omega
        have f6 : ((4 : Int) * (k : Int)).toNat = 4 * k := by omega
        have f7 : ¬ (4 * (k + 1) + c2 = 4 * k) := by omega
        go_wp2_with fail
        have hS : ∀ w', HeldR w' p g (.cells cur 3) → w'.cell? ⟨g, j, none⟩ = some (.int .i64 (Y : Int)) := fun w' x => by
          rw [← c_g, x.cells, hg.cells]
        have hgw := hg
        refine wp_region_held_drew (S := fun w' => w'.cell? ⟨g, j, none⟩ = some (.int .i64 (Y : Int))) rfl (hS _ hg) (fun hHeld => ?_)
        replace hl := hl.extL (Ext.refl wr).drew hP.lt
        replace hP := hP.drew
        replace hK := hK.drew
        replace hg := hg.drew
        refine wpAnyH_take (i := 0) (v := ?_) rfl (by kernel_rfl) (by kernel_rfl) (by kernel_rfl) (fun _ _ _ h => h) (Or.inl ⟨by kernel_rfl, ?_⟩) (by assumption) ?_
        rotate_left
        · (intro w hSw; (try dsimp only at hSw); go_simp; try with_reducible rfl)
        try simp only [put_pack]
        refine wpAnyH_take (i := 1) (v := ?_) rfl (by kernel_rfl) (by kernel_rfl) (by kernel_rfl) (fun _ _ _ h => h) (Or.inl ⟨by kernel_rfl, ?_⟩) (by assumption) ?_
        rotate_left
        · (intro w hSw; (try dsimp only at hSw); go_simp; try with_reducible rfl)
        try simp only [put_pack]
        refine wpAnyH_take (i := 2) (v := ?_) rfl (by kernel_rfl) (by kernel_rfl) (by kernel_rfl) (fun _ _ _ h => h) (Or.inl ⟨by kernel_rfl, ?_⟩) (by assumption) ?_
        rotate_left
        · (intro w hSw; (try dsimp only at hSw); go_simp; try with_reducible rfl)
        try simp only [put_pack]
        refine wpAnyH_take (i := 3) (v := ?_) rfl (by kernel_rfl) (by kernel_rfl) (by kernel_rfl) (fun _ _ _ h => h) (Or.inl ⟨by kernel_rfl, ?_⟩) (by assumption) ?_
        rotate_left
        · (intro w hSw; (try dsimp only at hSw); go_simp; try with_reducible rfl)
        try simp only [put_pack]
        refine wpAnyH_take (i := 4) (v := ?_) rfl (by kernel_rfl) (by kernel_rfl) (by kernel_rfl) (fun _ _ _ h => h) (Or.inl ⟨by kernel_rfl, ?_⟩) (by assumption) ?_
        rotate_left
        · (intro w hSw; (try dsimp only at hSw); go_simp; try with_reducible rfl)
        try simp only [put_pack]
        refine wpAnyH_take (i := 5) (v := ?_) rfl (by kernel_rfl) (by kernel_rfl) (by kernel_rfl) (fun _ _ _ h => h) (Or.inl ⟨by kernel_rfl, ?_⟩) (by assumption) ?_
        rotate_left
        · (intro w hSw; (try dsimp only at hSw); go_simp; try with_reducible rfl)
        try simp only [put_pack]
        refine wpAnyH_take (i := 6) (v := ?_) rfl (by kernel_rfl) (by kernel_rfl) (by kernel_rfl) (fun _ _ _ h => h) (Or.inl ⟨by kernel_rfl, ?_⟩) (by assumption) ?_
        rotate_left
        · (intro w hSw; (try dsimp only at hSw); go_simp; try with_reducible rfl)
        try simp only [put_pack]
        refine wpAnyH_take (i := 7) (v := ?_) rfl (by kernel_rfl) (by kernel_rfl) (by kernel_rfl) (fun _ _ _ h => h) (Or.inl ⟨by kernel_rfl, ?_⟩) (by assumption) ?_
        rotate_left
        · (intro w hSw; (try dsimp only at hSw); go_simp; try with_reducible rfl)
        try simp only [put_pack]
        refine wpAnyH_take (i := 8) (v := ?_) rfl (by kernel_rfl) (by kernel_rfl) (by kernel_rfl) (fun _ _ _ h => h) (Or.inl ⟨by kernel_rfl, ?_⟩) (by assumption) ?_
        rotate_left
        · (intro w hSw; (try dsimp only at hSw); go_simp; try with_reducible rfl)
        try simp only [put_pack]
        refine wpAnyH_take (i := 9) (v := ?_) rfl (by kernel_rfl) (by kernel_rfl) (by kernel_rfl) (fun _ _ _ h => h) (Or.inl ⟨by kernel_rfl, ?_⟩) (by assumption) ?_
        rotate_left
        · (intro w hSw; (try dsimp only at hSw); go_simp; try with_reducible rfl)
        try simp only [put_pack]
        refine wpAnyH_take (i := 10) (v := ?_) rfl (by kernel_rfl) (by kernel_rfl) (by kernel_rfl) (fun _ _ _ h => h) (Or.inl ⟨by kernel_rfl, ?_⟩) (by assumption) ?_
        rotate_left
        · (intro w hSw; (try dsimp only at hSw); go_simp; try with_reducible rfl)
        try simp only [put_pack]
        refine wpAnyH_take (i := 11) (v := ?_) rfl (by kernel_rfl) (by kernel_rfl) (by kernel_rfl) (fun _ _ _ h => h) (Or.inl ⟨by kernel_rfl, ?_⟩) (by assumption) ?_
        rotate_left
        · (intro w hSw; (try dsimp only at hSw); go_simp; try with_reducible rfl)
        try simp only [put_pack]
        refine wpAnyH_take (i := 12) (v := ?_) rfl (by kernel_rfl) (by kernel_rfl) (by kernel_rfl) (fun _ _ _ h => h) (Or.inl ⟨by kernel_rfl, ?_⟩) (by assumption) ?_
        rotate_left
        · (intro w hSw; (try dsimp only at hSw); go_simp; try with_reducible rfl)
        try simp only [put_pack]
        refine wpAnyH_take (i := 13) (v := ?_) rfl (by kernel_rfl) (by kernel_rfl) (by kernel_rfl) (fun _ _ _ h => h) (Or.inl ⟨by kernel_rfl, ?_⟩) (by assumption) ?_
        rotate_left
        · (intro w hSw; (try dsimp only at hSw); go_simp; try with_reducible rfl)
        try simp only [put_pack]
        refine wpAnyH_take (i := 14) (v := ?_) rfl (by kernel_rfl) (by kernel_rfl) (by kernel_rfl) (fun _ _ _ h => h) (Or.inl ⟨by kernel_rfl, ?_⟩) (by assumption) ?_
        rotate_left
        · (intro w hSw; (try dsimp only at hSw); go_simp; try with_reducible rfl)
        try simp only [put_pack]
        refine wpAnyH_take (i := 15) (v := ?_) rfl (by kernel_rfl) (by kernel_rfl) (by kernel_rfl) (fun _ _ _ h => h) (Or.inl ⟨by kernel_rfl, ?_⟩) (by assumption) ?_
        rotate_left
        · (intro w hSw; (try dsimp only at hSw); go_simp; try with_reducible rfl)
        try simp only [put_pack]
        refine wpAnyH_ready (rs := [16]) (by kernel_rfl) (by simp) ?_
        refine AllReadyH.cons rfl (fun K hKK => ?_) AllReadyH.nil
        go_simp
        rw [show 4 * (k + 1) - 4 * k = 4 from by omega]
        have hc := node_leave_r7 B p (k + 1) false S2 rs Y me b (4 * (k + 1) + c2 - 4 * k) wr.drew hP hl hallh.out hm0 (by omega) (by omega) hn2
        rw [Nat.add_sub_cancel] at hc
        clear hcc
        refine rstepL hOk.out hK hc ?_
        clear hK hP hOk hc
        intro u o3 S3 w5 hlf _ hP hk1 hK hO
        replace hg := hg.keep hk1
        replace hl := hl.keep hk1
        clear hk1 hlf
        refine hKK.out _ _ (by rw [hg.cells, ← c_g]; exact (hgw.cells j).symm) (fun hHeld => ?_)
        clear hKK K
        try dsimp only
        refine wpAnyH_done (by kernel_rfl) ?_ _
        go_simp
        have hf := Lib.hid hO
        clear hO hS c_g
        go_wp2_with fail
        refine ⟨⟨j, o3, S3, by go_num, by omega, hP, hK, hg, hl, hf⟩, ?_⟩
        simp [intOf]
    | zero =>
      have dl : decide ((0 : Int) ≤ -1) = false := rfl
      have hO := hOh.out
      have hf : R (.returned (encU ())) wr := hO.ret hP hK
      clear hO hOh hP hK hl hg
      go_wp2_with fail
      first | exact hf | (refine bodyPost_ret (results_none rfl _ _ _) rfl ?_; exact hf)
set_option maxRecDepth 100000 in
set_option maxHeartbeats 2000000 in
theorem rdown_r3 (B p : Nat) (o : Bool) (S : TS) (kind : Int) (m place : Nat) (me : Int) (rs : List Reg) (A : Option Addr) (c : Nat) (w : World) (h : RAt B w p o S) (hk : kind ≠ 7) (h1 : 1 ≤ m) (h2 : m ≤ 64) (h3 : place < m) (hlen : rs.length = 3 * (2 ^ levels m - 1)) (hc1 : rs.length ≤ c) (hc2 : c ≤ 9223372036854775807)
    (hreg : rs ≠ [] → ∃ b, A = some ⟨b, 0, none⟩ ∧ RegsAt [3, 4, 5] w p b rs) (hall : ∀ r ∈ rs, r.ok ∧ me < r.n ∧ r.told me) (hm0 : 0 ≤ me) :
    Calls Tryz.prog 217 #[.pointer (some ⟨p, 0, none⟩), .slice A rs.length c, .int .i64 kind, .int .i64 m, .int .i64 place, .int .i64 me] w (RPost encU B p w (forP (fun x _ => nodeL 3 rs me x) (pathL m place).reverse ()) o S) := by
  generalize hR : RPost encU B p w (forP (fun x _ => nodeL 3 rs me x) (pathL m place).reverse ()) o S = R
  have hO : ROwes R encU B p w (forP (fun x _ => nodeL 3 rs me x) (pathL m place).reverse ()) o S := hR ▸ rowes _ _ _ _ _ _ _
  clear hR
  have hmem := fun y (hy : y ∈ pathL m place) => pathL_mem h2 h3 hy
  have hPth := fun w => rpath_r m place w h1 h2 h3
  have hEa := fun w => each_r kind w
  unfold eachK at hEa
  rw [if_neg hk] at hEa
  have hlv := lev_le h2
  obtain ⟨p1, p2⟩ := pow_le hlv
  have e : (2 : Int) ^ levels m = ((2 ^ levels m : Nat) : Int) := by rw [Int.natCast_pow]; rfl
  rw [e] at hmem
  have hll : (pathL m place).length ≤ 128 := by
    have := pathN_len (2 ^ levels m + place) (2 ^ levels m + place)
    unfold pathL
    omega
  clear e hlv
  generalize 2 ^ levels m = P at *
  generalize pathL m place = l at *
  have hk7 : (kind == 7) = false := by simp [hk]
  have hmemh := Lib.hid hmem
  have hallh := Lib.hid hall
  have hlenh := Lib.hid hlen
  have hOh := Lib.hid hO
  clear hk hmem hall hlen hO
  go_enter Tryz.func217, Tryz.ntmps217
  go_wp2_with fail
  refine (hPth _).mono ?_
  rintro e w2 ⟨v3, rfl, hrow, hx2⟩
  obtain ⟨A3, c3, rfl, hR⟩ := RowH.of_row (p := p) (ix := [3, 4, 5]) hrow (fun b hb => h.fresh hx2 hb)
  have hK := Keep.of_ext (ix := [3, 4, 5]) (B := B) hx2 h.lt h.le
  have hP := h.ext hx2
  have hreg2 : rs ≠ [] → ∃ b, A = some ⟨b, 0, none⟩ ∧ RegsAt [3, 4, 5] w2 p b rs := fun hne => by
    obtain ⟨b, e1, e2⟩ := hreg hne
    exact ⟨b, e1, e2.extL hx2 h.lt⟩
  clear hx2 h hreg hrow hPth
  go_wp2_with fail
  refine (hEa _).mono ?_
  rintro e w' ⟨rfl, rfl⟩
  clear hEa
  by_cases hl0 : l = []
  · subst hl0
    have hf : R (.returned (encU ())) w2 := hOh.out.ret hP hK
    clear hOh hmemh hR hreg2 hallh hlenh
    go_wp2_with fail
    go_loopw [14] (fun i wr => i = .int .i64 (-1) ∧ w2 = wr) (fun _ _ => 0)
    case atStart => exact ⟨rfl, rfl⟩
    case round =>
      obtain ⟨rfl, rfl⟩ := hrel
      go_wp2_with fail
      first | exact hf | (refine bodyPost_ret (results_none rfl _ _ _) rfl ?_; exact hf)
  obtain ⟨g, cur, rfl, hg, hcur⟩ := hR hl0
  obtain ⟨b, rfl, hl⟩ := hreg2 (by
    obtain ⟨y, l', rfl⟩ : ∃ y l', l = y :: l' := by cases l with | nil => exact absurd rfl hl0 | cons y l' => exact ⟨y, l', rfl⟩
    have h1 := hmemh.out y (List.mem_cons_self ..)
    have h2 := hlenh.out
    intro hne
    rw [hne, List.length_nil] at h2
    omega)
  have hch := Lib.hid hcur
  clear hreg2 hR hl0 hcur
  have hq0 := IntWalk.i64_in ((l.length : Int) - 1) (by omega)
  go_wp2_with fail
  go_loopw [14] (fun i wr => ∃ (j : Nat) (o2 : Bool) (S2 : TS), i = .int .i64 ((j : Int) - 1) ∧ j ≤ l.length ∧ RAt B wr p o2 S2 ∧ KeepR B p w wr ∧ HeldR wr p g (.cells cur 3) ∧ RegsAt [3, 4, 5] wr p b rs ∧ Hid (ROwes R encU B p w (forP (fun x _ => nodeL 3 rs me x) (l.take j).reverse ()) o2 S2)) (fun i _ => (intOf i + 1).toNat)
  case atStart => exact ⟨l.length, o, S, rfl, by omega, hP, hK, hg, hl, by rw [List.take_length]; exact hOh⟩
  case round =>
    clear hP hK hg hl hOh hq0
    obtain ⟨j, o2, S2, rfl, hj, hP, hK, hg, hl, hOh⟩ := hrel
    obtain ⟨_, _, _, _, _, hcc⟩ := hP.cell
    cases j with
    | succ j =>
      have hjl : j < l.length := by omega
      rw [show (((j + 1 : Nat) : Int) - 1) = (j : Int) from by omega]
      have dl : decide ((0 : Int) ≤ (j : Int)) = true := by rw [decide_eq_true_eq]; omega
      cases o2 with
      | true =>
        have hf : R (.returned (encU ())) wr := hOh.out.over () hP hK
        clear hOh hP hK hl hg
        go_wp2_with fail
        first | exact hf | (refine bodyPost_ret (results_none rfl _ _ _) rfl ?_; exact hf)
      | false =>
        obtain ⟨y, hy⟩ : ∃ y, l[j]? = some y := ⟨_, List.getElem?_eq_getElem hjl⟩
        have hym := hmemh.out y (List.mem_of_getElem? hy)
        obtain ⟨Y, rfl⟩ : ∃ Y : Nat, y = (Y : Int) := ⟨y.toNat, by omega⟩
        have c_g := hg.at_ hch.out hy
        have hO := hOh.out
        rw [List.take_add_one, hy, Option.toList_some, List.reverse_append] at hO
        have hOk : Hid (ROwes R encU B p w ((nodeL 3 rs me (Y : Int)).bind fun _ => forP (fun x _ => nodeL 3 rs me x) (l.take j).reverse ()) false S2) := Lib.hid hO
        clear hO hOh hy
        obtain ⟨k, hk⟩ : ∃ k, Y / 2 = k + 1 := ⟨Y / 2 - 1, by omega⟩
        have hn2 : (k + 1) * 3 ≤ rs.length := by have := hlenh.out; omega
        have hlen9 : rs.length ≤ 1000000 := by have := hlenh.out; omega
        have hq1 : IntKind.i64.wrap ((Y : Int) / 2) = (k : Int) + 1 := by rw [IntWalk.i64_in _ (by omega)]; omega
        have hq2 : (Y : Int).tmod 2 = (Y : Int) % 2 := Int.tmod_eq_emod_of_nonneg (by omega)
        have hq3 := IntWalk.i64_in (3 * (k : Int)) (by omega)
        have hq4 := IntWalk.i64_in (3 * ((k : Int) + 1)) (by omega)
        have hq5 : (Y : Int) / 2 = (k : Int) + 1 := by omega
        have hq6 := IntWalk.i64_in ((j : Int) - 1) (by omega)
        have hq7 := IntWalk.i64_in ((k : Int) + 1) (by omega)
        have hq8 := IntWalk.i64_in (k : Int) (by omega)
        obtain ⟨c2, rfl⟩ : ∃ c2, c = 3 * (k + 1) + c2 := ⟨c - 3 * (k + 1), by omega⟩
        have f8 : (k : Int) ≤ (k : Int) + 1 := by omega
        have f1 : (0 : Int) ≤ 3 * ((k : Int) + 1) := by omega
        have f2 : (3 : Int) * ((k : Int) + 1) ≤ 3 * ((k : Int) + 1) + (c2 : Int) := by omega
        have f3 : (0 : Int) ≤ 3 * (k : Int) := by omega
        have f4 : (3 : Int) * (k : Int) ≤ max (3 * ((k : Int) + 1)) 0 := by omega
        have f5 : ((3 : Int) * ((k : Int) + 1)).toNat = 3 * (k + 1) := by omega
        have f6 : ((3 : Int) * (k : Int)).toNat = 3 * k := by omega
        have f7 : ¬ (3 * (k + 1) + c2 = 3 * k) := by omega
        go_wp2_with fail
        have hS : ∀ w', HeldR w' p g (.cells cur 3) → w'.cell? ⟨g, j, none⟩ = some (.int .i64 (Y : Int)) := fun w' x => by
          rw [← c_g, x.cells, hg.cells]
        have hgw := hg
        refine wp_region_held_drew (S := fun w' => w'.cell? ⟨g, j, none⟩ = some (.int .i64 (Y : Int))) rfl (hS _ hg) (fun hHeld => ?_)
        replace hl := hl.extL (Ext.refl wr).drew hP.lt
        replace hP := hP.drew
        replace hK := hK.drew
        replace hg := hg.drew
        refine wpAnyH_take (i := 0) (v := ?_) rfl (by kernel_rfl) (by kernel_rfl) (by kernel_rfl) (fun _ _ _ h => h) (Or.inl ⟨by kernel_rfl, ?_⟩) (by assumption) ?_
        rotate_left
        · (intro w hSw; (try dsimp only at hSw); go_simp; try with_reducible rfl)
        try simp only [put_pack]
        refine wpAnyH_take (i := 1) (v := ?_) rfl (by kernel_rfl) (by kernel_rfl) (by kernel_rfl) (fun _ _ _ h => h) (Or.inl ⟨by kernel_rfl, ?_⟩) (by assumption) ?_
        rotate_left
        · (intro w hSw; (try dsimp only at hSw); go_simp; try with_reducible rfl)
        try simp only [put_pack]
        refine wpAnyH_take (i := 2) (v := ?_) rfl (by kernel_rfl) (by kernel_rfl) (by kernel_rfl) (fun _ _ _ h => h) (Or.inl ⟨by kernel_rfl, ?_⟩) (by assumption) ?_
        rotate_left
        · (intro w hSw; (try dsimp only at hSw); go_simp; try with_reducible rfl)
        try simp only [put_pack]
        refine wpAnyH_take (i := 3) (v := ?_) rfl (by kernel_rfl) (by kernel_rfl) (by kernel_rfl) (fun _ _ _ h => h) (Or.inl ⟨by kernel_rfl, ?_⟩) (by assumption) ?_
        rotate_left
        · (intro w hSw; (try dsimp only at hSw); go_simp; try with_reducible rfl)
        try simp only [put_pack]
        refine wpAnyH_take (i := 4) (v := ?_) rfl (by kernel_rfl) (by kernel_rfl) (by kernel_rfl) (fun _ _ _ h => h) (Or.inl ⟨by kernel_rfl, ?_⟩) (by assumption) ?_
        rotate_left
        · (intro w hSw; (try dsimp only at hSw); go_simp; try with_reducible rfl)
        try simp only [put_pack]
        refine wpAnyH_take (i := 5) (v := ?_) rfl (by kernel_rfl) (by kernel_rfl) (by kernel_rfl) (fun _ _ _ h => h) (Or.inl ⟨by kernel_rfl, ?_⟩) (by assumption) ?_
        rotate_left
        · (intro w hSw; (try dsimp only at hSw); go_simp; try with_reducible rfl)
        try simp only [put_pack]
        refine wpAnyH_take (i := 6) (v := ?_) rfl (by kernel_rfl) (by kernel_rfl) (by kernel_rfl) (fun _ _ _ h => h) (Or.inl ⟨by kernel_rfl, ?_⟩) (by assumption) ?_
        rotate_left
        · (intro w hSw; (try dsimp only at hSw); go_simp; try with_reducible rfl)
        try simp only [put_pack]
        refine wpAnyH_take (i := 7) (v := ?_) rfl (by kernel_rfl) (by kernel_rfl) (by kernel_rfl) (fun _ _ _ h => h) (Or.inl ⟨by kernel_rfl, ?_⟩) (by assumption) ?_
        rotate_left
        · (intro w hSw; (try dsimp only at hSw); go_simp; try with_reducible rfl)
        try simp only [put_pack]
        refine wpAnyH_take (i := 8) (v := ?_) rfl (by kernel_rfl) (by kernel_rfl) (by kernel_rfl) (fun _ _ _ h => h) (Or.inl ⟨by kernel_rfl, ?_⟩) (by assumption) ?_
        rotate_left
        · (intro w hSw; (try dsimp only at hSw); go_simp; try with_reducible rfl)
        try simp only [put_pack]
        refine wpAnyH_take (i := 9) (v := ?_) rfl (by kernel_rfl) (by kernel_rfl) (by kernel_rfl) (fun _ _ _ h => h) (Or.inl ⟨by kernel_rfl, ?_⟩) (by assumption) ?_
        rotate_left
        · (intro w hSw; (try dsimp only at hSw); go_simp; try with_reducible rfl)
        try simp only [put_pack]
        refine wpAnyH_take (i := 10) (v := ?_) rfl (by kernel_rfl) (by kernel_rfl) (by kernel_rfl) (fun _ _ _ h => h) (Or.inl ⟨by kernel_rfl, ?_⟩) (by assumption) ?_
        rotate_left
        · (intro w hSw; (try dsimp only at hSw); go_simp; try with_reducible rfl)
        try simp only [put_pack]
        refine wpAnyH_take (i := 11) (v := ?_) rfl (by kernel_rfl) (by kernel_rfl) (by kernel_rfl) (fun _ _ _ h => h) (Or.inl ⟨by kernel_rfl, ?_⟩) (by assumption) ?_
        rotate_left
        · (intro w hSw; (try dsimp only at hSw); go_simp; try with_reducible rfl)
        try simp only [put_pack]
        refine wpAnyH_take (i := 12) (v := ?_) rfl (by kernel_rfl) (by kernel_rfl) (by kernel_rfl) (fun _ _ _ h => h) (Or.inl ⟨by kernel_rfl, ?_⟩) (by assumption) ?_
        rotate_left
        · (intro w hSw; (try dsimp only at hSw); go_simp; try with_reducible rfl)
        try simp only [put_pack]
        refine wpAnyH_take (i := 13) (v := ?_) rfl (by kernel_rfl) (by kernel_rfl) (by kernel_rfl) (fun _ _ _ h => h) (Or.inl ⟨by kernel_rfl, ?_⟩) (by assumption) ?_
        rotate_left
        · (intro w hSw; (try dsimp only at hSw); go_simp; try with_reducible rfl)
        try simp only [put_pack]
        refine wpAnyH_take (i := 14) (v := ?_) rfl (by kernel_rfl) (by kernel_rfl) (by kernel_rfl) (fun _ _ _ h => h) (Or.inl ⟨by kernel_rfl, ?_⟩) (by assumption) ?_
        rotate_left
        · (intro w hSw; (try dsimp only at hSw); go_simp; try with_reducible rfl)
        try simp only [put_pack]
        refine wpAnyH_take (i := 15) (v := ?_) rfl (by kernel_rfl) (by kernel_rfl) (by kernel_rfl) (fun _ _ _ h => h) (Or.inl ⟨by kernel_rfl, ?_⟩) (by assumption) ?_
        rotate_left
        · (intro w hSw; (try dsimp only at hSw); go_simp; try with_reducible rfl)
        try simp only [put_pack]
        refine wpAnyH_ready (rs := [16]) (by kernel_rfl) (by simp) ?_
        refine AllReadyH.cons rfl (fun K hKK => ?_) AllReadyH.nil
        go_simp
        rw [show 3 * (k + 1) - 3 * k = 3 from by omega]
        have hc := node_leave_r3 B p (k + 1) false S2 rs Y me b (3 * (k + 1) + c2 - 3 * k) wr.drew hP hl hallh.out hm0 (by omega) (by omega) hn2
        rw [Nat.add_sub_cancel] at hc
        clear hcc
        refine rstepL hOk.out hK hc ?_
        clear hK hP hOk hc
        intro u o3 S3 w5 hlf _ hP hk1 hK hO
        replace hg := hg.keep hk1
        replace hl := hl.keep hk1
        clear hk1 hlf
        refine hKK.out _ _ (by rw [hg.cells, ← c_g]; exact (hgw.cells j).symm) (fun hHeld => ?_)
        clear hKK K
        try dsimp only
        refine wpAnyH_done (by kernel_rfl) ?_ _
        go_simp
        have hf := Lib.hid hO
        clear hO hS c_g
        go_wp2_with fail
        refine ⟨⟨j, o3, S3, by go_num, by omega, hP, hK, hg, hl, hf⟩, ?_⟩
        simp [intOf]
    | zero =>
      have dl : decide ((0 : Int) ≤ -1) = false := rfl
      have hO := hOh.out
      have hf : R (.returned (encU ())) wr := hO.ret hP hK
      clear hO hOh hP hK hl hg
      go_wp2_with fail
      first | exact hf | (refine bodyPost_ret (results_none rfl _ _ _) rfl ?_; exact hf)
end Go.Proofs.YtbaajjkopdjbgaaGreat
/-
  Trees of locks of two sides: laid, acquired and released, by the document.
-/
namespace Go.Proofs.YtbaajjkopdjbgaaGreat
open Go.RowKit Kv
theorem rclimb_r (B p D : Nat) (o : Bool) (S : TS) (kind : Int) (m place : Nat) (me : Int) (rs : List Reg) (A : Option Addr) (c : Nat) (w : World) (h : RAt B w p o S) (h1 : 1 ≤ m) (h2 : m ≤ 64) (h3 : place < m) (hlen : rs.length = eachK kind * (2 ^ levels m - 1)) (hc1 : rs.length ≤ c) (hc2 : c ≤ 9223372036854775807)
    (hreg : rs ≠ [] → ∃ b, A = some ⟨b, 0, none⟩ ∧ RegsAt [3, 4, 5] w p b rs) (hall : ∀ r ∈ rs, r.ok ∧ me < r.n ∧ r.told me) (hm0 : 0 ≤ me) (hD : S.left < D) :
    Calls Tryz.prog 210 #[.pointer (some ⟨p, 0, none⟩), .slice A rs.length c, .int .i64 kind, .int .i64 m, .int .i64 place, .int .i64 me] w (RPost encU B p w (forP (fun x _ => nodeE (eachK kind) D rs me x) (pathL m place) ()) o S) := by
  unfold eachK at *
  by_cases hk : kind = 7
  · rw [if_pos hk] at *
    exact rclimb_r7 B p D o S kind m place me rs A c w h hk h1 h2 h3 hlen hc1 hc2 hreg hall hm0 hD
  · rw [if_neg hk] at *
    exact rclimb_r3 B p D o S kind m place me rs A c w h hk h1 h2 h3 hlen hc1 hc2 hreg hall hm0 hD
theorem rdown_r (B p : Nat) (o : Bool) (S : TS) (kind : Int) (m place : Nat) (me : Int) (rs : List Reg) (A : Option Addr) (c : Nat) (w : World) (h : RAt B w p o S) (h1 : 1 ≤ m) (h2 : m ≤ 64) (h3 : place < m) (hlen : rs.length = eachK kind * (2 ^ levels m - 1)) (hc1 : rs.length ≤ c) (hc2 : c ≤ 9223372036854775807)
    (hreg : rs ≠ [] → ∃ b, A = some ⟨b, 0, none⟩ ∧ RegsAt [3, 4, 5] w p b rs) (hall : ∀ r ∈ rs, r.ok ∧ me < r.n ∧ r.told me) (hm0 : 0 ≤ me) :
    Calls Tryz.prog 217 #[.pointer (some ⟨p, 0, none⟩), .slice A rs.length c, .int .i64 kind, .int .i64 m, .int .i64 place, .int .i64 me] w (RPost encU B p w (forP (fun x _ => nodeL (eachK kind) rs me x) (pathL m place).reverse ()) o S) := by
  unfold eachK at *
  by_cases hk : kind = 7
  · rw [if_pos hk] at *
    exact rdown_r7 B p o S kind m place me rs A c w h hk h1 h2 h3 hlen hc1 hc2 hreg hall hm0
  · rw [if_neg hk] at *
    exact rdown_r3 B p o S kind m place me rs A c w h hk h1 h2 h3 hlen hc1 hc2 hreg hall hm0
set_option maxRecDepth 100000 in
theorem treeregs_r (alg mode base loc room : Int) (N : Nat) (rs : List Reg) (w : World) (_h1 : 1 ≤ N) (h2 : N ≤ 64) (hl : layM (treeWants (eachK alg) N) N mode base loc = some rs) :
    Calls Tryz.prog 211 #[.agg #[.int .i64 alg, .int .i64 N, .int .i64 mode, .int .i64 base, .int .i64 loc, .int .i64 room]] w fun e w' => ∃ A c, e = .returned (.slice A rs.length c) ∧ (rs ≠ [] → ∃ b, A = some ⟨b, 0, none⟩ ∧ w.heap.size ≤ b ∧ b < w'.heap.size ∧ (∀ (i : Nat) u, (rs.flatMap regVals)[i]? = some u → w'.cell? ⟨b, i, none⟩ = some u)) ∧ rs.length ≤ c ∧ c ≤ 9223372036854775807 ∧ Ext w w' := by
  have hW := fun w => rtwants_r alg N w h2
  have hle := (pow_le (lev_le h2)).2
  have hE := each_le alg
  have hwl : (treeWants (eachK alg) N).length ≤ 1000 := by
    unfold treeWants
    rw [List.length_replicate]
    have := Nat.mul_le_mul hE.2 (show 2 ^ levels (N : Int) - 1 ≤ 63 by omega)
    omega
  generalize treeWants (eachK alg) N = lw at *
  replace hl := Lib.hid hl
  clear hle hE
  have hX := Ext.refl w
  have b1 := Blk.new w (.cells #[.int .i64 alg, .int .i64 N, .int .i64 mode, .int .i64 base, .int .i64 loc, .int .i64 room] 23)
  replace hX := hX.alloc (.cells #[.int .i64 alg, .int .i64 N, .int .i64 mode, .int .i64 base, .int .i64 loc, .int .i64 room] 23)
  have c_b1 := b1.cells
  go_enter Tryz.func211, Tryz.ntmps211
  go_wp2_with fail
  generalize w.alloc _ = W at *
  have hXW := hX
  clear hX c_b1
  have hX := (Ext.refl W).drew
  have hS : ∀ w', Ext W w' → (∀ i, w'.cell? ⟨w.heap.size, i, none⟩ = (#[.int .i64 alg, .int .i64 N, .int .i64 mode, .int .i64 base, .int .i64 loc, .int .i64 room] : Array Value)[i]?) := fun w' hx => (b1.ext hx).cells
  go_region_held2 (fun w' => ∀ i, w'.cell? ⟨w.heap.size, i, none⟩ = (#[.int .i64 alg, .int .i64 N, .int .i64 mode, .int .i64 base, .int .i64 loc, .int .i64 room] : Array Value)[i]?) (exact hS _ hX)
    (first
      | (go_at_call 180
         refine (hW _).mono ?_
         rintro e w2 ⟨v2, rfl, hw2, hx⟩
         replace hX := hX.trans hx
         have hz2 := hX.size
         clear hx)
      | (go_at_call 176
         refine (layr_some hl.out _ (hw2.ext (Ext.refl _)) hwl).mono ?_
         rintro e w3 ⟨v3, rfl, hr3, hx⟩
         replace hX := hX.trans hx
         clear hx))
  rename_i hh
  clear hh
  obtain ⟨⟨A, c, rfl, q1, q2, hV⟩, hown⟩ := hr3
  have hR : Hid (rs ≠ [] → ∃ b, A = some ⟨b, 0, none⟩ ∧ w.heap.size ≤ b ∧ b < w3.heap.size ∧ (∀ (i : Nat) u, (rs.flatMap regVals)[i]? = some u → w3.cell? ⟨b, i, none⟩ = some u)) := Lib.hid fun hne => by
    obtain ⟨b, rfl, hb, hcells⟩ := hV (by cases rs with | nil => exact absurd rfl hne | cons r l => simp [regVals])
    exact ⟨b, rfl, Nat.le_trans (Nat.le_trans hXW.size hz2) (hown b rfl), hb, hcells⟩
  have hfh := Lib.hid (hXW.trans hX)
  clear hV hown hz2
  go_wp2_with fail
  go_ret
  exact ⟨_, _, rfl, hR.out, q1, q2, hfh.out⟩
set_option maxRecDepth 100000 in
set_option maxHeartbeats 1000000 in
theorem treeacq_r (B p N D : Nat) (o : Bool) (S : TS) (alg mode base loc room : Int) (m : Nat) (rs : List Reg) (w : World) (h : RAt B w p o S) (h1 : 1 ≤ N) (h2 : N ≤ 64) (hm1 : m < N) (hl : layM (treeWants (eachK alg) N) N mode base loc = some rs)
    (hall : ∀ r ∈ rs, r.ok ∧ (m : Int) < r.n ∧ r.told m) (hD : S.left < D) (hn0 : S.nts.length ≤ 100000) :
    Calls Tryz.prog 113 #[.pointer (some ⟨p, 0, none⟩), .agg #[.int .i64 alg, .int .i64 N, .int .i64 mode, .int .i64 base, .int .i64 loc, .int .i64 room], .int .i64 m] w (RPost encI B p w (treeA (eachK alg) D rs N m) o S) := by
  have hlen := layM_len hl
  unfold treeWants at hlen
  rw [List.length_replicate] at hlen
  generalize hR : RPost encI B p w (treeA (eachK alg) D rs N m) o S = R
  have hO : ROwes R encI B p w (treeA (eachK alg) D rs N m) o S := hR ▸ rowes _ _ _ _ _ _ _
  clear hR
  have hK := Keep.refl [3, 4, 5] B p w
  have hP := h
  have b1 := hP.held (.cells #[.int .i64 alg, .int .i64 N, .int .i64 mode, .int .i64 base, .int .i64 loc, .int .i64 room] 23)
  replace hK := hK.trans (Keep.alloc (.cells #[.int .i64 alg, .int .i64 N, .int .i64 mode, .int .i64 base, .int .i64 loc, .int .i64 room] 23) hP.lt hP.le)
  replace hP := hP.alloc (.cells #[.int .i64 alg, .int .i64 N, .int .i64 mode, .int .i64 base, .int .i64 loc, .int .i64 room] 23)
  have c_b1 := b1.cells
  clear h
  unfold treeA at hO
  have hlh := Lib.hid hl
  have hlenh := Lib.hid hlen
  have hallh := Lib.hid hall
  clear hl hlen hall
  go_enter Tryz.func113, Tryz.ntmps113
  go_wp2_with fail
  generalize w.heap.size = z at *
  refine rstepN (notes_nt 1) hO hK (note_r B p o S 1 _ hP (by unfold maxAns; omega)) ?_
  clear hO hK hP c_b1
  intro u o1 S1 w2 hlf _ hnn hP hk hK hO
  replace hD := Nat.lt_of_le_of_lt hlf hD
  replace hn0 : S1.nts.length ≤ 100001 := by omega
  replace b1 := b1.keep hk
  clear hk hlf
  have hOh := Lib.hid hO
  clear hO
  go_wp2_with fail
  have hX := (Ext.refl w2).drew
  have hS : ∀ w', HeldR w' p z (.cells #[.int .i64 alg, .int .i64 N, .int .i64 mode, .int .i64 base, .int .i64 loc, .int .i64 room] 23) → (∀ i, w'.cell? ⟨z, i, none⟩ = (#[.int .i64 alg, .int .i64 N, .int .i64 mode, .int .i64 base, .int .i64 loc, .int .i64 room] : Array Value)[i]?) := fun w' x => x.cells
  refine wp_region_held_drew (S := fun w' => ∀ i, w'.cell? ⟨z, i, none⟩ = (#[.int .i64 alg, .int .i64 N, .int .i64 mode, .int .i64 base, .int .i64 loc, .int .i64 room] : Array Value)[i]?) rfl (hS _ b1) (fun hHeld => ?_)
  replace hP := hP.drew
  replace hK := hK.drew
  replace b1 := b1.drew
  refine wpAnyH_take (i := 0) (v := ?_) rfl (by kernel_rfl) (by kernel_rfl) (by kernel_rfl) (fun _ _ _ h => h) (Or.inl ⟨by kernel_rfl, ?_⟩) (by assumption) ?_
  rotate_left
  · (intro w hSw; (try dsimp only at hSw); go_simp; try with_reducible rfl)
  try simp only [put_pack]
  refine wpAnyH_take (i := 1) (v := ?_) rfl (by kernel_rfl) (by kernel_rfl) (by kernel_rfl) (fun _ _ _ h => h) (Or.inl ⟨by kernel_rfl, ?_⟩) (by assumption) ?_
  rotate_left
  · (intro w hSw; (try dsimp only at hSw); go_simp; try with_reducible rfl)
  try simp only [put_pack]
  refine wpAnyH_take (i := 3) (v := ?_) rfl (by kernel_rfl) (by kernel_rfl) (by kernel_rfl) (fun _ _ _ h => h) (Or.inl ⟨by kernel_rfl, ?_⟩) (by assumption) ?_
  rotate_left
  · (intro w hSw; (try dsimp only at hSw); go_simp; try with_reducible rfl)
  try simp only [put_pack]
  refine wpAnyH_take (i := 4) (v := ?_) rfl (by kernel_rfl) (by kernel_rfl) (by kernel_rfl) (fun _ _ _ h => h) (Or.inl ⟨by kernel_rfl, ?_⟩) (by assumption) ?_
  rotate_left
  · (intro w hSw; (try dsimp only at hSw); go_simp; try with_reducible rfl)
  try simp only [put_pack]
  refine wpAnyH_take (i := 5) (v := ?_) rfl (by kernel_rfl) (by kernel_rfl) (by kernel_rfl) (fun _ _ _ h => h) (Or.inl ⟨by kernel_rfl, ?_⟩) (by assumption) ?_
  rotate_left
  · (intro w hSw; (try dsimp only at hSw); go_simp; try with_reducible rfl)
  try simp only [put_pack]
  refine wpAnyH_take (i := 6) (v := ?_) rfl (by kernel_rfl) (by kernel_rfl) (by kernel_rfl) (fun _ _ _ h => h) (Or.inl ⟨by kernel_rfl, ?_⟩) (by assumption) ?_
  rotate_left
  · (intro w hSw; (try dsimp only at hSw); go_simp; try with_reducible rfl)
  try simp only [put_pack]
  refine wpAnyH_take (i := 7) (v := ?_) rfl (by kernel_rfl) (by kernel_rfl) (by kernel_rfl) (fun _ _ _ h => h) (Or.inl ⟨by kernel_rfl, ?_⟩) (by assumption) ?_
  rotate_left
  · (intro w hSw; (try dsimp only at hSw); go_simp; try with_reducible rfl)
  try simp only [put_pack]
  refine wpAnyH_take (i := 8) (v := ?_) rfl (by kernel_rfl) (by kernel_rfl) (by kernel_rfl) (fun _ _ _ h => h) (Or.inl ⟨by kernel_rfl, ?_⟩) (by assumption) ?_
  rotate_left
  · (intro w hSw; (try dsimp only at hSw); go_simp; try with_reducible rfl)
  try simp only [put_pack]
  refine wpAnyH_ready (rs := [2]) (by kernel_rfl) (by simp) ?_
  refine AllReadyH.cons rfl (fun K hKK => ?_) AllReadyH.nil
  go_simp
  refine (treeregs_r alg mode base loc room N rs _ h1 h2 hlh.out).mono ?_
  rintro e w3 ⟨A, c, rfl, hR, q1, q2, hx⟩
  have hreg : rs ≠ [] → ∃ b, A = some ⟨b, 0, none⟩ ∧ RegsAt [3, 4, 5] w3 p b rs := fun hne => by
    obtain ⟨b, e1, hge, hb, hcells⟩ := hR hne
    exact ⟨b, e1, hb, hP.fresh hx hge, hcells⟩
  replace hK := hK.trans (Keep.of_ext hx hP.lt hP.le)
  replace b1 := b1.ext hx hP.lt
  replace hP := hP.ext hx
  clear hx hR hX
  refine hKK.out _ _ (hS _ b1) (fun hHeld => ?_)
  clear hKK K
  try dsimp only
  refine wpAnyH_ready (rs := [9]) (by kernel_rfl) (by simp) ?_
  refine AllReadyH.cons rfl (fun K hKK => ?_) AllReadyH.nil
  go_simp
  refine rstepN (notes_forP (fun _ _ => notes_nodeE _ _ _ _ _) _ _) hOh.out hK (rclimb_r B p D o1 S1 alg N m m rs A c _ hP h1 h2 hm1 hlenh.out q1 q2 hreg hallh.out (by omega) hD) ?_
  clear hOh hK hP
  intro u o2 S2 w4 _ _ hnn hP hk hK hO
  replace hn0 : S2.nts.length ≤ 100001 := by omega
  replace b1 := b1.keep hk
  clear hk hreg
  refine hKK.out _ _ (hS _ b1) (fun hHeld => ?_)
  clear hKK K
  try dsimp only
  refine wpAnyH_done (by kernel_rfl) ?_ _
  go_simp
  have hOh := Lib.hid hO
  clear hO hS
  go_wp2_with fail
  refine rstepN (notes_nt 3) hOh.out hK (note_r B p o2 S2 3 _ hP (by unfold maxAns; omega)) ?_
  clear hOh hK hP
  intro u o3 S3 w5 _ _ _ hP _ hK hO
  have hf : R (.returned (encI 0)) w5 := hO.ret hP hK
  clear hO hP hK
  go_wp2_with fail
  first | exact hf | (go_ret; exact hf)
set_option maxRecDepth 100000 in
set_option maxHeartbeats 1000000 in
theorem treerel_r (B p N : Nat) (o : Bool) (S : TS) (alg mode base loc room : Int) (m : Nat) (rs : List Reg) (w : World) (h : RAt B w p o S) (h1 : 1 ≤ N) (h2 : N ≤ 64) (hm1 : m < N) (hl : layM (treeWants (eachK alg) N) N mode base loc = some rs)
    (hall : ∀ r ∈ rs, r.ok ∧ (m : Int) < r.n ∧ r.told m) (hn0 : S.nts.length ≤ 100000) :
    Calls Tryz.prog 120 #[.pointer (some ⟨p, 0, none⟩), .agg #[.int .i64 alg, .int .i64 N, .int .i64 mode, .int .i64 base, .int .i64 loc, .int .i64 room], .int .i64 m] w (RPost encU B p w (treeR (eachK alg) rs N m) o S) := by
  have hlen := layM_len hl
  unfold treeWants at hlen
  rw [List.length_replicate] at hlen
  generalize hR : RPost encU B p w (treeR (eachK alg) rs N m) o S = R
  have hO : ROwes R encU B p w (treeR (eachK alg) rs N m) o S := hR ▸ rowes _ _ _ _ _ _ _
  clear hR
  have hK := Keep.refl [3, 4, 5] B p w
  have hP := h
  have b1 := hP.held (.cells #[.int .i64 alg, .int .i64 N, .int .i64 mode, .int .i64 base, .int .i64 loc, .int .i64 room] 23)
  replace hK := hK.trans (Keep.alloc (.cells #[.int .i64 alg, .int .i64 N, .int .i64 mode, .int .i64 base, .int .i64 loc, .int .i64 room] 23) hP.lt hP.le)
  replace hP := hP.alloc (.cells #[.int .i64 alg, .int .i64 N, .int .i64 mode, .int .i64 base, .int .i64 loc, .int .i64 room] 23)
  have c_b1 := b1.cells
  clear h
  unfold treeR at hO
  have hlh := Lib.hid hl
  have hlenh := Lib.hid hlen
  have hallh := Lib.hid hall
  clear hl hlen hall
  go_enter Tryz.func120, Tryz.ntmps120
  go_wp2_with fail
  generalize w.heap.size = z at *
  refine rstepN (notes_nt 5) hO hK (note_r B p o S 5 _ hP (by unfold maxAns; omega)) ?_
  clear hO hK hP c_b1
  intro u o1 S1 w2 _ _ _ hP hk hK hO
  replace b1 := b1.keep hk
  clear hk
  have hOh := Lib.hid hO
  clear hO
  go_wp2_with fail
  have hS : ∀ w', HeldR w' p z (.cells #[.int .i64 alg, .int .i64 N, .int .i64 mode, .int .i64 base, .int .i64 loc, .int .i64 room] 23) → (∀ i, w'.cell? ⟨z, i, none⟩ = (#[.int .i64 alg, .int .i64 N, .int .i64 mode, .int .i64 base, .int .i64 loc, .int .i64 room] : Array Value)[i]?) := fun w' x => x.cells
  refine wp_region_held_drew (S := fun w' => ∀ i, w'.cell? ⟨z, i, none⟩ = (#[.int .i64 alg, .int .i64 N, .int .i64 mode, .int .i64 base, .int .i64 loc, .int .i64 room] : Array Value)[i]?) rfl (hS _ b1) (fun hHeld => ?_)
  replace hP := hP.drew
  replace hK := hK.drew
  replace b1 := b1.drew
  refine wpAnyH_take (i := 0) (v := ?_) rfl (by kernel_rfl) (by kernel_rfl) (by kernel_rfl) (fun _ _ _ h => h) (Or.inl ⟨by kernel_rfl, ?_⟩) (by assumption) ?_
  rotate_left
  · (intro w hSw; (try dsimp only at hSw); go_simp; try with_reducible rfl)
  try simp only [put_pack]
  refine wpAnyH_take (i := 1) (v := ?_) rfl (by kernel_rfl) (by kernel_rfl) (by kernel_rfl) (fun _ _ _ h => h) (Or.inl ⟨by kernel_rfl, ?_⟩) (by assumption) ?_
  rotate_left
  · (intro w hSw; (try dsimp only at hSw); go_simp; try with_reducible rfl)
  try simp only [put_pack]
  refine wpAnyH_take (i := 3) (v := ?_) rfl (by kernel_rfl) (by kernel_rfl) (by kernel_rfl) (fun _ _ _ h => h) (Or.inl ⟨by kernel_rfl, ?_⟩) (by assumption) ?_
  rotate_left
  · (intro w hSw; (try dsimp only at hSw); go_simp; try with_reducible rfl)
  try simp only [put_pack]
  refine wpAnyH_take (i := 4) (v := ?_) rfl (by kernel_rfl) (by kernel_rfl) (by kernel_rfl) (fun _ _ _ h => h) (Or.inl ⟨by kernel_rfl, ?_⟩) (by assumption) ?_
  rotate_left
  · (intro w hSw; (try dsimp only at hSw); go_simp; try with_reducible rfl)
  try simp only [put_pack]
  refine wpAnyH_take (i := 5) (v := ?_) rfl (by kernel_rfl) (by kernel_rfl) (by kernel_rfl) (fun _ _ _ h => h) (Or.inl ⟨by kernel_rfl, ?_⟩) (by assumption) ?_
  rotate_left
  · (intro w hSw; (try dsimp only at hSw); go_simp; try with_reducible rfl)
  try simp only [put_pack]
  refine wpAnyH_take (i := 6) (v := ?_) rfl (by kernel_rfl) (by kernel_rfl) (by kernel_rfl) (fun _ _ _ h => h) (Or.inl ⟨by kernel_rfl, ?_⟩) (by assumption) ?_
  rotate_left
  · (intro w hSw; (try dsimp only at hSw); go_simp; try with_reducible rfl)
  try simp only [put_pack]
  refine wpAnyH_take (i := 7) (v := ?_) rfl (by kernel_rfl) (by kernel_rfl) (by kernel_rfl) (fun _ _ _ h => h) (Or.inl ⟨by kernel_rfl, ?_⟩) (by assumption) ?_
  rotate_left
  · (intro w hSw; (try dsimp only at hSw); go_simp; try with_reducible rfl)
  try simp only [put_pack]
  refine wpAnyH_take (i := 8) (v := ?_) rfl (by kernel_rfl) (by kernel_rfl) (by kernel_rfl) (fun _ _ _ h => h) (Or.inl ⟨by kernel_rfl, ?_⟩) (by assumption) ?_
  rotate_left
  · (intro w hSw; (try dsimp only at hSw); go_simp; try with_reducible rfl)
  try simp only [put_pack]
  refine wpAnyH_ready (rs := [2]) (by kernel_rfl) (by simp) ?_
  refine AllReadyH.cons rfl (fun K hKK => ?_) AllReadyH.nil
  go_simp
  refine (treeregs_r alg mode base loc room N rs _ h1 h2 hlh.out).mono ?_
  rintro e w3 ⟨A, c, rfl, hR, q1, q2, hx⟩
  have hreg : rs ≠ [] → ∃ b, A = some ⟨b, 0, none⟩ ∧ RegsAt [3, 4, 5] w3 p b rs := fun hne => by
    obtain ⟨b, e1, hge, hb, hcells⟩ := hR hne
    exact ⟨b, e1, hb, hP.fresh hx hge, hcells⟩
  replace hK := hK.trans (Keep.of_ext hx hP.lt hP.le)
  replace b1 := b1.ext hx hP.lt
  replace hP := hP.ext hx
  clear hx hR
  refine hKK.out _ _ (hS _ b1) (fun hHeld => ?_)
  clear hKK K
  try dsimp only
  refine wpAnyH_ready (rs := [9]) (by kernel_rfl) (by simp) ?_
  refine AllReadyH.cons rfl (fun K hKK => ?_) AllReadyH.nil
  go_simp
  refine rlast hOh.out hK (rdown_r B p o1 S1 alg N m m rs A c _ hP h1 h2 hm1 hlenh.out q1 q2 hreg hallh.out (by omega)) ?_
  clear hOh hK hP
  intro u o2 S2 w4 hP hk hK hO
  replace b1 := b1.keep hk
  clear hk hreg
  refine hKK.out _ _ (hS _ b1) (fun hHeld => ?_)
  clear hKK K
  try dsimp only
  refine wpAnyH_done (by kernel_rfl) ?_ _
  go_simp
  have hf : R (.returned (encU u)) w4 := hO.ret hP hK
  clear hO hP hK hS
  go_wp2_with fail
  first | exact hf | (refine bodyPost_ret (results_none rfl _ _ _) rfl ?_; exact hf)
end Go.Proofs.YtbaajjkopdjbgaaGreat
