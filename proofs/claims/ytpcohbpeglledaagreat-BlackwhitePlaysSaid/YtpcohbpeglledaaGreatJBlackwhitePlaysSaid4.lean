/-
  The black-white bakery laid, by the program.
-/
import Derived.Test.YtpcohbpeglledaaGreatJBlackwhitePlaysSaid3
import Derived.Deep.Upon
import Derived.ScopeJumps
import Derived.WalkMore
import Derived.Deep.DeepCutAuto
/-
  The black-white bakery laid, by the program.
-/
namespace Go.Proofs.YtpcohbpeglledaaGreat
open Go.RowKit Kv
theorem heap_setCells_all {w : World} {z : Nat} {t : TypeId} {cur : Array Value} (h : w.heap[z]? = some (.cells cur t (0, 0))) (vs : List Value) (hl : vs.length = cur.size) : (w.setCells z 0 vs).heap[z]? = some (.cells vs.toArray t (0, 0)) := by
  obtain ⟨cur', h1, h2⟩ := heap_setCells_ex z t vs 0 w cur h
  rw [h1]
  congr 2
  apply Array.ext_getElem?
  intro i
  by_cases hi : i < vs.length
  · have hc := World.cell?_setCells_in z vs 0 w (fun j hj => by
      rw [Nat.zero_add, cell_of_heap h]
      have : j < cur.size := by omega
      simp [this]) i hi
    rw [Nat.zero_add, cell_of_heap h1] at hc
    rw [hc]
    simp [hi]
  · rw [Array.getElem?_eq_none (by omega), Array.getElem?_eq_none (by simpa using hi)]
set_option maxRecDepth 100000 in
set_option maxHeartbeats 1000000 in
theorem bwlay_p (alg mode base loc room me : Int) (N : Nat) (rs : List Reg) (w : World) (h1 : 1 ≤ N) (h2 : N ≤ 8) (hl : layM (bwWants N) N mode base loc = some rs) (hlc : 0 ≤ loc ∧ loc ≤ 32768) (hm0 : 0 ≤ me) (hm1 : me < N) (r0 : Reg) (hr0 : rs[0]? = some r0) :
    Calls Tryz.prog 121 #[.agg #[.int .i64 alg, .int .i64 N, .int .i64 mode, .int .i64 base, .int .i64 loc, .int .i64 room], .int .i64 me] w fun e w' => ∃ b c1 c2, e = .returned (.tuple #[.agg #[.int .i64 r0.kind, .int .i64 r0.base, .int .i64 r0.loc, .int .i64 r0.n, .int .i64 r0.wr, .int .i64 r0.rd, .int .i64 r0.top, .slice (some ⟨b, 7, none⟩) N c1, .slice (some ⟨b, (1 + N) * 7, none⟩) N c2, .int .i64 (loc + sumL rs)], .int .i64 0]) ∧ w.heap.size ≤ b ∧ b < w'.heap.size ∧ (∀ (i : Nat) u, (rs.flatMap regVals)[i]? = some u → w'.cell? ⟨b, i, none⟩ = some u) ∧ Ext w w' := by
  have hlen := layM_len hl
  rw [bwWants_len] at hlen
  have hok : ∀ r ∈ rs, r.ok := fun r hr => (laid_all hl r hr).1
  have hbd := sum_bd hok rs.length (Nat.le_refl _)
  rw [List.take_length] at hbd
  have hw := IntWalk.i64_in (loc + sumL rs) (by omega)
  have hw2 := IntWalk.i64_in ((1 : Int) + (N : Int)) (by omega)
  replace hl := Lib.hid hl
  have hlenh := Lib.hid hlen
  have hokh := Lib.hid hok
  have hr0h := Lib.hid hr0
  clear hlen hok hbd hr0
  have d1 : decide (me < 0) = false := by rw [decide_eq_false_iff_not]; omega
  have d2 : decide ((N : Int) ≤ me) = false := by rw [decide_eq_false_iff_not]; omega
  have hX := Ext.refl w
  have b1 := Blk.new w (.cells #[.int .i64 alg, .int .i64 N, .int .i64 mode, .int .i64 base, .int .i64 loc, .int .i64 room] 52)
  replace hX := hX.alloc (.cells #[.int .i64 alg, .int .i64 N, .int .i64 mode, .int .i64 base, .int .i64 loc, .int .i64 room] 52)
  have c_b1 := b1.cells
  go_enter Tryz.func121, Tryz.ntmps121
  go_wp2_with fail
  have z1 := Blk.new (w.alloc (.cells #[.int .i64 alg, .int .i64 N, .int .i64 mode, .int .i64 base, .int .i64 loc, .int .i64 room] 52)) (.cells #[.int .i64 0, .int .i64 0, .int .i64 0, .int .i64 0, .int .i64 0, .int .i64 0, .int .i64 0, .slice none 0 0, .slice none 0 0, .int .i64 0] 107)
  rw [World.size_alloc] at z1
  replace b1 := b1.alloc (.cells #[.int .i64 0, .int .i64 0, .int .i64 0, .int .i64 0, .int .i64 0, .int .i64 0, .int .i64 0, .slice none 0 0, .slice none 0 0, .int .i64 0] 107)
  replace hX := hX.alloc (.cells #[.int .i64 0, .int .i64 0, .int .i64 0, .int .i64 0, .int .i64 0, .int .i64 0, .int .i64 0, .slice none 0 0, .slice none 0 0, .int .i64 0] 107)
  clear c_b1
  generalize World.alloc (World.alloc w _) _ = W at *
  have hXW := hX
  clear hX
  have hX := (Ext.refl W).drew
  have hS : ∀ w', Ext W w' → (∀ i, w'.cell? ⟨w.heap.size, i, none⟩ = (#[.int .i64 alg, .int .i64 N, .int .i64 mode, .int .i64 base, .int .i64 loc, .int .i64 room] : Array Value)[i]?) := fun w' hx => (b1.ext hx).cells
  go_region_held2 (fun w' => ∀ i, w'.cell? ⟨w.heap.size, i, none⟩ = (#[.int .i64 alg, .int .i64 N, .int .i64 mode, .int .i64 base, .int .i64 loc, .int .i64 room] : Array Value)[i]?) (exact hS _ hX)
    (first
      | (go_at_call 62
         refine (bwwants_p N _ h1 h2).mono ?_
         rintro e w2 ⟨v2, rfl, hw2, hx⟩
         replace hX := hX.trans hx
         have hz2 := hX.size
         clear hx)
      | (go_at_call 174
         refine (layp_some hl.out _ (hw2.ext (Ext.refl _)) (by rw [bwWants_len]; omega)).mono ?_
         rintro e w3 ⟨v3, rfl, hr3, hx⟩
         replace hX := hX.trans hx
         clear hx))
  rename_i hh
  clear hh
  obtain ⟨⟨A, c0, rfl, q1, q2, hV⟩, hown⟩ := hr3
  obtain ⟨c, rfl⟩ : ∃ c, c0 = c + N + 2 := ⟨c0 - N - 2, by have := hlenh.out; omega⟩
  obtain ⟨b, rfl, hb, hcells⟩ := hV (by cases rs with | nil => have := hlenh.out; simp only [List.length_nil] at this; omega | cons r l => simp [regVals])
  have hgeW : W.heap.size ≤ b := Nat.le_trans hz2 (hown b rfl)
  have hge : w.heap.size ≤ b := Nat.le_trans hXW.size hgeW
  have hch := Lib.hid hcells
  clear hcells hV hown hz2
  go_wp2_with fail
  refine (size_p b (c + N + 2) rs w3 hb hch.out hokh.out (by have := hlenh.out; omega)).mono ?_
  rintro e w4 ⟨rfl, hx4⟩
  have hX4 := hX.trans hx4
  have hcells4 : ∀ (i : Nat) u, (rs.flatMap regVals)[i]? = some u → w4.cell? ⟨b, i, none⟩ = some u := fun i u hu => (hx4.cell (p := ⟨b, i, none⟩) hb).trans (hch.out i u hu)
  have hb4 := Nat.lt_of_lt_of_le hb hx4.size
  obtain ⟨a0, a1, a2, a3, a4, a5, a6⟩ := reg_cells (w := w4) (b := b) hcells4 hr0h.out
  simp only [Nat.zero_mul, Nat.zero_add] at a0 a1 a2 a3 a4 a5 a6
  have c_b4 := (b1.ext hX4).cells
  have z4 := z1.ext hX4
  have hlen9 : (rs.length : Int) = 2 * (N : Int) + 1 := by have := hlenh.out; omega
  have hcells4h := Lib.hid hcells4
  have c_z4 := z4.cells
  have hfz : ∀ i, w4.frozen? ⟨w.heap.size + 1, i, none⟩ = false := fun i => by
    have z5 := z4
    unfold Blk at z5
    simp [World.frozen?, z5]
  have l1 : (0 : Int) < 2 * (N : Int) + 1 := by omega
  clear hcells4 hx4 hX hch hb
  go_wp2_with fail
  go_region
  have hne : w.heap.size + 1 ≠ b := by have := z1.lt; omega
  have hE4 : Ext w w4 := hXW.trans hX4
  have hg9 : w.heap.size ≤ w.heap.size + 1 := Nat.le_succ _
  have hWW : ((((((((((w4.setCell ⟨w.heap.size + 1, 0, none⟩ (.int .i64 r0.kind)).setCell ⟨w.heap.size + 1, 1, none⟩ (.int .i64 r0.base)).setCell ⟨w.heap.size + 1, 2, none⟩ (.int .i64 r0.loc)).setCell ⟨w.heap.size + 1, 3, none⟩ (.int .i64 r0.n)).setCell ⟨w.heap.size + 1, 4, none⟩ (.int .i64 r0.wr)).setCell ⟨w.heap.size + 1, 5, none⟩ (.int .i64 r0.rd)).setCell ⟨w.heap.size + 1, 6, none⟩ (.int .i64 r0.top)).setCell ⟨w.heap.size + 1, 7, none⟩ (.slice (some ⟨b, 7, none⟩) N (c + N + 1))).setCell ⟨w.heap.size + 1, 8, none⟩ (.slice (some ⟨b, (1 + N) * 7, none⟩) (rs.length - (1 + N)) (c + N + 2 - (1 + N)))).setCell ⟨w.heap.size + 1, 9, none⟩ (.int .i64 (loc + sumL rs))) = w4.setCells (w.heap.size + 1) 0 [.int .i64 r0.kind, .int .i64 r0.base, .int .i64 r0.loc, .int .i64 r0.n, .int .i64 r0.wr, .int .i64 r0.rd, .int .i64 r0.top, .slice (some ⟨b, 7, none⟩) N (c + N + 1), .slice (some ⟨b, (1 + N) * 7, none⟩) (rs.length - (1 + N)) (c + N + 2 - (1 + N)), .int .i64 (loc + sumL rs)] := rfl
  obtain ⟨W5, hW5⟩ : ∃ W5, W5 = w4.setCells (w.heap.size + 1) 0 [.int .i64 r0.kind, .int .i64 r0.base, .int .i64 r0.loc, .int .i64 r0.n, .int .i64 r0.wr, .int .i64 r0.rd, .int .i64 r0.top, .slice (some ⟨b, 7, none⟩) N (c + N + 1), .slice (some ⟨b, (1 + N) * 7, none⟩) (rs.length - (1 + N)) (c + N + 2 - (1 + N)), .int .i64 (loc + sumL rs)] := ⟨_, rfl⟩
  have z5 : W5.heap[w.heap.size + 1]? = some (.cells #[.int .i64 r0.kind, .int .i64 r0.base, .int .i64 r0.loc, .int .i64 r0.n, .int .i64 r0.wr, .int .i64 r0.rd, .int .i64 r0.top, .slice (some ⟨b, 7, none⟩) N (c + N + 1), .slice (some ⟨b, (1 + N) * 7, none⟩) (rs.length - (1 + N)) (c + N + 2 - (1 + N)), .int .i64 (loc + sumL rs)] 107 (0, 0)) := by
    rw [hW5]
    exact heap_setCells_all z4 [.int .i64 r0.kind, .int .i64 r0.base, .int .i64 r0.loc, .int .i64 r0.n, .int .i64 r0.wr, .int .i64 r0.rd, .int .i64 r0.top, .slice (some ⟨b, 7, none⟩) N (c + N + 1), .slice (some ⟨b, (1 + N) * 7, none⟩) (rs.length - (1 + N)) (c + N + 2 - (1 + N)), .int .i64 (loc + sumL rs)] rfl
  have hE5 : Ext w W5 := by
    rw [hW5]
    exact Ext.setCells hE4 hg9 _ _
  have hB : W5.heap[b]? = w4.heap[b]? := by
    rw [hW5]
    exact World.heap_setCells_other _ _ _ _ hb4 (fun h => hne h.symm)
  rw [← hW5] at hWW
  clear hW5
  have hcl : ∀ i, W5.cell? ⟨b, i, none⟩ = w4.cell? ⟨b, i, none⟩ := fun i => World.cell?_of_block (w := w4) (a := ⟨b, i, none⟩) hB
  have hb5 : b < W5.heap.size := by
    have : W5.heap[b]? = some w4.heap[b] := by rw [hB]; exact Array.getElem?_eq_getElem hb4
    exact (Array.getElem?_eq_some_iff.1 this).1
  have hcells5 : Hid (∀ (i : Nat) u, (rs.flatMap regVals)[i]? = some u → W5.cell? ⟨b, i, none⟩ = some u) := Lib.hid fun i u hu => (hcl i).trans (hcells4h.out i u hu)
  have c_z5 := fun i => cell_of_heap z5 i
  try rw [hWW]
  clear a0 a1 a2 a3 a4 a5 a6 c_b4 c_z4 hfz hcl hB hcells4h z4 z1 b1
  go_wp2_with fail
  refine bodyPost_ret (v := .tuple #[.agg #[.int .i64 r0.kind, .int .i64 r0.base, .int .i64 r0.loc, .int .i64 r0.n, .int .i64 r0.wr, .int .i64 r0.rd, .int .i64 r0.top, .slice (some ⟨b, 7, none⟩) N (c + N + 1), .slice (some ⟨b, (1 + N) * 7, none⟩) (rs.length - (1 + N)) (c + N + 2 - (1 + N)), .int .i64 (loc + sumL rs)], .int .i64 0]) (by simp [results, Tryz.results121, go_sem, c_z5]) rfl ?_
  rw [show rs.length - (1 + N) = N from by have := hlenh.out; omega]
  exact ⟨_, _, _, rfl, hge, hb5, hcells5.out, hE5.drew⟩
end Go.Proofs.YtpcohbpeglledaaGreat
/-
  The black-white bakery released, by the document.
-/
namespace Kv
/-- As bwR, the local read ahead of the note. -/
def bwR2 (l : List Reg) (own n me : Int) : Prog Unit :=
  (gt own).bind fun x => (nt 5).bind fun _ => (regW (regAt l 0) me (1 - bitM x)).bind fun _ => regW (regAt l (1 + n + me)) me (bitM x)
theorem bwR_run (l : List Reg) (own n me : Int) (S : TS) : (bwR2 l own n me).run S = (bwR l own n me).run S := rfl
theorem Ref.congr {α : Type} {T T' : Prog α} (h : ∀ S, T.run S = T'.run S) {o o' : Bool} {S S' : TS} {a : α} (hr : Ref T o S a o' S') : Ref T' o S a o' S' := by
  cases hr with
  | over => exact .over _ _
  | done k => exact .done ((h _).symm.trans k)
  | stop _ k => exact .stop _ ((h _).symm.trans k)
end Kv
namespace Go.Proofs.YtpcohbpeglledaaGreat
open Go.RowKit Kv
set_option maxRecDepth 100000 in
set_option maxHeartbeats 1000000 in
theorem bwrel2_r (B p N : Nat) (o : Bool) (S : TS) (alg mode base loc room : Int) (m : Nat) (rs : List Reg) (w : World) (h : RAt B w p o S) (h1 : 1 ≤ N) (h2 : N ≤ 8) (hm1 : m < N) (hl : layM (bwWants N) N mode base loc = some rs) (hlc : 0 ≤ loc ∧ loc ≤ 32768)
    (hok : ∀ r ∈ rs, r.ok ∧ r.n = N) (hn0 : S.nts.length = 0) :
    Calls Tryz.prog 61 #[.pointer (some ⟨p, 0, none⟩), .agg #[.int .i64 alg, .int .i64 N, .int .i64 mode, .int .i64 base, .int .i64 loc, .int .i64 room], .int .i64 m] w (RPost encU B p w (bwR2 rs (loc + sumL rs) N m) o S) := by
  have hlen := layM_len hl
  rw [bwWants_len] at hlen
  generalize hR : RPost encU B p w (bwR2 rs (loc + sumL rs) N m) o S = R
  have hO : ROwes R encU B p w (bwR2 rs (loc + sumL rs) N m) o S := hR ▸ rowes _ _ _ _ _ _ _
  clear hR
  have hK := Keep.refl [3, 4, 5] B p w
  have hP := h
  have b1 := hP.held (.cells #[.int .i64 alg, .int .i64 N, .int .i64 mode, .int .i64 base, .int .i64 loc, .int .i64 room] 52)
  replace hK := hK.trans (Keep.alloc (.cells #[.int .i64 alg, .int .i64 N, .int .i64 mode, .int .i64 base, .int .i64 loc, .int .i64 room] 52) hP.lt hP.le)
  replace hP := hP.alloc (.cells #[.int .i64 alg, .int .i64 N, .int .i64 mode, .int .i64 base, .int .i64 loc, .int .i64 room] 52)
  have c_b1 := b1.cells
  clear h
  unfold bwR2 at hO
  obtain ⟨r0, hr0⟩ : ∃ r, rs[0]? = some r := ⟨_, List.getElem?_eq_getElem (by omega)⟩
  obtain ⟨rm, hrm⟩ : ∃ r, rs[1 + N + m]? = some r := ⟨_, List.getElem?_eq_getElem (by omega)⟩
  have hok0 := (hok _ (List.mem_of_getElem? hr0)).1
  have hm0' : (m : Int) < r0.n := by rw [(hok _ (List.mem_of_getElem? hr0)).2]; omega
  have hokm := (hok _ (List.mem_of_getElem? hrm)).1
  have hmm : (m : Int) < rm.n := by rw [(hok _ (List.mem_of_getElem? hrm)).2]; omega
  rw [regAt_of (show (0 : Int) = ((0 : Nat) : Int) from rfl) hr0, regAt_of (show (1 : Int) + (N : Int) + (m : Int) = ((1 + N + m : Nat) : Int) from by omega) hrm] at hO
  have hw1 := IntWalk.i64_in ((1 : Int) + (N : Int)) (by omega)
  have hw2 := IntWalk.i64_in ((1 : Int) + (N : Int) + (m : Int)) (by omega)
  have hi2 : (1 : Int) + (N : Int) + (m : Int) < (rs.length : Int) := by omega
  have hi0 : 0 ≤ (1 : Int) + (N : Int) + (m : Int) := by omega
  have hi1 : ((1 : Int) + (N : Int) + (m : Int)).toNat = 1 + N + m := by omega
  have hj2 : (0 : Nat) < rs.length := by omega
  have hj3 : (0 : Int) < (rs.length : Int) := by omega
  have hrh := Lib.hid (And.intro hr0 hrm)
  have hlM := Lib.hid hl
  clear hlen hr0 hrm hok hl
  go_enter Tryz.func61, Tryz.ntmps61
  go_wp2_with fail
  refine (bwregs_r alg mode base loc room N rs _ h1 h2 hlM.out hlc).mono ?_
  rintro e w1 ⟨b, c, rfl, hge, hb, hcells, q1, q2, hx⟩
  have hreg : RegsAt [3, 4, 5] w1 p b rs := ⟨hb, hP.fresh hx hge, hcells⟩
  replace hK := hK.trans (Keep.of_ext hx hP.lt hP.le)
  replace b1 := b1.ext hx hP.lt
  replace hP := hP.ext hx
  clear hx hcells hge hb c_b1
  generalize w.heap.size = z at *
  go_wp2_with fail
  refine (get_r B p o S (loc + sumL rs) _ hP).mono ?_
  rintro e w' ⟨rfl, rfl⟩
  replace hO := hO.get
  generalize S.got (loc + sumL rs) = x at hO ⊢
  go_wp2_with fail
  refine (bit_r x _).mono ?_
  rintro e w' ⟨rfl, rfl⟩
  have hbx : 0 ≤ bitM x ∧ bitM x ≤ 1 := bitM_bd x
  generalize bitM x = bx at *
  have hw3 := IntWalk.i64_in (1 - bx) (by omega)
  go_wp2_with fail
  refine rstepN (notes_nt 5) hO hK (note_r B p o S 5 _ hP (by unfold maxAns; omega)) ?_
  clear hO hK hP
  intro u o1 S1 w2 _ _ _ hP hk hK hO
  replace hreg := hreg.keep hk
  replace b1 := b1.keep hk
  clear hk
  obtain ⟨a0, a1, a2, a3, a4, a5, a6⟩ := hreg.nth hrh.out.1
  simp only [Nat.zero_mul, Nat.zero_add] at a0 a1 a2 a3 a4 a5 a6
  go_wp2_with fail
  clear a0 a1 a2 a3 a4 a5 a6
  refine rstepL hO hK (reg_write_r B p o1 S1 r0 m (1 - bx) _ hP hok0 ⟨by omega, hm0'⟩) ?_
  clear hO hK hP
  intro u o2 S2 w3 _ _ hP hk hK hO
  replace hreg := hreg.keep hk
  replace b1 := b1.keep hk
  clear hk
  obtain ⟨_, _, _, _, _, hcc⟩ := hP.cell
  cases o2 with
  | true =>
    have hf : R (.returned (encU ())) w3 := hO.over () hP hK
    clear hO hP hK
    go_wp2_with fail
    first | exact hf | (refine bodyPost_ret (results_none rfl _ _ _) rfl ?_; exact hf)
  | false =>
    have c_b1 := b1.cells
    obtain ⟨a0, a1, a2, a3, a4, a5, a6⟩ := hreg.nth hrh.out.2
    have hOh := Lib.hid hO
    clear hO
    go_wp2_with fail
    replace hO := hOh.out
    clear a0 a1 a2 a3 a4 a5 a6 hrh hreg c_b1 hOh hcc
    refine rlast hO hK (reg_write_r B p false S2 rm m bx _ hP hokm ⟨by omega, hmm⟩) ?_
    clear hO hK hP
    intro u o3 S3 w4 hP hk hK hO
    have hf : R (.returned (encU u)) w4 := hO.ret hP hK
    clear hO hP hK hk
    go_wp2_with fail
    first | exact hf | (refine bodyPost_ret (results_none rfl _ _ _) rfl ?_; exact hf)
theorem bwrel_r (B p N : Nat) (o : Bool) (S : TS) (alg mode base loc room : Int) (m : Nat) (rs : List Reg) (w : World) (h : RAt B w p o S) (h1 : 1 ≤ N) (h2 : N ≤ 8) (hm1 : m < N) (hl : layM (bwWants N) N mode base loc = some rs) (hlc : 0 ≤ loc ∧ loc ≤ 32768)
    (hok : ∀ r ∈ rs, r.ok ∧ r.n = N) (hn0 : S.nts.length = 0) :
    Calls Tryz.prog 61 #[.pointer (some ⟨p, 0, none⟩), .agg #[.int .i64 alg, .int .i64 N, .int .i64 mode, .int .i64 base, .int .i64 loc, .int .i64 room], .int .i64 m] w (RPost encU B p w (bwR rs (loc + sumL rs) N m) o S) :=
  (bwrel2_r B p N o S alg mode base loc room m rs w h h1 h2 hm1 hl hlc hok hn0).mono fun _ _ ⟨a, o', S', h1, h2, h3, h4⟩ => ⟨a, o', S', h1, h2.congr (bwR_run _ _ _ _), h3, h4⟩
end Go.Proofs.YtpcohbpeglledaaGreat
/-
  The black-white bakery released, by the program.
-/
namespace Go.Proofs.YtpcohbpeglledaaGreat
open Go.RowKit Kv
theorem bwbit_p (x : Int) (w : World) : Calls Tryz.prog 122 #[.int .i64 x] w fun e w' => e = .returned (.int .i64 (bitM x)) ∧ w = w' := by
  unfold bitM
  by_cases h : x = 0
  · rw [if_pos h]
    go_enter Tryz.func122, Tryz.ntmps122
    go_wp2_with fail
    go_ret
    exact ⟨rfl, rfl⟩
  · rw [if_neg h]
    have hb : (x != 0) = true := by rw [bne_iff_ne]; exact h
    go_enter Tryz.func122, Tryz.ntmps122
    go_wp2_with fail
    go_ret
    exact ⟨rfl, rfl⟩
set_option maxRecDepth 100000 in
set_option maxHeartbeats 1000000 in
theorem bwrel_p (B p N : Nat) (S : TS) (alg mode base loc room : Int) (m : Nat) (rs : List Reg) (w : World) (h : Plays B w p S) (h1 : 1 ≤ N) (h2 : N ≤ 8) (hm1 : m < N) (hl : layM (bwWants N) N mode base loc = some rs) (hlc : 0 ≤ loc ∧ loc ≤ 32768)
    (hok : ∀ r ∈ rs, r.ok ∧ r.n = N) (hn0 : S.nts.length = 0) :
    Calls Tryz.prog 60 #[.pointer (some ⟨p, 0, none⟩), .agg #[.int .i64 alg, .int .i64 N, .int .i64 mode, .int .i64 base, .int .i64 loc, .int .i64 room], .int .i64 m] w (Post encU B p w ((bwR rs (loc + sumL rs) N m).run S)) := by
  have hlen := layM_len hl
  rw [bwWants_len] at hlen
  generalize hR : Post encU B p w ((bwR rs (loc + sumL rs) N m).run S) = R
  have hO : Owes R encU B p w ((bwR rs (loc + sumL rs) N m).run S) := hR ▸ owes _ _ _ _ _
  clear hR
  have hK := Keep.refl [2, 3, 4] B p w
  have hP := h
  have b1 := hP.held (.cells #[.int .i64 alg, .int .i64 N, .int .i64 mode, .int .i64 base, .int .i64 loc, .int .i64 room] 52)
  replace hK := hK.trans (Keep.alloc (.cells #[.int .i64 alg, .int .i64 N, .int .i64 mode, .int .i64 base, .int .i64 loc, .int .i64 room] 52) hP.lt hP.le)
  replace hP := hP.alloc (.cells #[.int .i64 alg, .int .i64 N, .int .i64 mode, .int .i64 base, .int .i64 loc, .int .i64 room] 52)
  have c_b1 := b1.cells
  clear h
  unfold bwR at hO
  obtain ⟨r0, hr0⟩ : ∃ r, rs[0]? = some r := ⟨_, List.getElem?_eq_getElem (by omega)⟩
  obtain ⟨rm, hrm⟩ : ∃ r, rs[1 + N + m]? = some r := ⟨_, List.getElem?_eq_getElem (by omega)⟩
  have hok0 := (hok _ (List.mem_of_getElem? hr0)).1
  have hm0' : (m : Int) < r0.n := by rw [(hok _ (List.mem_of_getElem? hr0)).2]; omega
  have hokm := (hok _ (List.mem_of_getElem? hrm)).1
  have hmm : (m : Int) < rm.n := by rw [(hok _ (List.mem_of_getElem? hrm)).2]; omega
  rw [regAt_of (show (0 : Int) = ((0 : Nat) : Int) from rfl) hr0, regAt_of (show (1 : Int) + (N : Int) + (m : Int) = ((1 + N + m : Nat) : Int) from by omega) hrm] at hO
  have hmN : (m : Int) < (N : Int) := by omega
  have hrh := Lib.hid (And.intro hr0 hrm)
  have hlM := Lib.hid hl
  clear hlen hr0 hrm hok hl
  go_enter Tryz.func60, Tryz.ntmps60
  go_wp2_with fail
  refine (bwlay_p alg mode base loc room m N rs _ h1 h2 hlM.out hlc (by omega) (by omega) r0 hrh.out.1).mono ?_
  rintro e w1 ⟨b, c1, c2, rfl, hge, hb, hcells, hx⟩
  have hreg : RegsAt [2, 3, 4] w1 p b rs := ⟨hb, hP.fresh hx hge, hcells⟩
  replace hK := hK.trans (Keep.of_ext hx hP.lt hP.le)
  replace hP := hP.ext hx
  clear hx hcells hge hb c_b1 b1
  generalize w.heap.size = z0 at *
  have g1 := hP.held (.cells #[.int .i64 r0.kind, .int .i64 r0.base, .int .i64 r0.loc, .int .i64 r0.n, .int .i64 r0.wr, .int .i64 r0.rd, .int .i64 r0.top, .slice (some ⟨b, 7, none⟩) N c1, .slice (some ⟨b, (1 + N) * 7, none⟩) N c2, .int .i64 (loc + sumL rs)] 107)
  replace hreg := hreg.extL ((Ext.refl w1).alloc (.cells #[.int .i64 r0.kind, .int .i64 r0.base, .int .i64 r0.loc, .int .i64 r0.n, .int .i64 r0.wr, .int .i64 r0.rd, .int .i64 r0.top, .slice (some ⟨b, 7, none⟩) N c1, .slice (some ⟨b, (1 + N) * 7, none⟩) N c2, .int .i64 (loc + sumL rs)] 107)) hP.lt
  replace hK := hK.trans (Keep.alloc (.cells #[.int .i64 r0.kind, .int .i64 r0.base, .int .i64 r0.loc, .int .i64 r0.n, .int .i64 r0.wr, .int .i64 r0.rd, .int .i64 r0.top, .slice (some ⟨b, 7, none⟩) N c1, .slice (some ⟨b, (1 + N) * 7, none⟩) N c2, .int .i64 (loc + sumL rs)] 107) hP.lt hP.le)
  replace hP := hP.alloc (.cells #[.int .i64 r0.kind, .int .i64 r0.base, .int .i64 r0.loc, .int .i64 r0.n, .int .i64 r0.wr, .int .i64 r0.rd, .int .i64 r0.top, .slice (some ⟨b, 7, none⟩) N c1, .slice (some ⟨b, (1 + N) * 7, none⟩) N c2, .int .i64 (loc + sumL rs)] 107)
  go_wp2_with fail
  generalize w1.heap.size = z at *
  generalize w1.alloc _ = W at *
  refine tstepN (notes_nt 5) hO hK (noteO hP (by unfold maxAns; omega)) (fun _ h => ⟨rfl, h⟩) ?_
  clear hO hK hP
  intro u S1 w2 _ _ _ hP hk hK hO
  replace hreg := hreg.keep hk
  replace g1 := g1.keep hk
  clear hk
  have c_g := g1.cells
  have hOh := Lib.hid hO
  clear hO
  go_wp2_with fail
  replace hO := hOh.out
  clear hOh
  refine (get_p B p S1 (loc + sumL rs) _ hP).mono ?_
  rintro e w' ⟨rfl, rfl⟩
  rw [run_gt] at hO
  generalize S1.got (loc + sumL rs) = x at hO ⊢
  have hOh := Lib.hid hO
  clear hO
  go_wp2_with fail
  refine (bwbit_p x _).mono ?_
  rintro e w' ⟨rfl, rfl⟩
  have hbx : 0 ≤ bitM x ∧ bitM x ≤ 1 := bitM_bd x
  generalize bitM x = bx at *
  have hw3 := IntWalk.i64_in (1 - bx) (by omega)
  go_wp2_with fail
  replace hO := hOh.out
  clear hOh c_g
  refine tstepN (notes_regW _ _ _) hO hK (reg_write_p B p S1 r0 m (1 - bx) _ hP hok0 ⟨by omega, hm0'⟩) (fun _ h => ⟨rfl, h⟩) ?_
  clear hO hK hP
  intro u S2 w3 _ _ _ hP hk hK hO
  replace hreg := hreg.keep hk
  replace g1 := g1.keep hk
  clear hk
  have c_g := g1.cells
  obtain ⟨a0, a1, a2, a3, a4, a5, a6⟩ := hreg.nth hrh.out.2
  have hsh : (1 + N + m) * 7 = (1 + N) * 7 + m * 7 := by omega
  rw [hsh] at a0 a1 a2 a3 a4 a5 a6
  have hOh := Lib.hid hO
  clear hO
  go_wp2_with fail
  replace hO := hOh.out
  clear a0 a1 a2 a3 a4 a5 a6 hrh hreg hOh c_g
  refine tlast hO hK (reg_write_p B p S2 rm m bx _ hP hokm ⟨by omega, hmm⟩) (fun _ h => ⟨rfl, h⟩) ?_
  clear hO hK hP
  intro u S3 w4 hr hP hk hK hO
  have hf := hO.done hP hK
  clear hO hP hK hr hk
  go_wp2_with fail
  first | exact hf | (refine bodyPost_ret (results_none rfl _ _ _) rfl ?_; exact hf)
end Go.Proofs.YtpcohbpeglledaaGreat
/-
  Plain mathematics: within which bounds a read of a register that one does not write oneself tells.
-/
namespace Kv
theorem unLo_bd (x : Int) {top : Int} (h : 0 ≤ room top) : 0 ≤ unLo x top ∧ unLo x top ≤ room top := by
  unfold unLo
  have h1 := Int.emod_nonneg (unX x) (show room top + 1 ≠ 0 by omega)
  have h2 := Int.emod_lt_of_pos (unX x) (show 0 < room top + 1 by omega)
  omega
/-- All answers are within bounds. -/
def TameA (S : TS) : Prop := ∀ v ∈ S.ans, 0 ≤ v ∧ v ≤ 1048576
theorem TameA.run {α : Type} {S S' : TS} {p : Prog α} {a : Option α} (h : TameA S) (hr : p.run S = (a, S')) : TameA S' := by
  have := Prog.run_ans p S
  rw [hr] at this
  unfold TameA
  rw [this]
  exact h
theorem rd_bd {c v : Int} {S S' : TS} (h : TameA S) (hr : (rd c).run S = (some v, S')) : 0 ≤ v ∧ v ≤ 1048576 := by
  unfold rd at hr
  simp only [Prog.run] at hr
  cases hn : S.next with
  | none => rw [hn] at hr; simp at hr
  | some u =>
    rw [hn] at hr
    simp only [Prod.mk.injEq, Option.some.injEq] at hr
    rw [← hr.1]
    exact h u (List.mem_of_getElem? hn)
theorem ret_run {α : Type} {a b : α} {S S' : TS} (h : (Prog.ret a).run S = (some b, S')) : a = b ∧ S = S' := by
  simpa [Prog.run] using h
theorem tableR_bd {b l n wr top me v : Int} {S S' : TS} (hne : me ≠ wr) (hr : (tableR b l n wr top me).run S = (some v, S')) : 0 ≤ v ∧ v ≤ 1048576 := by
  unfold tableR at hr
  rw [if_neg hne] at hr
  obtain ⟨x1, S1, -, hr⟩ := Prog.bind_some hr
  obtain ⟨x2, S2, -, hr⟩ := Prog.bind_some hr
  obtain ⟨x3, S3, -, hr⟩ := Prog.bind_some hr
  obtain ⟨rfl, -⟩ := ret_run hr
  have h1 := room_bd (clamp top 1048576)
  have h2 := unLo_bd x2 (top := clamp top 1048576) h1.1
  omega
theorem manyRs_bd {b l n top me : Int} : ∀ (k : Nat) (j s v : Int) {S S' : TS} {p : Int × Int}, 0 ≤ v → v ≤ 1048576 → (manyRs b l n top me k j s v).run S = (some p, S') → 0 ≤ p.2 ∧ p.2 ≤ 1048576
  | 0, j, s, v, S, S', p, h1, h2, hr => by
    unfold manyRs at hr
    obtain ⟨rfl, -⟩ := ret_run hr
    exact ⟨h1, h2⟩
  | k + 1, j, s, v, S, S', p, h1, h2, hr => by
    unfold manyRs at hr
    obtain ⟨y, S1, -, hr⟩ := Prog.bind_some hr
    split at hr
    · have h3 := room_bd (clamp top 255)
      have h4 := unLo_bd y (top := clamp top 255) h3.1
      exact manyRs_bd k _ _ _ (by omega) (by omega) hr
    · exact manyRs_bd k _ _ _ h1 h2 hr
/-- Whatever is told by accesses is within bounds. -/
theorem regR_bd {r : Reg} {me v : Int} {S S' : TS} (_hok : r.ok) (ht : r.kind = 6 → me ≠ r.wr) (h : TameA S) (hr : (regR r me).run S = (some v, S')) : 0 ≤ v ∧ v ≤ 1048576 := by
  unfold regR at hr
  split at hr
  · exact rd_bd h hr
  · split at hr
    · rename_i h6
      exact tableR_bd (ht h6) hr
    · unfold manyR at hr
      obtain ⟨p, S1, hp, hr⟩ := Prog.bind_some hr
      obtain ⟨rfl, -⟩ := ret_run hr
      exact manyRs_bd _ _ _ _ (by omega) (by omega) hp
end Kv
/-
  Plain mathematics of the black-white bakery: its loops taken apart, what they ask and how many notes they leave.
-/
namespace Kv
theorem bwChoose_eq (r : Reg) (me : Int) : ∀ n : Nat, bwChoose r me n = zeroP r me n
  | 0 => rfl
  | n + 1 => by
    rw [show bwChoose r me (n + 1) = (regR r me).bind fun x => if x = 0 then .ret () else bwChoose r me n from rfl, show zeroP r me (n + 1) = (regR r me).bind fun x => if x = 0 then .ret () else zeroP r me n from rfl, bwChoose_eq r me n]
theorem bwWait_bind {β : Type} (l : List Reg) (n me j t c : Int) (k : Nat) (f : Unit → Prog β) : (bwWait l n me j t c (k + 1)).bind f =
    (regR (regAt l (1 + n + j)) me).bind fun x =>
      if x / 2 = 0 then f () else if x % 2 = c then (if t < x / 2 ∨ (x / 2 = t ∧ me < j) then f () else (bwWait l n me j t c k).bind f)
      else (regR (regAt l 0) me).bind fun y => if bitM y = c then (bwWait l n me j t c k).bind f else f () := by
  rw [show bwWait l n me j t c (k + 1) = (regR (regAt l (1 + n + j)) me).bind fun x =>
      if x / 2 = 0 then .ret () else if x % 2 = c then (if t < x / 2 ∨ (x / 2 = t ∧ me < j) then .ret () else bwWait l n me j t c k)
      else (regR (regAt l 0) me).bind fun y => if bitM y = c then bwWait l n me j t c k else .ret () from rfl, Prog.bind_assoc]
  congr 1
  funext x
  by_cases h1 : x / 2 = 0
  · rw [if_pos h1, if_pos h1]; rfl
  · rw [if_neg h1, if_neg h1]
    by_cases h2 : x % 2 = c
    · rw [if_pos h2, if_pos h2]
      by_cases h3 : t < x / 2 ∨ (x / 2 = t ∧ me < j)
      · rw [if_pos h3, if_pos h3]; rfl
      · rw [if_neg h3, if_neg h3]
    · rw [if_neg h2, if_neg h2, Prog.bind_assoc]
      congr 1
      funext y
      by_cases h4 : bitM y = c
      · rw [if_pos h4, if_pos h4]
      · rw [if_neg h4, if_neg h4]; rfl
theorem notes_bwWait (l : List Reg) (n me j t c : Int) : ∀ k : Nat, (bwWait l n me j t c k).Notes 0
  | 0 => .ret _ _
  | k + 1 => by
    rw [show bwWait l n me j t c (k + 1) = (regR (regAt l (1 + n + j)) me).bind fun x =>
      if x / 2 = 0 then .ret () else if x % 2 = c then (if t < x / 2 ∨ (x / 2 = t ∧ me < j) then .ret () else bwWait l n me j t c k)
      else (regR (regAt l 0) me).bind fun y => if bitM y = c then bwWait l n me j t c k else .ret () from rfl]
    refine (notes_regR _ _).bind0 fun x => ?_
    by_cases h1 : x / 2 = 0
    · rw [if_pos h1]; exact .ret _ _
    · rw [if_neg h1]
      by_cases h2 : x % 2 = c
      · rw [if_pos h2]
        by_cases h3 : t < x / 2 ∨ (x / 2 = t ∧ me < j)
        · rw [if_pos h3]; exact .ret _ _
        · rw [if_neg h3]; exact notes_bwWait l n me j t c k
      · rw [if_neg h2]
        refine (notes_regR _ _).bind0 fun y => ?_
        by_cases h4 : bitM y = c
        · rw [if_pos h4]; exact notes_bwWait l n me j t c k
        · rw [if_neg h4]; exact .ret _ _
/-- A round of the doorway's reads. -/
theorem bwMost_cons {β : Type} (l : List Reg) (n me c a t : Int) (r : List Int) (k : Int → Prog β) :
    (forP (fun j t => (regR (regAt l (1 + n + j)) me).bind fun x => .ret (if x % 2 = c then max t (x / 2) else t)) (a :: r) t).bind k =
      (regR (regAt l (1 + n + a)) me).bind fun x => (forP (fun j t => (regR (regAt l (1 + n + j)) me).bind fun x => .ret (if x % 2 = c then max t (x / 2) else t)) r (if x % 2 = c then max t (x / 2) else t)).bind k := by
  rw [forP_consB, Prog.bind_assoc]
  rfl
/-- Waiting for one thread. -/
def bwFor (l : List Reg) (N : Nat) (n me j t c : Int) : Prog Unit := (bwChoose (regAt l (1 + j)) me N).bind fun _ => bwWait l n me j t c N
theorem notes_bwFor (l : List Reg) (N : Nat) (n me j t c : Int) : (bwFor l N n me j t c).Notes 0 := by
  unfold bwFor
  rw [bwChoose_eq]
  exact (notes_zeroP _ _ _).bind0 fun _ => notes_bwWait _ _ _ _ _ _ _
theorem bwFor_bind {β : Type} (l : List Reg) (N : Nat) (n me j t c : Int) (f : Unit → Prog β) : (bwFor l N n me j t c).bind f = (zeroP (regAt l (1 + j)) me N).bind fun _ => (bwWait l n me j t c N).bind f := by
  unfold bwFor
  rw [bwChoose_eq, Prog.bind_assoc]
/-- Acquiring: into the doorway, through it, waiting for each one. -/
def bwIn (N : Nat) (l : List Reg) (n me c t : Int) : Prog Int :=
  (forP (fun j _ => bwFor l N n me j t c) (ranksFrom me n.toNat 0) ()).bind fun _ => (nt 3).bind fun _ => .ret 0
def bwThrough (N : Nat) (l : List Reg) (n me c t : Int) : Prog Int :=
  (regW (regAt l (1 + n + me)) me (2 * (t + 1) + c)).bind fun _ => (regW (regAt l (1 + me)) me 0).bind fun _ => (nt 2).bind fun _ => bwIn N l n me c (t + 1)
theorem bwA_eq (N : Nat) (l : List Reg) (own n me : Int) : bwA N l own n me =
    (nt 1).bind fun _ => (regW (regAt l (1 + me)) me 1).bind fun _ => (regR (regAt l 0) me).bind fun y => (st own (bitM y)).bind fun _ =>
      (forP (fun j t => (regR (regAt l (1 + n + j)) me).bind fun x => .ret (if x % 2 = bitM y then max t (x / 2) else t)) (ranksFrom me n.toNat 0) 0).bind (bwThrough N l n me (bitM y)) := rfl
theorem told_ne {r : Reg} {me : Int} (h : r.told me) : r.kind = 6 → me ≠ r.wr := by
  intro h6
  rcases h with h | ⟨_, h⟩ | ⟨h, _⟩
  · omega
  · exact h
  · omega
end Kv
/-
  The fast lock: reading a register till it tells 0, both sides; writing it unless it is over.
-/
namespace Kv
theorem zeroP_succ (r : Reg) (me : Int) (n : Nat) : zeroP r me (n + 1) = (regR r me).bind fun x => if x = 0 then .ret () else zeroP r me n := rfl
end Kv
namespace Go.Proofs.YtpcohbpeglledaaGreat
open Go.RowKit Kv
set_option maxRecDepth 100000 in
set_option maxHeartbeats 1000000 in
theorem fzero_r (B p D : Nat) (o : Bool) (S : TS) (r : Reg) (me : Int) (w : World) (h : RAt B w p o S) (hr : r.ok) (hm0 : 0 ≤ me) (hmr : me < r.n) (ht : r.told me) (hD : o = false → S.left < D) :
    Calls Tryz.prog 175 #[.pointer (some ⟨p, 0, none⟩), encR r, .int .i64 me] w (RPost encU B p w (zeroP r me D) o S) := by
  generalize hR : RPost encU B p w (zeroP r me D) o S = R
  have hO : ROwes R encU B p w (zeroP r me D) o S := hR ▸ rowes _ _ _ _ _ _ _
  clear hR
  unfold encR
  have hK := Keep.refl [3, 4, 5] B p w
  have hP := h
  have b1 := hP.held (.cells #[.int .i64 r.kind, .int .i64 r.base, .int .i64 r.loc, .int .i64 r.n, .int .i64 r.wr, .int .i64 r.rd, .int .i64 r.top] 77)
  replace hK := hK.trans (Keep.alloc (.cells #[.int .i64 r.kind, .int .i64 r.base, .int .i64 r.loc, .int .i64 r.n, .int .i64 r.wr, .int .i64 r.rd, .int .i64 r.top] 77) hP.lt hP.le)
  replace hP := hP.alloc (.cells #[.int .i64 r.kind, .int .i64 r.base, .int .i64 r.loc, .int .i64 r.n, .int .i64 r.wr, .int .i64 r.rd, .int .i64 r.top] 77)
  have c_b1 := b1.cells
  clear h
  go_enter Tryz.func175, Tryz.ntmps175
  go_wp2_with fail
  clear c_b1
  generalize hbb : w.heap.size = b at *
  generalize World.alloc _ _ = W0 at *
  have hOh := Lib.hid hO
  clear hO hbb
  go_loopw [] (fun wr => ∃ (n : Nat) (o2 : Bool) (S2 : TS), RAt B wr p o2 S2 ∧ KeepR B p w wr ∧ HeldR wr p b (.cells #[.int .i64 r.kind, .int .i64 r.base, .int .i64 r.loc, .int .i64 r.n, .int .i64 r.wr, .int .i64 r.rd, .int .i64 r.top] 77) ∧ Hid (ROwes R encU B p w (zeroP r me n) o2 S2) ∧ (o2 = false → S2.left < n)) (fun wr => leftR wr p)
  case atStart => exact ⟨D, o, S, hP, hK, b1, hOh, hD⟩
  case round =>
    clear hP hK b1 hOh hD
    obtain ⟨n, o2, S2, hP, hK, b1, hO, hD⟩ := hrel
    replace hO := hO.out
    have hlw := Lib.hid hP.leftR
    obtain ⟨_, _, _, _, _, hcc⟩ := hP.cell
    cases o2 with
    | true =>
      have hf : R (.returned (encU ())) wr := hO.over () hP hK
      clear hO hP hK hD b1
      go_wp2_with fail
      first | exact hf | (refine bodyPost_ret (results_none rfl _ _ _) rfl ?_; exact hf)
    | false =>
      have hD := hD rfl
      cases n with
      | zero => omega
      | succ n =>
        rw [zeroP_succ] at hO
        have c_b1 := b1.cells
        have hOh := Lib.hid hO
        clear hO
        go_wp2_with fail
        replace hO := hOh.out
        clear hcc c_b1 hOh
        refine rstepL hO hK (reg_read_r B p false S2 r me _ hP hr ⟨hm0, hmr⟩) ?_
        clear hO hK hP
        intro x o3 S3 w4 hlf hlt hP hk hK hO
        replace b1 := b1.keep hk
        clear hk
        by_cases hx : x = 0
        · have dx : (x == 0) = true := by simpa using hx
          rw [if_pos hx] at hO
          have hf : R (.returned (encU ())) w4 := hO.ret hP hK
          clear hO hP hK hx b1
          go_wp2_with fail
          first | exact hf | (refine bodyPost_ret (results_none rfl _ _ _) rfl ?_; exact hf)
        · have dx : (x == 0) = false := by simpa using hx
          rw [if_neg hx] at hO
          clear hx
          have hlw2 := Lib.hid hP.leftR
          have hOh := Lib.hid hO
          clear hO
          go_wp2_with fail
          refine ⟨⟨n, o3, S3, hP, hK, b1, hOh, fun h => ?_⟩, ?_⟩
          · have := (hlt h).2 (asks_regR _ _ ht)
            omega
          · rw [hlw.out, hlw2.out]
            cases o3 with
            | true => simp; omega
            | false =>
              have := (hlt rfl).2 (asks_regR _ _ ht)
              simp
              omega
set_option maxRecDepth 100000 in
theorem fset_r (B p : Nat) (o : Bool) (S : TS) (r : Reg) (me v : Int) (w : World) (h : RAt B w p o S) (hr : r.ok) (hm : 0 ≤ me ∧ me < r.n) :
    Calls Tryz.prog 119 #[.pointer (some ⟨p, 0, none⟩), encR r, .int .i64 me, .int .i64 v] w (RPost encU B p w (regW r me v) o S) := by
  generalize hR : RPost encU B p w (regW r me v) o S = R
  have hO : ROwes R encU B p w (regW r me v) o S := hR ▸ rowes _ _ _ _ _ _ _
  clear hR
  unfold encR
  have hK := Keep.refl [3, 4, 5] B p w
  have hP := h
  have b1 := hP.held (.cells #[.int .i64 r.kind, .int .i64 r.base, .int .i64 r.loc, .int .i64 r.n, .int .i64 r.wr, .int .i64 r.rd, .int .i64 r.top] 77)
  replace hK := hK.trans (Keep.alloc (.cells #[.int .i64 r.kind, .int .i64 r.base, .int .i64 r.loc, .int .i64 r.n, .int .i64 r.wr, .int .i64 r.rd, .int .i64 r.top] 77) hP.lt hP.le)
  replace hP := hP.alloc (.cells #[.int .i64 r.kind, .int .i64 r.base, .int .i64 r.loc, .int .i64 r.n, .int .i64 r.wr, .int .i64 r.rd, .int .i64 r.top] 77)
  have c_b1 := b1.cells
  clear h
  obtain ⟨_, _, _, _, _, hcc⟩ := hP.cell
  have hOh := Lib.hid hO
  clear hO
  go_enter Tryz.func119, Tryz.ntmps119
  cases o with
  | true =>
    have hPh := Lib.hid hP
    have hKh := Lib.hid hK
    clear hP hK
    go_wp2_with fail
    have hf : R (.returned (encU ())) _ := hOh.out.over () hPh.out hKh.out
    first | exact hf | (refine bodyPost_ret (results_none rfl _ _ _) rfl ?_; exact hf)
  | false =>
    go_wp2_with fail
    replace hO := hOh.out
    clear hOh hcc c_b1 b1
    refine rlast hO hK (reg_write_r B p false S r me v _ hP hr hm) ?_
    clear hO hK hP
    intro u o2 S2 w3 hP hk hK hO
    have hf : R (.returned (encU u)) w3 := hO.ret hP hK
    clear hO hP hK hk
    go_wp2_with fail
    first | exact hf | (refine bodyPost_ret (results_none rfl _ _ _) rfl ?_; exact hf)
set_option maxRecDepth 100000 in
set_option maxHeartbeats 1000000 in
theorem fwait_p (B p D : Nat) (S : TS) (r : Reg) (me : Int) (w : World) (h : Plays B w p S) (hr : r.ok) (hm0 : 0 ≤ me) (hmr : me < r.n) (ht : r.told me) (hD : S.left < D) :
    Calls Tryz.prog 116 #[.pointer (some ⟨p, 0, none⟩), encR r, .int .i64 me] w (Post encB B p w (((zeroP r me D).bind fun _ => .ret true).run S)) := by
  generalize hR : Post encB B p w (((zeroP r me D).bind fun _ => .ret true).run S) = R
  have hO : Owes R encB B p w (((zeroP r me D).bind fun _ => .ret true).run S) := hR ▸ owes _ _ _ _ _
  clear hR
  have hCm := fun w => cells_pm r me w hr ht ⟨hm0, hmr⟩
  have hRd := fun S w (h : Plays B w p S) => reg_read_p B p S r me w h hr ⟨hm0, hmr⟩
  unfold encR at hCm hRd ⊢
  have hK := Keep.refl [2, 3, 4] B p w
  have hP := h
  have b1 := hP.held (.cells #[.int .i64 r.kind, .int .i64 r.base, .int .i64 r.loc, .int .i64 r.n, .int .i64 r.wr, .int .i64 r.rd, .int .i64 r.top] 77)
  replace hK := hK.trans (Keep.alloc (.cells #[.int .i64 r.kind, .int .i64 r.base, .int .i64 r.loc, .int .i64 r.n, .int .i64 r.wr, .int .i64 r.rd, .int .i64 r.top] 77) hP.lt hP.le)
  replace hP := hP.alloc (.cells #[.int .i64 r.kind, .int .i64 r.base, .int .i64 r.loc, .int .i64 r.n, .int .i64 r.wr, .int .i64 r.rd, .int .i64 r.top] 77)
  have c_b1 := b1.cells
  clear h
  have hRh := Lib.hid hRd
  clear hRd
  go_enter Tryz.func116, Tryz.ntmps116
  go_wp2_with fail
  clear c_b1
  generalize hbb : w.heap.size = b at *
  generalize World.alloc _ _ = W0 at *
  have hOh := Lib.hid hO
  clear hO hbb
  go_loopw [] (fun wr => ∃ (n : Nat) (S2 : TS), Plays B wr p S2 ∧ KeepP B p w wr ∧ HeldP wr p b (.cells #[.int .i64 r.kind, .int .i64 r.base, .int .i64 r.loc, .int .i64 r.n, .int .i64 r.wr, .int .i64 r.rd, .int .i64 r.top] 77) ∧ Hid (Owes R encB B p w (((zeroP r me n).bind fun _ => .ret true).run S2)) ∧ S2.left < n) (fun wr => leftW 1 3 wr p)
  case atStart => exact ⟨D, S, hP, hK, b1, hOh, hD⟩
  case round =>
    clear hP hK b1 hOh hD
    obtain ⟨n, S2, hP, hK, b1, hO, hD⟩ := hrel
    replace hO := hO.out
    have hlw := Lib.hid hP.left
    cases n with
    | zero => omega
    | succ n =>
      rw [zeroP_bind] at hO
      have c_b1 := b1.cells
      have hOh := Lib.hid hO
      clear hO
      go_wp2_with fail
      replace hO := hOh.out
      clear c_b1 hOh
      refine tstepL hO hK (hRh.out S2 _ hP) (fun _ h => ⟨rfl, h⟩) ?_
      clear hO hK hP
      intro x S3 w4 _ hlf hP hk hK hO
      replace hlf := hlf (asks_regR _ _ ht)
      replace b1 := b1.keep hk
      clear hk
      by_cases hx : x = 0
      · have dx : (x != 0) = false := by simpa using hx
        rw [if_pos hx] at hO
        have hf : R (.returned (encB true)) w4 := hO.done (v := true) hP hK
        clear hO hP hK hx b1
        go_wp2_with fail
        first | exact hf | (go_ret; exact hf)
      · have dx : (x != 0) = true := by simpa using hx
        rw [if_neg hx] at hO
        clear hx
        have c_b1 := b1.cells
        have hOh := Lib.hid hO
        clear hO
        go_wp2_with fail
        refine (hCm _).mono ?_
        rintro e w6 ⟨cc, rfl, hcc, hx⟩
        replace b1 := b1.ext hx hP.lt
        replace hK := hK.trans (Keep.of_ext hx hP.lt hP.le)
        replace hP := hP.ext hx
        clear hx c_b1
        have hlw2 := Lib.hid hP.left
        go_wp2_with fail
        refine ⟨⟨n, S3, hP, hK, b1, hOh, by omega⟩, ?_⟩
        rw [hlw.out, hlw2.out]
        omega
set_option maxRecDepth 100000 in
theorem fwait_z (B p D : Nat) (S : TS) (r : Reg) (me : Int) (w : World) (h : Plays B w p S) (hr : r.ok) (hm0 : 0 ≤ me) (hmr : me < r.n) (hz : (regR r me).run S = (some 0, S)) :
    Calls Tryz.prog 116 #[.pointer (some ⟨p, 0, none⟩), encR r, .int .i64 me] w (Post encB B p w (((zeroP r me (D + 1)).bind fun _ => .ret true).run S)) := by
  generalize hR : Post encB B p w (((zeroP r me (D + 1)).bind fun _ => .ret true).run S) = R
  have hO : Owes R encB B p w (((zeroP r me (D + 1)).bind fun _ => .ret true).run S) := hR ▸ owes _ _ _ _ _
  clear hR
  have hRd := fun S w (h : Plays B w p S) => reg_read_p B p S r me w h hr ⟨hm0, hmr⟩
  unfold encR at hRd ⊢
  have hK := Keep.refl [2, 3, 4] B p w
  have hP := h
  have b1 := hP.held (.cells #[.int .i64 r.kind, .int .i64 r.base, .int .i64 r.loc, .int .i64 r.n, .int .i64 r.wr, .int .i64 r.rd, .int .i64 r.top] 77)
  replace hK := hK.trans (Keep.alloc (.cells #[.int .i64 r.kind, .int .i64 r.base, .int .i64 r.loc, .int .i64 r.n, .int .i64 r.wr, .int .i64 r.rd, .int .i64 r.top] 77) hP.lt hP.le)
  replace hP := hP.alloc (.cells #[.int .i64 r.kind, .int .i64 r.base, .int .i64 r.loc, .int .i64 r.n, .int .i64 r.wr, .int .i64 r.rd, .int .i64 r.top] 77)
  have c_b1 := b1.cells
  clear h
  have hRh := Lib.hid hRd
  have hzh := Lib.hid hz
  clear hRd hz
  go_enter Tryz.func116, Tryz.ntmps116
  go_wp2_with fail
  clear c_b1
  generalize hbb : w.heap.size = b at *
  generalize World.alloc _ _ = W0 at *
  have hOh := Lib.hid hO
  clear hO hbb
  go_loopw [] (fun wr => W0 = wr) (fun _ => 0)
  case atStart => rfl
  case round =>
    subst hrel
    have hO := hOh.out
    rw [zeroP_bind] at hO
    have c_b1 := b1.cells
    have hOk := Lib.hid hO
    clear hO hOh
    go_wp2_with fail
    replace hO := hOk.out
    clear c_b1 hOk
    refine tstep hO hK (hRh.out S _ hP) (fun _ h => ⟨rfl, h⟩) ?_
    clear hO hK hP
    intro x S3 w4 hr3 hP hk hK hO
    rw [hzh.out] at hr3
    obtain ⟨rfl, rfl⟩ : 0 = x ∧ S = S3 := by simpa using hr3
    rw [if_pos rfl] at hO
    have hf : R (.returned (encB true)) w4 := hO.done (v := true) hP hK
    clear hO hP hK b1 hk hr3
    go_wp2_with fail
    first | exact hf | (go_ret; exact hf)
set_option maxRecDepth 100000 in
theorem fzero_z (B p D : Nat) (o : Bool) (S : TS) (r : Reg) (me : Int) (w : World) (h : RAt B w p o S) (hr : r.ok) (hm0 : 0 ≤ me) (hmr : me < r.n) (hz : o = false → (regR r me).run S = (some 0, S)) :
    Calls Tryz.prog 175 #[.pointer (some ⟨p, 0, none⟩), encR r, .int .i64 me] w (RPost encU B p w (zeroP r me (D + 1)) o S) := by
  generalize hR : RPost encU B p w (zeroP r me (D + 1)) o S = R
  have hO : ROwes R encU B p w (zeroP r me (D + 1)) o S := hR ▸ rowes _ _ _ _ _ _ _
  clear hR
  have hRd := fun w (h : RAt B w p false S) => reg_read_r B p false S r me w h hr ⟨hm0, hmr⟩
  unfold encR at hRd ⊢
  have hK := Keep.refl [3, 4, 5] B p w
  have hP := h
  have b1 := hP.held (.cells #[.int .i64 r.kind, .int .i64 r.base, .int .i64 r.loc, .int .i64 r.n, .int .i64 r.wr, .int .i64 r.rd, .int .i64 r.top] 77)
  replace hK := hK.trans (Keep.alloc (.cells #[.int .i64 r.kind, .int .i64 r.base, .int .i64 r.loc, .int .i64 r.n, .int .i64 r.wr, .int .i64 r.rd, .int .i64 r.top] 77) hP.lt hP.le)
  replace hP := hP.alloc (.cells #[.int .i64 r.kind, .int .i64 r.base, .int .i64 r.loc, .int .i64 r.n, .int .i64 r.wr, .int .i64 r.rd, .int .i64 r.top] 77)
  have c_b1 := b1.cells
  clear h
  have hRh := Lib.hid hRd
  have hzh := Lib.hid hz
  clear hRd hz
  go_enter Tryz.func175, Tryz.ntmps175
  go_wp2_with fail
  clear c_b1
  generalize hbb : w.heap.size = b at *
  generalize World.alloc _ _ = W0 at *
  have hOh := Lib.hid hO
  clear hO hbb
  go_loopw [] (fun wr => W0 = wr) (fun _ => 0)
  case atStart => rfl
  case round =>
    subst hrel
    have hO := hOh.out
    clear hOh
    obtain ⟨_, _, _, _, _, hcc⟩ := hP.cell
    cases o with
    | true =>
      have hf : R (.returned (encU ())) W0 := hO.over () hP hK
      clear hO hP hK b1 hzh hRh
      go_wp2_with fail
      first | exact hf | (refine bodyPost_ret (results_none rfl _ _ _) rfl ?_; exact hf)
    | false =>
      rw [zeroP_succ] at hO
      have c_b1 := b1.cells
      have hOk := Lib.hid hO
      clear hO
      go_wp2_with fail
      replace hO := hOk.out
      clear c_b1 hOk hcc
      refine (hRh.out _ hP).mono ?_
      rintro e w4 ⟨x, o1, S3, rfl, hRef, hP4, hk⟩
      replace hO := hO.then hRef
      have hr3 := hRef.outcome
      rw [hzh.out (by trivial)] at hr3
      cases o1 with
      | true => simp at hr3
      | false =>
        obtain ⟨rfl, rfl⟩ : 0 = x ∧ S = S3 := by simpa using hr3
        rw [if_pos rfl] at hO
        have hf : R (.returned (encU ())) w4 := hO.ret hP4 (hK.trans hk)
        clear hO hP hK b1 hk hr3 hP4 hRef hzh hRh
        go_wp2_with fail
        first | exact hf | (refine bodyPost_ret (results_none rfl _ _ _) rfl ?_; exact hf)
end Go.Proofs.YtpcohbpeglledaaGreat
/-
  The fast lock: releasing, both sides.
-/
namespace Go.Proofs.YtpcohbpeglledaaGreat
open Go.RowKit Kv
set_option maxRecDepth 100000 in
set_option maxHeartbeats 1000000 in
theorem fastrel_r (B p N : Nat) (o : Bool) (S : TS) (alg mode base loc room : Int) (m : Nat) (rs : List Reg) (w : World) (h : RAt B w p o S) (h1 : 1 ≤ N) (h2 : N ≤ 8) (hm1 : m < N) (hl : layM (fastWants N) N mode base loc = some rs)
    (hok : ∀ r ∈ rs, r.ok ∧ r.n = N) (hn0 : S.nts.length = 0) :
    Calls Tryz.prog 52 #[.pointer (some ⟨p, 0, none⟩), .agg #[.int .i64 alg, .int .i64 N, .int .i64 mode, .int .i64 base, .int .i64 loc, .int .i64 room], .int .i64 m] w (RPost encU B p w (fastR rs m) o S) := by
  have hlen := layM_len hl
  rw [fastWants_len] at hlen
  generalize hR : RPost encU B p w (fastR rs m) o S = R
  have hO : ROwes R encU B p w (fastR rs m) o S := hR ▸ rowes _ _ _ _ _ _ _
  clear hR
  have hK := Keep.refl [3, 4, 5] B p w
  have hP := h
  have b1 := hP.held (.cells #[.int .i64 alg, .int .i64 N, .int .i64 mode, .int .i64 base, .int .i64 loc, .int .i64 room] 52)
  replace hK := hK.trans (Keep.alloc (.cells #[.int .i64 alg, .int .i64 N, .int .i64 mode, .int .i64 base, .int .i64 loc, .int .i64 room] 52) hP.lt hP.le)
  replace hP := hP.alloc (.cells #[.int .i64 alg, .int .i64 N, .int .i64 mode, .int .i64 base, .int .i64 loc, .int .i64 room] 52)
  have c_b1 := b1.cells
  clear h
  unfold fastR at hO
  obtain ⟨r1, hr1⟩ : ∃ r, rs[1]? = some r := ⟨_, List.getElem?_eq_getElem (by omega)⟩
  obtain ⟨rm, hrm⟩ : ∃ r, rs[2 + m]? = some r := ⟨_, List.getElem?_eq_getElem (by omega)⟩
  have hok1 := (hok _ (List.mem_of_getElem? hr1)).1
  have hm1' : (m : Int) < r1.n := by rw [(hok _ (List.mem_of_getElem? hr1)).2]; omega
  have hokm := (hok _ (List.mem_of_getElem? hrm)).1
  have hmm : (m : Int) < rm.n := by rw [(hok _ (List.mem_of_getElem? hrm)).2]; omega
  rw [regAt_of (show (1 : Int) = ((1 : Nat) : Int) from rfl) hr1, regAt_of (show (2 : Int) + (m : Int) = ((2 + m : Nat) : Int) from by omega) hrm] at hO
  have hw1 := IntWalk.i64_in ((2 : Int) + (m : Int)) (by omega)
  have hi2 : (2 : Int) + (m : Int) < (rs.length : Int) := by omega
  have hi0 : 0 ≤ (2 : Int) + (m : Int) := by omega
  have hi1 : ((2 : Int) + (m : Int)).toNat = 2 + m := by omega
  have hj2 : (1 : Nat) < rs.length := by omega
  have hj3 : (1 : Int) < (rs.length : Int) := by omega
  have hrh := Lib.hid (And.intro hr1 hrm)
  have hlM := Lib.hid hl
  clear hlen hr1 hrm hok hl
  go_enter Tryz.func52, Tryz.ntmps52
  go_wp2_with fail
  refine (fastregs_r alg mode base loc room N rs _ h1 h2 hlM.out).mono ?_
  rintro e w1 ⟨b, c, rfl, hge, hb, hcells, q1, q2, hx⟩
  have hreg : RegsAt [3, 4, 5] w1 p b rs := ⟨hb, hP.fresh hx hge, hcells⟩
  replace hK := hK.trans (Keep.of_ext hx hP.lt hP.le)
  replace hP := hP.ext hx
  clear hx hcells hge hb c_b1 b1
  go_wp2_with fail
  refine rstepN (notes_nt 5) hO hK (note_r B p o S 5 _ hP (by unfold maxAns; omega)) ?_
  clear hO hK hP
  intro u o1 S1 w2 _ _ _ hP hk hK hO
  replace hreg := hreg.keep hk
  clear hk
  obtain ⟨a0, a1, a2, a3, a4, a5, a6⟩ := hreg.nth hrh.out.1
  go_wp2_with fail
  clear a0 a1 a2 a3 a4 a5 a6
  refine rstepL hO hK (fset_r B p o1 S1 r1 m 0 _ hP hok1 ⟨by omega, hm1'⟩) ?_
  clear hO hK hP
  intro u o2 S2 w3 _ _ hP hk hK hO
  replace hreg := hreg.keep hk
  clear hk
  obtain ⟨a0, a1, a2, a3, a4, a5, a6⟩ := hreg.nth hrh.out.2
  go_wp2_with fail
  clear a0 a1 a2 a3 a4 a5 a6 hrh hreg
  refine rlast hO hK (fset_r B p o2 S2 rm m 0 _ hP hokm ⟨by omega, hmm⟩) ?_
  clear hO hK hP
  intro u o3 S3 w4 hP hk hK hO
  have hf : R (.returned (encU u)) w4 := hO.ret hP hK
  clear hO hP hK hk
  go_wp2_with fail
  first | exact hf | (refine bodyPost_ret (results_none rfl _ _ _) rfl ?_; exact hf)
set_option maxRecDepth 100000 in
set_option maxHeartbeats 1000000 in
theorem fastrel_p (B p N : Nat) (S : TS) (alg mode base loc room : Int) (m : Nat) (rs : List Reg) (w : World) (h : Plays B w p S) (h1 : 1 ≤ N) (h2 : N ≤ 8) (hm1 : m < N) (hl : layM (fastWants N) N mode base loc = some rs)
    (hok : ∀ r ∈ rs, r.ok ∧ r.n = N) (hn0 : S.nts.length = 0) :
    Calls Tryz.prog 51 #[.pointer (some ⟨p, 0, none⟩), .agg #[.int .i64 alg, .int .i64 N, .int .i64 mode, .int .i64 base, .int .i64 loc, .int .i64 room], .int .i64 m] w (Post encU B p w ((fastR rs m).run S)) := by
  have hlen := layM_len hl
  rw [fastWants_len] at hlen
  generalize hR : Post encU B p w ((fastR rs m).run S) = R
  have hO : Owes R encU B p w ((fastR rs m).run S) := hR ▸ owes _ _ _ _ _
  clear hR
  have hK := Keep.refl [2, 3, 4] B p w
  have hP := h
  have b1 := hP.held (.cells #[.int .i64 alg, .int .i64 N, .int .i64 mode, .int .i64 base, .int .i64 loc, .int .i64 room] 52)
  replace hK := hK.trans (Keep.alloc (.cells #[.int .i64 alg, .int .i64 N, .int .i64 mode, .int .i64 base, .int .i64 loc, .int .i64 room] 52) hP.lt hP.le)
  replace hP := hP.alloc (.cells #[.int .i64 alg, .int .i64 N, .int .i64 mode, .int .i64 base, .int .i64 loc, .int .i64 room] 52)
  have c_b1 := b1.cells
  clear h
  unfold fastR at hO
  go_enter Tryz.func51, Tryz.ntmps51
  go_wp2_with fail
  refine (fastlay_p alg mode base loc room m N rs _ h1 h2 hl (by omega) (by omega)).mono ?_
  rintro e w1 ⟨b, c, rfl, hge, hb, hcells, q1, q2, hx⟩
  have hreg : RegsAt [2, 3, 4] w1 p b rs := ⟨hb, hP.fresh hx hge, hcells⟩
  replace hK := hK.trans (Keep.of_ext hx hP.lt hP.le)
  replace hP := hP.ext hx
  obtain ⟨r1, hr1⟩ : ∃ r, rs[1]? = some r := ⟨_, List.getElem?_eq_getElem (by omega)⟩
  obtain ⟨rm, hrm⟩ : ∃ r, rs[2 + m]? = some r := ⟨_, List.getElem?_eq_getElem (by omega)⟩
  have hok1 := (hok _ (List.mem_of_getElem? hr1)).1
  have hm1' : (m : Int) < r1.n := by rw [(hok _ (List.mem_of_getElem? hr1)).2]; omega
  have hokm := (hok _ (List.mem_of_getElem? hrm)).1
  have hmm : (m : Int) < rm.n := by rw [(hok _ (List.mem_of_getElem? hrm)).2]; omega
  rw [regAt_of (show (1 : Int) = ((1 : Nat) : Int) from rfl) hr1, regAt_of (show (2 : Int) + (m : Int) = ((2 + m : Nat) : Int) from by omega) hrm] at hO
  have hw1 := IntWalk.i64_in ((2 : Int) + (m : Int)) (by omega)
  have hi2 : (2 : Int) + (m : Int) < (rs.length : Int) := by omega
  have hi0 : 0 ≤ (2 : Int) + (m : Int) := by omega
  have hi1 : ((2 : Int) + (m : Int)).toNat = 2 + m := by omega
  have hj2 : (1 : Nat) < rs.length := by omega
  have hj3 : (1 : Int) < (rs.length : Int) := by omega
  have hrh := Lib.hid (And.intro hr1 hrm)
  clear hx hcells hge hb b1 c_b1 hlen hr1 hrm hl hok
  go_wp2_with fail
  refine tstepN (notes_nt 5) hO hK (noteO hP (by unfold maxAns; omega)) (fun _ h => ⟨rfl, h⟩) ?_
  clear hO hK hP
  intro u S1 w2 _ _ _ hP hk hK hO
  replace hreg := hreg.keep hk
  clear hk
  obtain ⟨a0, a1, a2, a3, a4, a5, a6⟩ := hreg.nth hrh.out.1
  go_wp2_with fail
  clear a0 a1 a2 a3 a4 a5 a6
  refine tstepN (notes_regW _ _ _) hO hK (reg_write_p B p S1 r1 m 0 _ hP hok1 ⟨by omega, hm1'⟩) (fun _ h => ⟨rfl, h⟩) ?_
  clear hO hK hP
  intro u S2 w3 _ _ _ hP hk hK hO
  replace hreg := hreg.keep hk
  clear hk
  obtain ⟨a0, a1, a2, a3, a4, a5, a6⟩ := hreg.nth hrh.out.2
  go_wp2_with fail
  clear a0 a1 a2 a3 a4 a5 a6 hrh hreg
  refine tlast hO hK (reg_write_p B p S2 rm m 0 _ hP hokm ⟨by omega, hmm⟩) (fun _ h => ⟨rfl, h⟩) ?_
  clear hO hK hP
  intro u S3 w4 hr hP hk hK hO
  have hf := hO.done hP hK
  clear hO hP hK hr hk
  go_wp2_with fail
  first | exact hf | (refine bodyPost_ret (results_none rfl _ _ _) rfl ?_; exact hf)
end Go.Proofs.YtpcohbpeglledaaGreat
/-
  A scope in which the run jumps to several labels.
-/
namespace Kv
open Go
/-- So many values, one behind the other. -/
def Fr : Nat → (List Value → Prop) → Prop
  | 0, G => G []
  | n + 1, G => ∀ u : Value, Fr n fun l => G (u :: l)
theorem fr_list : ∀ (n : Nat) (G : List Value → Prop), Fr n G → ∀ l : List Value, l.length = n → G l
  | 0, G, h, [], _ => h
  | n + 1, G, h, u :: l, hl => fr_list n (fun l => G (u :: l)) (h u) l (by simpa using hl)
/-- A frame of so many slots is its slots. -/
theorem fr_act (n : Nat) (G : Act → Prop) (h : Fr n fun l => G ⟨l.toArray, []⟩) (a : Act) (hd : a.defers = []) (hs : a.tmps.size = n) : G a := by
  obtain ⟨⟨l⟩, d⟩ := a
  obtain rfl : d = [] := hd
  exact fr_list n (fun l => G ⟨l.toArray, []⟩) h l (by simpa using hs)
/-- As Q; by a goto to label l: what J asks there. -/
def Jumps (J : Nat → Act → World → Prop) (Q : Exit → Act → World → Prop) : Exit → Act → World → Prop
  | .goto l, a, w => J l a w
  | e, a, w => Q e a w
section
variable {P : Program} {a : Act} {w : World} {J : Nat → Act → World → Prop} {Q : Exit → Act → World → Prop}
@[go_sem] theorem jumps_normal : Jumps J Q .normal a w = Q .normal a w := rfl
@[go_sem] theorem jumps_exit (id : Nat) : Jumps J Q (.exit id) a w = Q (.exit id) a w := rfl
@[go_sem] theorem jumps_ret : Jumps J Q .ret a w = Q .ret a w := rfl
@[go_sem] theorem jumps_panic (c : List PanicEntry) : Jumps J Q (.panic c) a w = Q (.panic c) a w := rfl
@[go_sem] theorem jumps_goto (l : Nat) : Jumps J Q (.goto l) a w = J l a w := rfl
/-- Each label with what holds where it is jumped to, and a measure that each pass lowers. -/
theorem wp_scope_labels {c : Code} (J : Nat → Act → World → Prop) (μ : Nat → Act → World → Nat) (first : c.wp P (Jumps J Q) a w)
    (pass : ∀ l a w, J l a w → ∃ rest, findLabel c l = some rest ∧ rest.wp P (Jumps (fun l' a' w' => J l' a' w' ∧ μ l' a' w' < μ l a w) Q) a w) : (Code.scope c).wp P Q a w := by
  intro b k cs
  have key : ∀ n l a w rest, findLabel c l = some rest → μ l a w = n → J l a w → ∃ e a' w', Q e a' w' ∧ Arrives P (lone (b.at a (.code rest :: .inScope c :: k)) cs w) b k cs e a' w' := by
    intro n
    induction n using Nat.strongRecOn with
    | _ n ih =>
      intro l a w rest hf hn hJ
      obtain ⟨rest', hf', hp⟩ := pass l a w hJ
      obtain rfl : rest = rest' := by rw [hf] at hf'; injection hf'
      obtain ⟨e, a₁, w₁, hq, harr⟩ := hp b (.inScope c :: k) cs
      cases e with
      | normal => exact ⟨.normal, a₁, w₁, hq, Steps.trans harr (.one step_inScope)⟩
      | exit id => exact ⟨.exit id, a₁, w₁, hq, fun k' hk => harr k' (by simp [exitTo, hk])⟩
      | goto l' =>
        obtain ⟨hJ', hlt⟩ := hq
        obtain ⟨rest2, hf2, _⟩ := pass l' a₁ w₁ hJ'
        have hg : gotoIn l' (.inScope c :: k) = some (.code rest2 :: .inScope c :: k) := by simp [gotoIn, hf2]
        obtain ⟨e₂, a₂, w₂, hq₂, harr₂⟩ := ih _ (by omega) l' a₁ w₁ rest2 hf2 rfl hJ'
        exact ⟨e₂, a₂, w₂, hq₂, .of_steps (harr _ hg) harr₂⟩
      | ret => exact ⟨_, a₁, w₁, hq, harr⟩
      | panic ch => exact ⟨_, a₁, w₁, hq, harr⟩
      | outgrown => exact ⟨_, a₁, w₁, hq, harr⟩
  obtain ⟨e, a₁, w₁, hq, harr⟩ := first b (.inScope c :: k) cs
  cases e with
  | normal => exact ⟨.normal, a₁, w₁, hq, .head step_scope (Steps.trans harr (.one step_inScope))⟩
  | exit id => exact ⟨.exit id, a₁, w₁, hq, fun k' hk => .head step_scope (harr k' (by simp [exitTo, hk]))⟩
  | goto l' =>
    obtain ⟨rest2, hf2, _⟩ := pass l' a₁ w₁ hq
    have hg : gotoIn l' (.inScope c :: k) = some (.code rest2 :: .inScope c :: k) := by simp [gotoIn, hf2]
    obtain ⟨e₂, a₂, w₂, hq₂, harr₂⟩ := key _ l' a₁ w₁ rest2 hf2 rfl hq
    exact ⟨e₂, a₂, w₂, hq₂, .of_steps (.head step_scope (harr _ hg)) harr₂⟩
  | ret => exact ⟨_, a₁, w₁, hq, .of_steps (.one step_scope) harr⟩
  | panic ch => exact ⟨_, a₁, w₁, hq, .of_steps (.one step_scope) harr⟩
  | outgrown => exact ⟨_, a₁, w₁, hq, .of_steps (.one step_scope) harr⟩
/-- As above; who runs into a label holds what holds where it is jumped to. -/
theorem wp_scope_fall {c : Code} (J : Nat → Act → World → Prop) (μ : Nat → Act → World → Nat)
    (pass : ∀ l a w, J l a w → ∃ rest, findLabel c l = some (.seq .skip rest) ∧ rest.wp P (Jumps (fun l' a' w' => J l' a' w' ∧ μ l' a' w' < μ l a w) Q) a w)
    (first : (∀ l rest a w, findLabel c l = some (.seq .skip rest) → J l a w → rest.wp P (Jumps J Q) a w) → c.wp P (Jumps J Q) a w) : (Code.scope c).wp P Q a w := by
  refine wp_scope_labels J μ (first fun l rest a w hf hJ => ?_) fun l a w hJ => ?_
  · obtain ⟨rest', hf', hp⟩ := pass l a w hJ
    obtain rfl : rest = rest' := by rw [hf] at hf'; simpa using hf'
    refine Code.wp_mono (fun e a2 w2 hq => ?_) hp
    cases e with
    | goto l' => exact hq.1
    | normal => exact hq
    | exit id => exact hq
    | ret => exact hq
    | panic ch => exact hq
    | outgrown => exact hq
  · obtain ⟨rest, hf, hp⟩ := pass l a w hJ
    exact ⟨_, hf, wp_seq (wp_skip hp)⟩
end
end Kv
/-
  The fast lock's tries, as the program walks them; steps that tell all.
-/
namespace Kv
theorem fastTry_bind {β : Type} (N : Nat) (l : List Reg) (n me : Int) (k : Nat) (f : Unit → Prog β) : (fastTry N l n me (k + 1)).bind f =
    (regW (regAt l (2 + me)) me 1).bind fun _ => (regW (regAt l 0) me (me + 1)).bind fun _ => (regR (regAt l 1) me).bind fun y =>
      if y = 0 then
        (regW (regAt l 1) me (me + 1)).bind fun _ => (regR (regAt l 0) me).bind fun x =>
          if x = me + 1 then f () else
            (regW (regAt l (2 + me)) me 0).bind fun _ => (forP (fun j _ => zeroP (regAt l (2 + j)) me N) (ranksFrom (-1) n.toNat 0) ()).bind fun _ =>
              (regR (regAt l 1) me).bind fun y => if y = me + 1 then f () else (zeroP (regAt l 1) me N).bind fun _ => (fastTry N l n me k).bind f
      else (regW (regAt l (2 + me)) me 0).bind fun _ => (zeroP (regAt l 1) me N).bind fun _ => (fastTry N l n me k).bind f := by
  simp only [fastTry, Prog.bind_assoc]
  congr 1; funext _; congr 1; funext _; congr 1; funext y
  by_cases hy : y = 0
  · simp only [if_pos hy, Prog.bind_assoc]
    congr 1; funext _; congr 1; funext x
    by_cases hx : x = me + 1
    · simp only [if_pos hx]; rfl
    · simp only [if_neg hx, Prog.bind_assoc]
      congr 1; funext _; congr 1; funext _; congr 1; funext z
      by_cases hz : z = me + 1
      · simp only [if_pos hz]; rfl
      · simp only [if_neg hz, Prog.bind_assoc]
  · simp only [if_neg hy, Prog.bind_assoc]
theorem zeroT_bind {β : Type} (r : Reg) (me : Int) (D : Nat) (f : Unit → Prog β) : (zeroP r me D).bind f = ((zeroP r me D).bind fun _ => Prog.ret true).bind fun _ => f () := by
  rw [Prog.bind_assoc]; rfl
theorem zeroT_run {r : Reg} {me : Int} {D : Nat} {S S1 : TS} {v : Bool} (h : ((zeroP r me D).bind fun _ => Prog.ret true).run S = (some v, S1)) : v = true ∧ (zeroP r me D).run S = (some (), S1) := by
  rw [Prog.run_bind] at h
  rcases hr : (zeroP r me D).run S with ⟨o, S2⟩
  rw [hr] at h
  cases o with
  | none => simp [thenR] at h
  | some u =>
    simp only [thenR, Prog.run, Prod.mk.injEq, Option.some.injEq] at h
    exact ⟨h.1.symm, by rw [← h.2]⟩
theorem notes_zeroT (r : Reg) (me : Int) (D : Nat) : ((zeroP r me D).bind fun _ => Prog.ret true).Notes 0 := (notes_zeroP r me D).bind0 fun _ => .ret _ _
end Kv
namespace Go.Proofs.YtpcohbpeglledaaGreat
open Go.RowKit Kv
/-- A step: what it told, what is left of the answers, how many notes there are. -/
theorem tstepA {α β : Type} {B p : Nat} {w0 w : World} {S : TS} {R : Ending → World → Prop} {P : Program} {f : FuncId} {args : Array Value} {K : Ending → World → Prop} {enc : α → Value} {enc' : β → Value} {T : Prog α} {g : α → Prog β} {k : Nat} (hN : T.Notes k)
    (hO : Owes R enc' B p w0 ((T.bind g).run S)) (hB : KeepP B p w0 w) (h : Calls P f args w (Post enc B p w (T.run S))) (hp : ∀ w', R (stopE p) w' → K (stopE p) w')
    (hk : ∀ v S1 w1, T.run S = (some v, S1) → S1.left ≤ S.left → (T.Asks → S1.left < S.left) → S1.nts.length ≤ S.nts.length + k → Plays B w1 p S1 → KeepP B p w w1 → KeepP B p w0 w1 → Owes R enc' B p w0 ((g v).run S1) → K (.returned (enc v)) w1) : Calls P f args w K := by
  refine tstep hO hB h hp fun v S1 w1 hr hP hk1 hk2 hO1 => hk v S1 w1 hr ?_ (fun ha => ha.left hr hP.1) ?_ hP hk1 hk2 hO1
  · have := Prog.run_left T S
    rw [hr] at this
    exact this
  · have := hN.run S
    rw [hr] at this
    exact this
/-- Two objects laid one behind the other. -/
theorem two_laid {B p b : Nat} {w : World} {S : TS} {rs : List Reg} (h : Plays B w p S) (hl : RegsAt [2, 3, 4] w p b rs) (o1 o2 : Obj) :
    HeldP ((w.alloc o1).alloc o2).drew p w.heap.size o1 ∧ HeldP ((w.alloc o1).alloc o2).drew p (w.heap.size + 1) o2 ∧ Plays B ((w.alloc o1).alloc o2).drew p S ∧ KeepP B p w ((w.alloc o1).alloc o2).drew ∧ RegsAt [2, 3, 4] ((w.alloc o1).alloc o2).drew p b rs := by
  have h2 := (h.alloc o1).held o2
  rw [World.size_alloc] at h2
  exact ⟨((h.held o1).alloc o2 (h.alloc o1).lt).drew, h2.drew, ((h.alloc o1).alloc o2).drew, ((Keep.alloc o1 h.lt h.le).trans (Keep.alloc o2 (h.alloc o1).lt (h.alloc o1).le)).drew, hl.extL ((((Ext.refl w).alloc o1).alloc o2).drew) h.lt⟩
end Go.Proofs.YtpcohbpeglledaaGreat
/-
  A scope in which the run jumps to several labels, inside a loop's round: but for some slots the frame stays as it was at the scope's start.
-/
namespace Kv
open Go
/-- A frame's slots, those of the mask at will. -/
def FrG : List Bool → List Value → (List Value → Prop) → Prop
  | [], l, G => G l
  | _ :: _, [], G => G []
  | true :: m, _ :: l, G => ∀ u : Value, FrG m l fun r => G (u :: r)
  | false :: m, v :: l, G => FrG m l fun r => G (v :: r)
/-- The second frame's slots where the mask says so, else the first one's. -/
def fillM : List Bool → List Value → List Value → List Value
  | [], l, _ => l
  | _ :: _, [], _ => []
  | _ :: _, _ :: _, [] => []
  | true :: m, _ :: l, u :: r => u :: fillM m l r
  | false :: m, v :: l, _ :: r => v :: fillM m l r
theorem frG_all : ∀ (m : List Bool) (l : List Value) (G : List Value → Prop), FrG m l G → ∀ r, r.length = l.length → r = fillM m l r → G r
  | [], l, G, h, r, _, he => by
    rw [fillM] at he
    rw [he]
    exact h
  | _ :: _, [], G, h, r, hl, _ => by
    obtain rfl : r = [] := List.length_eq_zero_iff.1 hl
    exact h
  | _ :: _, _ :: _, G, h, [], hl, _ => by simp at hl
  | true :: m, v :: l, G, h, u :: r, hl, he => by
    rw [FrG] at h
    rw [fillM] at he
    injection he with _ he
    exact frG_all m l (fun r => G (u :: r)) (h u) r (by simpa using hl) he
  | false :: m, v :: l, G, h, u :: r, hl, he => by
    rw [FrG] at h
    rw [fillM] at he
    injection he with h1 he
    subst h1
    exact frG_all m l (fun r => G (u :: r)) h r (by simpa using hl) he
/-- But for the mask's slots the frame is as t. -/
structure SameM (m : List Bool) (t : Array Value) (a : Act) : Prop where
  defers : a.defers = []
  size : a.tmps.toList.length = t.toList.length
  slots : a.tmps.toList = fillM m t.toList a.tmps.toList
section
variable {P : Program} {w : World} {Q : Exit → Act → World → Prop}
theorem wp_scope_mask {c : Code} {t : Array Value} (m : List Bool) (J : Nat → World → Prop) (μ : Nat → World → Nat)
    (pass : ∀ l w, J l w → (∀ l' rest a' w', findLabel c l' = some (.seq .skip rest) → SameM m t a' → J l' w' → μ l' w' < μ l w → rest.wp P (Jumps (fun l2 a2 w2 => (SameM m t a2 ∧ J l2 w2) ∧ μ l2 w2 < μ l w) Q) a' w') →
      FrG m t.toList fun r => ∃ rest, findLabel c l = some (.seq .skip rest) ∧ rest.wp P (Jumps (fun l2 a2 w2 => (SameM m t a2 ∧ J l2 w2) ∧ μ l2 w2 < μ l w) Q) ⟨r.toArray, []⟩ w)
    (first : (∀ l rest a w, findLabel c l = some (.seq .skip rest) → SameM m t a → J l w → rest.wp P (Jumps (fun l a w => SameM m t a ∧ J l w) Q) a w) → c.wp P (Jumps (fun l a w => SameM m t a ∧ J l w) Q) ⟨t, []⟩ w) : (Code.scope c).wp P Q ⟨t, []⟩ w := by
  refine wp_scope_fall (fun l a w => SameM m t a ∧ J l w) (fun l _ w => μ l w) ?_ fun hf => first fun l rest a w h1 h2 h3 => hf l rest a w h1 ⟨h2, h3⟩
  have key : ∀ n l a w, μ l w = n → SameM m t a → J l w → ∃ rest, findLabel c l = some (.seq .skip rest) ∧ rest.wp P (Jumps (fun l2 a2 w2 => (SameM m t a2 ∧ J l2 w2) ∧ μ l2 w2 < μ l w) Q) a w := by
    intro n
    induction n using Nat.strongRecOn with
    | _ n ih =>
      intro l a w hn hs hj
      have h := pass l w hj fun l' rest a' w' hl' hs' hj' hlt => by
        obtain ⟨rest', hr', hp⟩ := ih (μ l' w') (by omega) l' a' w' rfl hs' hj'
        obtain rfl : rest = rest' := by rw [hl'] at hr'; simpa using hr'
        refine Code.wp_mono (fun e a2 w2 hq => ?_) hp
        cases e with
        | goto l2 => exact ⟨hq.1, Nat.lt_trans hq.2 hlt⟩
        | normal => exact hq
        | exit id => exact hq
        | ret => exact hq
        | panic ch => exact hq
        | outgrown => exact hq
      have h2 := frG_all m t.toList _ h a.tmps.toList hs.size hs.slots
      obtain ⟨⟨tl⟩, d⟩ := a
      obtain rfl : d = [] := hs.defers
      exact h2
  exact fun l a w h => key _ l a w rfl h.1 h.2
end
end Kv
/-
  The black-white bakery acquired, by the program.
-/
namespace Go.Proofs.YtpcohbpeglledaaGreat
open Go.RowKit Kv
theorem halves_p (x : Int) (w : World) (h : 0 ≤ x) (h2 : x ≤ 1048576) : Calls Tryz.prog 124 #[.int .i64 x] w fun e w' => e = .returned (.tuple #[.int .i64 (x / 2), .int .i64 (x % 2)]) ∧ w = w' := by
  have e1 : IntKind.i64.wrap (x.tdiv 2) = x / 2 := by
    rw [Int.tdiv_eq_ediv_of_nonneg h]
    exact IntWalk.i64_in _ (by omega)
  go_enter Tryz.func124, Tryz.ntmps124
  go_wp2_with fail
  first | go_ret2 | go_ret
  exact ⟨rfl, rfl⟩
set_option maxRecDepth 100000 in
set_option maxHeartbeats 4000000 in
theorem bwacq_p (B p N D : Nat) (S : TS) (alg mode base loc room : Int) (m : Nat) (rs : List Reg) (w : World) (h : Plays B w p S) (h1 : 1 ≤ N) (h2 : N ≤ 8) (hm1 : m < N) (hl : layM (bwWants N) N mode base loc = some rs) (hlc : 0 ≤ loc ∧ loc ≤ 32768)
    (hok : ∀ r ∈ rs, r.ok ∧ r.n = N) (htold : ∀ (i : Nat) r, rs[i]? = some r → i ≠ 1 + m → i ≠ 1 + N + m → 2 ≤ N → r.told m) (hta : TameA S) (hD : S.left < D) (hn0 : S.nts.length = 0) :
    Calls Tryz.prog 57 #[.pointer (some ⟨p, 0, none⟩), .agg #[.int .i64 alg, .int .i64 N, .int .i64 mode, .int .i64 base, .int .i64 loc, .int .i64 room], .int .i64 m] w (Post encI B p w ((bwA D rs (loc + sumL rs) N m).run S)) := by
  have hlen := layM_len hl
  rw [bwWants_len] at hlen
  generalize hR : Post encI B p w ((bwA D rs (loc + sumL rs) N m).run S) = R
  have hO : Owes R encI B p w ((bwA D rs (loc + sumL rs) N m).run S) := hR ▸ owes _ _ _ _ _
  clear hR
  have hK := Keep.refl [2, 3, 4] B p w
  have hP := h
  have b1 := hP.held (.cells #[.int .i64 alg, .int .i64 N, .int .i64 mode, .int .i64 base, .int .i64 loc, .int .i64 room] 52)
  replace hK := hK.trans (Keep.alloc (.cells #[.int .i64 alg, .int .i64 N, .int .i64 mode, .int .i64 base, .int .i64 loc, .int .i64 room] 52) hP.lt hP.le)
  replace hP := hP.alloc (.cells #[.int .i64 alg, .int .i64 N, .int .i64 mode, .int .i64 base, .int .i64 loc, .int .i64 room] 52)
  have c_b1 := b1.cells
  clear h
  rw [bwA_eq] at hO
  obtain ⟨r0, hr0⟩ : ∃ r, rs[0]? = some r := ⟨_, List.getElem?_eq_getElem (by omega)⟩
  obtain ⟨rc, hrc⟩ : ∃ r, rs[1 + m]? = some r := ⟨_, List.getElem?_eq_getElem (by omega)⟩
  obtain ⟨rm, hrm⟩ : ∃ r, rs[1 + N + m]? = some r := ⟨_, List.getElem?_eq_getElem (by omega)⟩
  have hok0 := (hok _ (List.mem_of_getElem? hr0)).1
  have hm0' : (m : Int) < r0.n := by rw [(hok _ (List.mem_of_getElem? hr0)).2]; omega
  have hokc := (hok _ (List.mem_of_getElem? hrc)).1
  have hmc : (m : Int) < rc.n := by rw [(hok _ (List.mem_of_getElem? hrc)).2]; omega
  have hokm := (hok _ (List.mem_of_getElem? hrm)).1
  have hmm : (m : Int) < rm.n := by rw [(hok _ (List.mem_of_getElem? hrm)).2]; omega
  rw [regAt_of (show (0 : Int) = ((0 : Nat) : Int) from rfl) hr0, regAt_of (show (1 : Int) + (m : Int) = ((1 + m : Nat) : Int) from by omega) hrc] at hO
  have hmN : (m : Int) < (N : Int) := by omega
  have hrh := Lib.hid (And.intro hr0 (And.intro hrc hrm))
  have hlM := Lib.hid hl
  have hlenh := Lib.hid hlen
  have hokh := Lib.hid hok
  have htoldh := Lib.hid htold
  clear hlen hr0 hrc hrm hok hl htold
  have hOh := Lib.hid hO
  clear hO
  go_enter Tryz.func57, Tryz.ntmps57
  go_wp2_with fail
  refine (bwlay_p alg mode base loc room m N rs _ h1 h2 hlM.out hlc (by omega) (by omega) r0 hrh.out.1).mono ?_
  rintro e w1 ⟨b, c1, c2, rfl, hge, hb, hcells, hx⟩
  have hreg : RegsAt [2, 3, 4] w1 p b rs := ⟨hb, hP.fresh hx hge, hcells⟩
  replace hK := hK.trans (Keep.of_ext hx hP.lt hP.le)
  replace hP := hP.ext hx
  clear hx hcells hge hb c_b1 b1
  generalize w.heap.size = z0 at *
  obtain ⟨obj, hobj⟩ : ∃ obj, obj = Obj.cells #[.int .i64 r0.kind, .int .i64 r0.base, .int .i64 r0.loc, .int .i64 r0.n, .int .i64 r0.wr, .int .i64 r0.rd, .int .i64 r0.top, .slice (some ⟨b, 7, none⟩) N c1, .slice (some ⟨b, (1 + N) * 7, none⟩) N c2, .int .i64 (loc + sumL rs)] 107 := ⟨_, rfl⟩
  have g1 := hP.held obj
  replace hreg := hreg.extL ((Ext.refl w1).alloc obj) hP.lt
  replace hK := hK.trans (Keep.alloc obj hP.lt hP.le)
  replace hP := hP.alloc obj
  rw [hobj] at g1 hreg hK hP
  clear hobj obj
  go_wp2_with fail
  generalize w1.heap.size = z at *
  generalize w1.alloc _ = W at *
  refine tstepA (notes_nt 1) hOh.out hK (noteO hP (by unfold maxAns; omega)) (fun _ h => ⟨rfl, h⟩) ?_
  clear hOh hK hP
  intro u S1 w2 hrun hlf _ hnn hP hk hK hO
  replace hD := Nat.lt_of_le_of_lt hlf hD
  replace hn0 : S1.nts.length ≤ 1 := by omega
  replace hta := hta.run hrun
  replace hreg := hreg.keep hk
  replace g1 := g1.keep hk
  clear hk hrun hlf hnn
  have hOh := Lib.hid hO
  clear hO
  have c_g := g1.cells
  obtain ⟨a0, a1, a2, a3, a4, a5, a6⟩ := hreg.nth hrh.out.2.1
  have hsh : (1 + m) * 7 = 7 + m * 7 := by omega
  rw [hsh] at a0 a1 a2 a3 a4 a5 a6
  go_wp2_with fail
  clear a0 a1 a2 a3 a4 a5 a6 c_g
  refine tstepA (notes_regW _ _ _) hOh.out hK (reg_write_p B p S1 rc m 1 _ hP hokc ⟨by omega, hmc⟩) (fun _ h => ⟨rfl, h⟩) ?_
  clear hOh hK hP
  intro u S2 w3 hrun hlf _ hnn hP hk hK hO
  replace hD := Nat.lt_of_le_of_lt hlf hD
  replace hn0 : S2.nts.length ≤ 1 := by omega
  replace hta := hta.run hrun
  replace hreg := hreg.keep hk
  replace g1 := g1.keep hk
  clear hk hrun hlf hnn
  have hOh := Lib.hid hO
  clear hO
  have c_g := g1.cells
  go_wp2_with fail
  clear c_g
  refine tstepA (notes_regR _ _) hOh.out hK (reg_read_p B p S2 r0 m _ hP hok0 ⟨by omega, hm0'⟩) (fun _ h => ⟨rfl, h⟩) ?_
  clear hOh hK hP
  intro y S3 w4 hrun hlf _ hnn hP hk hK hO
  replace hD := Nat.lt_of_le_of_lt hlf hD
  replace hn0 : S3.nts.length ≤ 1 := by omega
  replace hta := hta.run hrun
  replace hreg := hreg.keep hk
  replace g1 := g1.keep hk
  clear hk hrun hlf hnn
  have hOh := Lib.hid hO
  clear hO
  go_wp2_with fail
  refine (bwbit_p y _).mono ?_
  rintro e w' ⟨rfl, rfl⟩
  have hbx : bitM y = 0 ∨ bitM y = 1 := by unfold bitM; split <;> simp
  generalize bitM y = bc at *
  have c_g := g1.cells
  go_wp2_with fail
  clear c_g
  refine tstepA (notes_st _ _) hOh.out hK (setO hP) (fun _ h => ⟨rfl, h⟩) ?_
  clear hOh hK hP
  intro u S4 w5 hrun hlf _ hnn hP hk hK hO
  replace hD := Nat.lt_of_le_of_lt hlf hD
  replace hn0 : S4.nts.length ≤ 1 := by omega
  replace hta := hta.run hrun
  replace hreg := hreg.keep hk
  replace g1 := g1.keep hk
  clear hk hrun hlf hnn
  have hOh := Lib.hid hO
  clear hO
  have c_g := g1.cells
  go_wp2_with fail
  obtain ⟨F, hF⟩ : ∃ F : Int → Prog Int, F = bwThrough D rs N m bc := ⟨_, rfl⟩
  replace hO := hOh.out
  rw [← hF, Int.toNat_natCast] at hO
  clear hOh
  have hOh := Lib.hid hO
  have hFh := Lib.hid hF
  clear hO hF c_g
  go_loopw [10, 51] (fun u i wr => ∃ (j : Nat) (tv : Int) (S5 : TS), i = .int .i64 j ∧ u = .int .i64 tv ∧ 0 ≤ tv ∧ tv ≤ 1048576 ∧ j ≤ N ∧ Plays B wr p S5 ∧ KeepP B p w wr ∧ RegsAt [2, 3, 4] wr p b rs ∧ HeldP wr p z (.cells #[.int .i64 r0.kind, .int .i64 r0.base, .int .i64 r0.loc, .int .i64 r0.n, .int .i64 r0.wr, .int .i64 r0.rd, .int .i64 r0.top, .slice (some ⟨b, 7, none⟩) N c1, .slice (some ⟨b, (1 + N) * 7, none⟩) N c2, .int .i64 (loc + sumL rs)] 107) ∧ S5.left < D ∧ S5.nts.length ≤ 1 ∧ TameA S5 ∧ Hid (Owes R encI B p w (((forP (fun j t => (regR (regAt rs (1 + (N : Int) + j)) m).bind fun x => .ret (if x % 2 = bc then max t (x / 2) else t)) (ranksFrom m (N - j) j) tv).bind F).run S5))) (fun _ i _ => N - (intOf i).toNat)
  case atStart => exact ⟨0, 0, S4, rfl, rfl, by omega, by omega, by omega, hP, hK, hreg, g1, hD, hn0, hta, hOh⟩
  case round =>
    clear hP hK hreg g1 hD hn0 hta hOh
    obtain ⟨j, tv, S5, rfl, rfl, ht0, ht1, hj, hP, hK, hreg, g1, hD, hn0, hta, hO⟩ := hrel
    replace hO := hO.out
    by_cases hjN : j < N
    · have dj : decide ((j : Int) < (N : Int)) = true := by rw [decide_eq_true_eq]; omega
      obtain ⟨g, hg⟩ : ∃ g, N - j = g + 1 := ⟨N - j - 1, by omega⟩
      obtain ⟨rj, hrj⟩ : ∃ r, rs[1 + N + j]? = some r := ⟨_, List.getElem?_eq_getElem (by have := hlenh.out; omega)⟩
      have hokj := (hokh.out _ (List.mem_of_getElem? hrj)).1
      have hmj : (m : Int) < rj.n := by rw [(hokh.out _ (List.mem_of_getElem? hrj)).2]; omega
      have hsj : (1 + N + j) * 7 = (1 + N) * 7 + j * 7 := by omega
      obtain ⟨a0, a1, a2, a3, a4, a5, a6⟩ := hreg.nth hrj
      rw [hsj] at a0 a1 a2 a3 a4 a5 a6
      have bn := hP.held (.cells #[.int .i64 rj.kind, .int .i64 rj.base, .int .i64 rj.loc, .int .i64 rj.n, .int .i64 rj.wr, .int .i64 rj.rd, .int .i64 rj.top] 77)
      have hKn := hK.trans (Keep.alloc (.cells #[.int .i64 rj.kind, .int .i64 rj.base, .int .i64 rj.loc, .int .i64 rj.n, .int .i64 rj.wr, .int .i64 rj.rd, .int .i64 rj.top] 77) hP.lt hP.le)
      have hPn := hP.alloc (.cells #[.int .i64 rj.kind, .int .i64 rj.base, .int .i64 rj.loc, .int .i64 rj.n, .int .i64 rj.wr, .int .i64 rj.rd, .int .i64 rj.top] 77)
      have g1n := g1.alloc (.cells #[.int .i64 rj.kind, .int .i64 rj.base, .int .i64 rj.loc, .int .i64 rj.n, .int .i64 rj.wr, .int .i64 rj.rd, .int .i64 rj.top] 77) hP.lt
      have hregn := hreg.extL ((Ext.refl wr).alloc (.cells #[.int .i64 rj.kind, .int .i64 rj.base, .int .i64 rj.loc, .int .i64 rj.n, .int .i64 rj.wr, .int .i64 rj.rd, .int .i64 rj.top] 77)) hP.lt
      have c_bn := bn.cells
      by_cases hjm : j = m
      · subst hjm
        rw [hg, ranks_skip, show g = N - (j + 1) from by omega] at hO
        have hf := Lib.hid hO
        clear hO hg hK hP g1 hreg
        have djm : ((j : Int) == (j : Int)) = true := by simp
        go_wp2_with fail
        refine ⟨⟨j + 1, tv, S5, by go_num, rfl, ht0, ht1, by omega, hPn, hKn, hregn, g1n, by omega, by omega, hta, hf⟩, ?_⟩
        simp [intOf]; omega
      · have djm : ((j : Int) == (m : Int)) = false := by rw [beq_eq_false_iff_ne]; omega
        have htj := htoldh.out _ rj hrj (by omega) (by omega) (by omega)
        rw [hg, ranks_cons _ _ _ (by omega), bwMost_cons, regAt_of (show (1 : Int) + (N : Int) + (j : Int) = ((1 + N + j : Nat) : Int) from by omega) hrj, show g = N - (j + 1) from by omega] at hO
        have hOh := Lib.hid hO
        clear hO hg hK hP g1 hreg hrj
        go_wp2_with fail
        clear a0 a1 a2 a3 a4 a5 a6 c_bn bn
        refine tstepA (notes_regR _ _) hOh.out hKn (reg_read_p B p S5 rj m _ hPn hokj ⟨by omega, hmj⟩) (fun _ h => ⟨rfl, h⟩) ?_
        clear hOh hKn hPn
        intro x S6 w6 hrun hlf _ hnn hP hk hK hO
        have hxb := regR_bd hokj (told_ne htj) hta hrun
        replace hta := hta.run hrun
        replace hreg := hregn.keep hk
        replace g1 := g1n.keep hk
        clear hregn g1n hrun hk
        have hOh := Lib.hid hO
        clear hO
        go_wp2_with fail
        refine (halves_p x _ hxb.1 hxb.2).mono ?_
        rintro e w' ⟨rfl, rfl⟩
        by_cases hc : x % 2 = bc
        · have dc : (x % 2 == bc) = true := by rw [beq_iff_eq]; exact hc
          replace hO := hOh.out
          rw [if_pos hc] at hO
          have hf := Lib.hid hO
          clear hOh hO hc
          have hx2 : 0 ≤ max tv (x / 2) ∧ max tv (x / 2) ≤ 1048576 := by omega
          go_wp2_with fail
          refine ⟨⟨j + 1, max tv (x / 2), S6, by go_num, ?_, hx2.1, hx2.2, by omega, hP, hK, hreg, g1, by omega, by omega, hta, hf⟩, ?_⟩
          · rfl
          · simp [intOf]; omega
        · have dc : (x % 2 == bc) = false := by rw [beq_eq_false_iff_ne]; exact hc
          replace hO := hOh.out
          rw [if_neg hc] at hO
          have hf := Lib.hid hO
          clear hOh hO hc
          go_wp2_with fail
          refine ⟨⟨j + 1, tv, S6, by go_num, rfl, ht0, ht1, by omega, hP, hK, hreg, g1, by omega, by omega, hta, hf⟩, ?_⟩
          simp [intOf]; omega
    · obtain rfl : N = j := by omega
      have dj : decide ((N : Int) < (N : Int)) = false := by simp
      rw [Nat.sub_self, ranks_zero, forP_nilB, hFh.out] at hO
      unfold bwThrough at hO
      rw [regAt_of (show (1 : Int) + (m : Int) = ((1 + m : Nat) : Int) from by omega) hrh.out.2.1, regAt_of (show (1 : Int) + (N : Int) + (m : Int) = ((1 + N + m : Nat) : Int) from by omega) hrh.out.2.2] at hO
      have hOh := Lib.hid hO
      clear hO
      have hw1 := IntWalk.i64_in (tv + 1) (by omega)
      have hw2 := IntWalk.i64_in (2 * (tv + 1)) (by omega)
      have hw3 := IntWalk.i64_in (2 * (tv + 1) + bc) (by omega)
      have hsm : (1 + N + m) * 7 = (1 + N) * 7 + m * 7 := by omega
      obtain ⟨a0, a1, a2, a3, a4, a5, a6⟩ := hreg.nth hrh.out.2.2
      rw [hsm] at a0 a1 a2 a3 a4 a5 a6
      have c_g := g1.cells
      go_wp2_with fail
      clear a0 a1 a2 a3 a4 a5 a6 c_g
      refine tstepA (notes_regW _ _ _) hOh.out hK (reg_write_p B p S5 rm m (2 * (tv + 1) + bc) _ hP hokm ⟨by omega, hmm⟩) (fun _ h => ⟨rfl, h⟩) ?_
      clear hOh hK hP
      intro u S6 wn hrun hlf _ hnn hP hk hK hO
      replace hD := Nat.lt_of_le_of_lt hlf hD
      replace hn0 : S6.nts.length ≤ 1 := by omega
      replace hta := hta.run hrun
      replace hreg := hreg.keep hk
      replace g1 := g1.keep hk
      clear hk hrun hlf hnn
      have hOh := Lib.hid hO
      clear hO
      have c_g := g1.cells
      obtain ⟨a0, a1, a2, a3, a4, a5, a6⟩ := hreg.nth hrh.out.2.1
      rw [hsh] at a0 a1 a2 a3 a4 a5 a6
      go_wp2_with fail
      clear a0 a1 a2 a3 a4 a5 a6 c_g
      refine tstepA (notes_regW _ _ _) hOh.out hK (reg_write_p B p S6 rc m 0 _ hP hokc ⟨by omega, hmc⟩) (fun _ h => ⟨rfl, h⟩) ?_
      clear hOh hK hP
      intro u S7 wn hrun hlf _ hnn hP hk hK hO
      replace hD := Nat.lt_of_le_of_lt hlf hD
      replace hn0 : S7.nts.length ≤ 1 := by omega
      replace hta := hta.run hrun
      replace hreg := hreg.keep hk
      replace g1 := g1.keep hk
      clear hk hrun hlf hnn
      have hOh := Lib.hid hO
      clear hO
      go_wp2_with fail
      refine tstepA (notes_nt 2) hOh.out hK (noteO hP (by unfold maxAns; omega)) (fun _ h => ⟨rfl, h⟩) ?_
      clear hOh hK hP
      intro u S8 wn hrun hlf _ hnn hP hk hK hO
      replace hD := Nat.lt_of_le_of_lt hlf hD
      replace hn0 : S8.nts.length ≤ 2 := by omega
      replace hta := hta.run hrun
      replace hreg := hreg.keep hk
      replace g1 := g1.keep hk
      clear hk hrun hlf hnn
      have hOh := Lib.hid hO
      clear hO
      have c_g := g1.cells
      obtain ⟨G, hG⟩ : ∃ G : Unit → Prog Int, G = fun _ => (nt 3).bind fun _ => .ret 0 := ⟨_, rfl⟩
      replace hO := hOh.out
      unfold bwIn at hO
      rw [← hG, Int.toNat_natCast] at hO
      clear hOh
      have hOh := Lib.hid hO
      have hGh := Lib.hid hG
      clear hO hG
      generalize hT : tv + 1 = T at *
      have hT0 : 1 ≤ T ∧ T ≤ 1048577 := by omega
      clear hT hw1 hw2 hw3
      go_wp2_with fail
      clear c_g
      go_loopw [101] (fun i wr => ∃ (j : Nat) (S5 : TS), i = .int .i64 j ∧ j ≤ N ∧ Plays B wr p S5 ∧ KeepP B p w wr ∧ RegsAt [2, 3, 4] wr p b rs ∧ HeldP wr p z (.cells #[.int .i64 r0.kind, .int .i64 r0.base, .int .i64 r0.loc, .int .i64 r0.n, .int .i64 r0.wr, .int .i64 r0.rd, .int .i64 r0.top, .slice (some ⟨b, 7, none⟩) N c1, .slice (some ⟨b, (1 + N) * 7, none⟩) N c2, .int .i64 (loc + sumL rs)] 107) ∧ S5.left < D ∧ S5.nts.length ≤ 2 ∧ TameA S5 ∧ Hid (Owes R encI B p w (((forP (fun j _ => bwFor rs D N m j T bc) (ranksFrom m (N - j) j) ()).bind G).run S5))) (fun i _ => N - (intOf i).toNat)
      case atStart => exact ⟨0, S8, rfl, by omega, hP, hK, hreg, g1, hD, hn0, hta, hOh⟩
      case round =>
        clear hP hK hreg g1 hD hn0 hta hOh
        obtain ⟨j, S5, rfl, hj, hP, hK, hreg, g1, hD, hn0, hta, hOh⟩ := hrel
        by_cases hjN : j < N
        · have dj : decide ((j : Int) < (N : Int)) = true := by rw [decide_eq_true_eq]; omega
          obtain ⟨g, hg⟩ : ∃ g, N - j = g + 1 := ⟨N - j - 1, by omega⟩
          go_wp2_with fail
          rename_i hKK
          replace hKK := Lib.hid hKK
          by_cases hjm : j = m
          · subst hjm
            replace hO := hOh.out
            rw [hg, ranks_skip, show g = N - (j + 1) from by omega] at hO
            have hf := Lib.hid hO
            clear hO hOh hg
            have djm : ((j : Int) == (j : Int)) = true := by simp
            refine wp_scope_straight ?_
            go_wp2_with fail
            refine hKK.out _ _ ?_
            go_wp2_with fail
            refine ⟨⟨j + 1, S5, by go_num, by omega, hP, hK, hreg, g1, by omega, by omega, hta, hf⟩, ?_⟩
            simp [intOf]; omega
          · have djm : ((j : Int) == (m : Int)) = false := by rw [beq_eq_false_iff_ne]; omega
            obtain ⟨rh, hrh1⟩ : ∃ r, rs[1 + j]? = some r := ⟨_, List.getElem?_eq_getElem (by have := hlenh.out; omega)⟩
            obtain ⟨rj, hrj⟩ : ∃ r, rs[1 + N + j]? = some r := ⟨_, List.getElem?_eq_getElem (by have := hlenh.out; omega)⟩
            have hokx := (hokh.out _ (List.mem_of_getElem? hrh1)).1
            have hmx : (m : Int) < rh.n := by rw [(hokh.out _ (List.mem_of_getElem? hrh1)).2]; omega
            have hokj := (hokh.out _ (List.mem_of_getElem? hrj)).1
            have hmj : (m : Int) < rj.n := by rw [(hokh.out _ (List.mem_of_getElem? hrj)).2]; omega
            have htx := htoldh.out _ rh hrh1 (by omega) (by omega) (by omega)
            have htj := htoldh.out _ rj hrj (by omega) (by omega) (by omega)
            obtain ⟨H, hH⟩ : ∃ H : Unit → Prog Int, H = fun _ => (forP (fun j _ => bwFor rs D N m j T bc) (ranksFrom m (N - (j + 1)) ((j : Int) + 1)) ()).bind G := ⟨_, rfl⟩
            replace hO := hOh.out
            rw [hg, ranks_cons _ _ _ (by omega), forP_consB, show g = N - (j + 1) from by omega, bwFor_bind, regAt_of (show (1 : Int) + (j : Int) = ((1 + j : Nat) : Int) from by omega) hrh1, ← hH] at hO
            have hHh := Lib.hid hH
            have hOh2 := Lib.hid hO
            have hrjh := Lib.hid (And.intro hrh1 hrj)
            clear hO hOh hg hH hrh1 hrj
            obtain ⟨J0, hJ0⟩ : ∃ J0 : World → Prop, ∀ wr, J0 wr ↔ ∃ (n : Nat) (S6 : TS), Plays B wr p S6 ∧ KeepP B p w wr ∧ RegsAt [2, 3, 4] wr p b rs ∧ HeldP wr p z (.cells #[.int .i64 r0.kind, .int .i64 r0.base, .int .i64 r0.loc, .int .i64 r0.n, .int .i64 r0.wr, .int .i64 r0.rd, .int .i64 r0.top, .slice (some ⟨b, 7, none⟩) N c1, .slice (some ⟨b, (1 + N) * 7, none⟩) N c2, .int .i64 (loc + sumL rs)] 107) ∧ S6.left < D ∧ S6.nts.length ≤ 2 ∧ TameA S6 ∧ S6.left < n ∧ Hid (Owes R encI B p w (((zeroP rh m n).bind fun _ => (bwWait rs N m j T bc D).bind H).run S6)) := ⟨_, fun _ => Iff.rfl⟩
            obtain ⟨J1, hJ1⟩ : ∃ J1 : World → Prop, ∀ wr, J1 wr ↔ ∃ (n : Nat) (S6 : TS), Plays B wr p S6 ∧ KeepP B p w wr ∧ RegsAt [2, 3, 4] wr p b rs ∧ HeldP wr p z (.cells #[.int .i64 r0.kind, .int .i64 r0.base, .int .i64 r0.loc, .int .i64 r0.n, .int .i64 r0.wr, .int .i64 r0.rd, .int .i64 r0.top, .slice (some ⟨b, 7, none⟩) N c1, .slice (some ⟨b, (1 + N) * 7, none⟩) N c2, .int .i64 (loc + sumL rs)] 107) ∧ S6.left < D ∧ S6.nts.length ≤ 2 ∧ TameA S6 ∧ S6.left < n ∧ Hid (Owes R encI B p w (((bwWait rs N m j T bc n).bind H).run S6)) := ⟨_, fun _ => Iff.rfl⟩
            refine wp_scope_mask [false, false, false, false, false, false, false, false, false, false, false, false, false, false, false, false, true, true, false, false, false, false, false, false, false, false, false, false, false, false, false, false, false, false, false, false, false, false, false, false, false, false, false, false, false, false, false, false, false, false, false, false, false, false, false, false, false, false, false, false, false, false, false, false, false, false, false, false, false, false, false, false, false, false, false, false, false, false, false, false, false, false, false, false, false, false, false, false, false, false, false, false, false, false, false, false, false, false, false, false, false, false, false, false, true, true, true, true, true, true, true, true, true, true, true, true, true, true, true, true, true, true, true, true, true, true, true, true, true, true, true, true, true, true, true, true, true, true, true, true, true, true, true, true, true, true, true, true, true, true, true, true, true, true, true, true, true, true, true, true, true, true, true, true] (fun l wr => l = 0 ∧ J0 wr ∨ l = 1 ∧ J1 wr) (fun _ wr => leftW 1 3 wr p) ?pass ?first
            case first =>
              intro hfall
              refine (fun (hfall : Hid _) => ?_) (Lib.hid hfall)
              go_wp2_with fail
              refine wp_label ?_
              rename_i hKK2
              replace hKK2 := Lib.hid hKK2
              refine hKK2.out _ _ ?_
              exact hfall.out 0 _ _ _ rfl ⟨rfl, rfl, rfl⟩ (.inl ⟨rfl, (hJ0 _).2 ⟨D, S5, hP, hK, hreg, g1, hD, hn0, hta, hD, hOh2⟩⟩)
            case pass =>
              clear hP hK hreg g1 hD hn0 hta hOh2
              intro l wq hrel ih
              refine (fun (ih : Hid _) => ?_) (Lib.hid ih)
              dsimp only [FrG]
              intro u16 u17 u104 u105 u106 u107 u108 u109 u110 u111 u112 u113 u114 u115 u116 u117 u118 u119 u120 u121 u122 u123 u124 u125 u126 u127 u128 u129 u130 u131 u132 u133 u134 u135 u136 u137 u138 u139 u140 u141 u142 u143 u144 u145 u146 u147 u148 u149 u150 u151 u152 u153 u154 u155 u156 u157 u158 u159 u160 u161 u162 u163
              rcases hrel with ⟨rfl, hrel⟩ | ⟨rfl, hrel⟩
              · rw [hJ0] at hrel
                obtain ⟨n, S6, hP, hK, hreg, g1, hD, hn0, hta, hDn, hOh⟩ := hrel
                cases n with
                | zero => omega
                | succ n =>
                  refine ⟨_, rfl, ?_⟩
                  replace hO := hOh.out
                  rw [zeroP_bind] at hO
                  clear hOh
                  have hOh := Lib.hid hO
                  clear hO
                  have hlw := Lib.hid hP.left
                  have c_g := g1.cells
                  obtain ⟨a0, a1, a2, a3, a4, a5, a6⟩ := hreg.nth hrjh.out.1
                  rw [show (1 + j) * 7 = 7 + j * 7 from by omega] at a0 a1 a2 a3 a4 a5 a6
                  go_wp2_with fail
                  clear a0 a1 a2 a3 a4 a5 a6 c_g
                  refine tstepA (notes_regR _ _) hOh.out hK (reg_read_p B p S6 rh m _ hP hokx ⟨by omega, hmx⟩) (fun _ h => ⟨rfl, h⟩) ?_
                  clear hOh hK hP
                  intro x S7 wn hrun hlf hla hnn hP hk hK hO
                  have hlt := hla (asks_regR _ _ htx)
                  replace hD := Nat.lt_of_le_of_lt hlf hD
                  replace hn0 := Nat.le_trans hnn hn0
                  replace hreg := hreg.keep hk
                  replace g1 := g1.keep hk
                  replace hta := hta.run hrun
                  clear hk hnn hrun hlf
                  have hlw2 := Lib.hid hP.left
                  by_cases hx : x = 0
                  · have dx : (x != 0) = false := by simpa using hx
                    rw [if_pos hx] at hO
                    have hOh := Lib.hid hO
                    clear hO hx
                    go_wp2_with fail
                    refine wp_label ?_
                    rename_i hKK2
                    replace hKK2 := Lib.hid hKK2
                    refine hKK2.out _ _ ?_
                    refine ih.out 1 _ _ _ rfl ⟨rfl, rfl, rfl⟩ (.inr ⟨rfl, (hJ1 _).2 ⟨D, S7, hP, hK, hreg, g1, hD, hn0, hta, hD, hOh⟩⟩) ?_
                    rw [hlw.out, hlw2.out]
                    exact hlt
                  · have dx : (x != 0) = true := by simpa using hx
                    rw [if_neg hx] at hO
                    have hOh := Lib.hid hO
                    clear hO hx
                    go_wp2_with fail
                    refine wp_goto ?_
                    refine And.intro ⟨⟨rfl, rfl, rfl⟩, .inl ⟨rfl, (hJ0 _).2 ⟨n, S7, hP, hK, hreg, g1, hD, hn0, hta, by omega, hOh⟩⟩⟩ ?_
                    rw [hlw.out, hlw2.out]
                    exact hlt
              · rw [hJ1] at hrel
                obtain ⟨n, S6, hP, hK, hreg, g1, hD, hn0, hta, hDn, hOh⟩ := hrel
                cases n with
                | zero => omega
                | succ n =>
                  refine ⟨_, rfl, ?_⟩
                  replace hO := hOh.out
                  rw [bwWait_bind, regAt_of (show (1 : Int) + (N : Int) + (j : Int) = ((1 + N + j : Nat) : Int) from by omega) hrjh.out.2, regAt_of (show (0 : Int) = ((0 : Nat) : Int) from rfl) hrh.out.1] at hO
                  clear hOh
                  have hOh := Lib.hid hO
                  clear hO
                  have hlw := Lib.hid hP.left
                  have c_g := g1.cells
                  obtain ⟨a0, a1, a2, a3, a4, a5, a6⟩ := hreg.nth hrjh.out.2
                  rw [show (1 + N + j) * 7 = (1 + N) * 7 + j * 7 from by omega] at a0 a1 a2 a3 a4 a5 a6
                  go_wp2_with fail
                  clear a0 a1 a2 a3 a4 a5 a6 c_g
                  refine tstepA (notes_regR _ _) hOh.out hK (reg_read_p B p S6 rj m _ hP hokj ⟨by omega, hmj⟩) (fun _ h => ⟨rfl, h⟩) ?_
                  clear hOh hK hP
                  intro x S7 wn hrun hlf hla hnn hP hk hK hO
                  have hlt := hla (asks_regR _ _ htj)
                  have hxb := regR_bd hokj (told_ne htj) hta hrun
                  replace hD := Nat.lt_of_le_of_lt hlf hD
                  replace hn0 := Nat.le_trans hnn hn0
                  replace hreg := hreg.keep hk
                  replace g1 := g1.keep hk
                  replace hta := hta.run hrun
                  clear hk hnn hrun
                  have hlt2 : S7.left < n := by omega
                  clear hla hlf
                  have hOh := Lib.hid hO
                  clear hO
                  go_wp2_with fail
                  refine (halves_p x _ hxb.1 hxb.2).mono ?_
                  rintro e w' ⟨rfl, rfl⟩
                  replace hO := hOh.out
                  clear hOh
                  generalize x / 2 = xt at *
                  generalize x % 2 = xc at *
                  clear hxb
                  by_cases hq0 : xt = 0
                  · have d0 : (xt == 0) = true := by rw [beq_iff_eq]; exact hq0
                    rw [if_pos hq0] at hO
                    have hOh := Lib.hid hO
                    clear hO hq0
                    replace hO := hOh.out
                    rw [hHh.out] at hO
                    have hf := Lib.hid hO
                    clear hO hOh
                    go_wp2_with fail
                    refine hKK.out _ _ ?_
                    go_wp2_with fail
                    refine ⟨⟨j + 1, S7, by go_num, by omega, hP, hK, hreg, g1, hD, hn0, hta, hf⟩, ?_⟩
                    simp [intOf]; omega
                  · have d0 : (xt == 0) = false := by rw [beq_eq_false_iff_ne]; exact hq0
                    rw [if_neg hq0] at hO
                    clear hq0
                    by_cases hqc : xc = bc
                    · have dc : (xc == bc) = true := by rw [beq_iff_eq]; exact hqc
                      have dc2 : (xc != bc) = false := by simpa using hqc
                      rw [if_pos hqc] at hO
                      clear hqc
                      by_cases hg1 : T < xt
                      · have d1 : decide (T < xt) = true := by rw [decide_eq_true_eq]; exact hg1
                        rw [if_pos (.inl hg1)] at hO
                        have hOh := Lib.hid hO
                        clear hO hg1
                        replace hO := hOh.out
                        rw [hHh.out] at hO
                        have hf := Lib.hid hO
                        clear hO hOh
                        go_wp2_with fail
                        refine hKK.out _ _ ?_
                        go_wp2_with fail
                        refine ⟨⟨j + 1, S7, by go_num, by omega, hP, hK, hreg, g1, hD, hn0, hta, hf⟩, ?_⟩
                        simp [intOf]; omega
                      · have d1 : decide (T < xt) = false := by rw [decide_eq_false_iff_not]; exact hg1
                        by_cases hg2 : xt = T
                        · have d2 : (xt == T) = true := by rw [beq_iff_eq]; exact hg2
                          by_cases hg3 : (m : Int) < (j : Int)
                          · have d3 : decide (m < j) = true := by rw [decide_eq_true_eq]; omega
                            rw [if_pos (.inr ⟨hg2, hg3⟩)] at hO
                            have hOh := Lib.hid hO
                            clear hO hg1 hg2 hg3
                            replace hO := hOh.out
                            rw [hHh.out] at hO
                            have hf := Lib.hid hO
                            clear hO hOh
                            go_wp2_with fail
                            refine hKK.out _ _ ?_
                            go_wp2_with fail
                            refine ⟨⟨j + 1, S7, by go_num, by omega, hP, hK, hreg, g1, hD, hn0, hta, hf⟩, ?_⟩
                            simp [intOf]; omega
                          · have d3 : decide (m < j) = false := by rw [decide_eq_false_iff_not]; omega
                            rw [if_neg (by omega)] at hO
                            have hOh := Lib.hid hO
                            clear hO hg1 hg2 hg3
                            have hlw2 := Lib.hid hP.left
                            go_wp2_with fail
                            first | refine wp_goto ?_ | skip
                            refine And.intro ⟨⟨rfl, rfl, rfl⟩, .inr ⟨rfl, (hJ1 _).2 ⟨n, S7, hP, hK, hreg, g1, hD, hn0, hta, by omega, hOh⟩⟩⟩ ?_
                            rw [hlw.out, hlw2.out]
                            omega
                        · have d2 : (xt == T) = false := by rw [beq_eq_false_iff_ne]; exact hg2
                          rw [if_neg (by omega)] at hO
                          have hOh := Lib.hid hO
                          clear hO hg1 hg2
                          have hlw2 := Lib.hid hP.left
                          go_wp2_with fail
                          first | refine wp_goto ?_ | skip
                          refine And.intro ⟨⟨rfl, rfl, rfl⟩, .inr ⟨rfl, (hJ1 _).2 ⟨n, S7, hP, hK, hreg, g1, hD, hn0, hta, by omega, hOh⟩⟩⟩ ?_
                          rw [hlw.out, hlw2.out]
                          omega
                    · have dc : (xc == bc) = false := by rw [beq_eq_false_iff_ne]; exact hqc
                      have dc2 : (xc != bc) = true := by simpa using hqc
                      rw [if_neg hqc] at hO
                      have hOh := Lib.hid hO
                      clear hO hqc
                      have c_g := g1.cells
                      go_wp2_with fail
                      clear c_g
                      refine tstepA (notes_regR _ _) hOh.out hK (reg_read_p B p S7 r0 m _ hP hok0 ⟨by omega, hm0'⟩) (fun _ h => ⟨rfl, h⟩) ?_
                      clear hOh hK hP
                      intro y2 S8 wn hrun hlf hla hnn hP hk hK hO
                      replace hD := Nat.lt_of_le_of_lt hlf hD
                      replace hn0 := Nat.le_trans hnn hn0
                      replace hreg := hreg.keep hk
                      replace g1 := g1.keep hk
                      replace hta := hta.run hrun
                      clear hk hnn hrun
                      have hOh := Lib.hid hO
                      clear hO
                      go_wp2_with fail
                      refine (bwbit_p y2 _).mono ?_
                      rintro e w' ⟨rfl, rfl⟩
                      replace hO := hOh.out
                      clear hOh
                      generalize bitM y2 = b2 at *
                      by_cases hb : b2 = bc
                      · have db : (b2 != bc) = false := by simpa using hb
                        rw [if_pos hb] at hO
                        have hOh := Lib.hid hO
                        clear hO hb
                        have hlw2 := Lib.hid hP.left
                        go_wp2_with fail
                        first | refine wp_goto ?_ | skip
                        refine And.intro ⟨⟨rfl, rfl, rfl⟩, .inr ⟨rfl, (hJ1 _).2 ⟨n, S8, hP, hK, hreg, g1, hD, hn0, hta, by omega, hOh⟩⟩⟩ ?_
                        rw [hlw.out, hlw2.out]
                        omega
                      · have db : (b2 != bc) = true := by simpa using hb
                        rw [if_neg hb] at hO
                        have hOh := Lib.hid hO
                        clear hO hb
                        replace hO := hOh.out
                        rw [hHh.out] at hO
                        have hf := Lib.hid hO
                        clear hO hOh
                        go_wp2_with fail
                        refine hKK.out _ _ ?_
                        go_wp2_with fail
                        refine ⟨⟨j + 1, S8, by go_num, by omega, hP, hK, hreg, g1, hD, hn0, hta, hf⟩, ?_⟩
                        simp [intOf]; omega
        · obtain rfl : N = j := by omega
          have dj : decide ((N : Int) < (N : Int)) = false := by simp
          replace hO := hOh.out
          rw [Nat.sub_self, ranks_zero, forP_nilB, hGh.out] at hO
          have hOh2 := Lib.hid hO
          clear hO hOh
          go_wp2_with fail
          refine tstepN (notes_nt 3) hOh2.out hK (noteO hP (by unfold maxAns; omega)) (fun _ h => ⟨rfl, h⟩) ?_
          clear hOh2 hK hP
          intro u S9 w9 _ _ _ hP _ hK hO
          have hf := hO.done (v := (0 : Int)) hP hK
          clear hO hP hK
          go_wp2_with fail
          first | exact hf | (go_ret; exact hf)
end Go.Proofs.YtpcohbpeglledaaGreat
/-
  The black-white bakery, by the document: waiting for one thread.
-/
namespace Kv
theorem ref_ans {α : Type} {T : Prog α} {o o' : Bool} {S S' : TS} {a : α} (h : Ref T o S a o' S') : S'.ans = S.ans := by
  cases h with
  | over => rfl
  | done h => have := Prog.run_ans T S; rw [h] at this; exact this
  | stop _ h => have := Prog.run_ans T S; rw [h] at this; exact this
end Kv
namespace Go.Proofs.YtpcohbpeglledaaGreat
open Go.RowKit Kv
/-- A step of the document with all it tells. -/
theorem rstepA {α β : Type} {B p : Nat} {w0 w : World} {o : Bool} {S : TS} {R : Ending → World → Prop} {P : Program} {f : FuncId} {args : Array Value} {K : Ending → World → Prop} {enc : α → Value} {enc' : β → Value} {T : Prog α} {g : α → Prog β} {k : Nat} (hN : T.Notes k)
    (hO : ROwes R enc' B p w0 (T.bind g) o S) (hB : KeepR B p w0 w) (h : Calls P f args w (RPost enc B p w T o S))
    (hk : ∀ v o1 S1 w1, (TameA S → TameA S1) → S1.left ≤ S.left → (o1 = false → o = false ∧ T.run S = (some v, S1) ∧ (T.Asks → S1.left < S.left)) → S1.nts.length ≤ S.nts.length + k → RAt B w1 p o1 S1 → KeepR B p w w1 → KeepR B p w0 w1 → ROwes R enc' B p w0 (g v) o1 S1 → K (.returned (enc v)) w1) : Calls P f args w K := by
  refine h.mono fun e w1 ⟨v, o1, S1, he, hr, h1, h2⟩ => ?_
  subst he
  refine hk v o1 S1 w1 (fun ht => ?_) (ref_lefts hr) (fun ho => ?_) (ref_notes hN hr) h1 h2 (hB.trans h2) (hO.then hr)
  · unfold TameA
    rw [ref_ans hr]
    exact ht
  · subst ho
    cases hr with
    | done hr => exact ⟨rfl, hr, fun ha => ha.left hr h1.len⟩
set_option maxRecDepth 100000 in
set_option maxHeartbeats 4000000 in
theorem bwwait_r (B p D N m j : Nat) (o : Bool) (S : TS) (alg mode base loc room T bc P : Int) (b c : Nat) (rs : List Reg) (w : World) (h : RAt B w p o S) (hreg : RegsAt [3, 4, 5] w p b rs) (h1 : 1 ≤ N) (h2 : N ≤ 8) (hm1 : m < N) (hj1 : j < N) (hjm : j ≠ m)
    (hlen : rs.length = 2 * N + 1) (_hc : rs.length ≤ c ∧ c ≤ 9223372036854775807) (hok : ∀ r ∈ rs, r.ok ∧ r.n = N) (htold : ∀ (i : Nat) r, rs[i]? = some r → i ≠ 1 + m → i ≠ 1 + N + m → 2 ≤ N → r.told m) (hta : TameA S) (hD : S.left < D)
    (hP1 : IntKind.i64.wrap (P.tdiv 2) = T) (hP2 : P.tmod 2 = bc) :
    Calls Tryz.prog 127 #[.pointer (some ⟨p, 0, none⟩), .agg #[.int .i64 alg, .int .i64 N, .int .i64 mode, .int .i64 base, .int .i64 loc, .int .i64 room], .slice (some ⟨b, 0, none⟩) rs.length c, .int .i64 m, .int .i64 j, .int .i64 P] w (RPost encU B p w (bwFor rs D N m j T bc) o S) := by
  generalize hR : RPost encU B p w (bwFor rs D N m j T bc) o S = R
  have hO : ROwes R encU B p w (bwFor rs D N m j T bc) o S := hR ▸ rowes _ _ _ _ _ _ _
  clear hR
  have hK := Keep.refl [3, 4, 5] B p w
  have hP := h
  have b1 := hP.held (.cells #[.int .i64 alg, .int .i64 N, .int .i64 mode, .int .i64 base, .int .i64 loc, .int .i64 room] 52)
  replace hK := hK.trans (Keep.alloc (.cells #[.int .i64 alg, .int .i64 N, .int .i64 mode, .int .i64 base, .int .i64 loc, .int .i64 room] 52) hP.lt hP.le)
  replace hP := hP.alloc (.cells #[.int .i64 alg, .int .i64 N, .int .i64 mode, .int .i64 base, .int .i64 loc, .int .i64 room] 52)
  have c_b1 := b1.cells
  have hplt := h.lt
  clear h
  replace hreg := hreg.extL ((Ext.refl w).alloc (.cells #[.int .i64 alg, .int .i64 N, .int .i64 mode, .int .i64 base, .int .i64 loc, .int .i64 room] 52)) hplt
  clear hplt
  obtain ⟨r0, hr0⟩ : ∃ r, rs[0]? = some r := ⟨_, List.getElem?_eq_getElem (by omega)⟩
  obtain ⟨rh, hrh⟩ : ∃ r, rs[1 + j]? = some r := ⟨_, List.getElem?_eq_getElem (by omega)⟩
  obtain ⟨rj, hrj⟩ : ∃ r, rs[1 + N + j]? = some r := ⟨_, List.getElem?_eq_getElem (by omega)⟩
  have hok0 := (hok _ (List.mem_of_getElem? hr0)).1
  have hm0' : (m : Int) < r0.n := by rw [(hok _ (List.mem_of_getElem? hr0)).2]; omega
  have hokx := (hok _ (List.mem_of_getElem? hrh)).1
  have hmx : (m : Int) < rh.n := by rw [(hok _ (List.mem_of_getElem? hrh)).2]; omega
  have hokj := (hok _ (List.mem_of_getElem? hrj)).1
  have hmj : (m : Int) < rj.n := by rw [(hok _ (List.mem_of_getElem? hrj)).2]; omega
  have htx := htold _ rh hrh (by omega) (by omega) (by omega)
  have htj := htold _ rj hrj (by omega) (by omega) (by omega)
  have hw1 := IntWalk.i64_in ((1 : Int) + (j : Int)) (by omega)
  have hw2 := IntWalk.i64_in ((1 : Int) + (N : Int)) (by omega)
  have hw3 := IntWalk.i64_in ((1 : Int) + (N : Int) + (j : Int)) (by omega)
  have q1 : (1 : Int) + (j : Int) < (rs.length : Int) := by omega
  have q2 : 0 ≤ (1 : Int) + (j : Int) := by omega
  have q3 : ((1 : Int) + (j : Int)).toNat = 1 + j := by omega
  have q4 : (1 : Int) + (N : Int) + (j : Int) < (rs.length : Int) := by omega
  have q5 : 0 ≤ (1 : Int) + (N : Int) + (j : Int) := by omega
  have q6 : ((1 : Int) + (N : Int) + (j : Int)).toNat = 1 + N + j := by omega
  have q7 : (0 : Nat) < rs.length := by omega
  have q8 : (0 : Int) < (rs.length : Int) := by omega
  have hrr := Lib.hid (And.intro hr0 (And.intro hrh hrj))
  unfold bwFor at hO
  rw [bwChoose_eq, regAt_of (show (1 : Int) + (j : Int) = ((1 + j : Nat) : Int) from by omega) hrh] at hO
  have hOh := Lib.hid hO
  clear hO hr0 hrh hrj hok htold hlen
  go_enter Tryz.func127, Tryz.ntmps127
  go_wp2_with fail
  clear c_b1
  generalize hbb : w.heap.size = z at *
  generalize World.alloc w _ = W0 at *
  clear hbb
  go_loopw [] (fun wr => ∃ (n : Nat) (o2 : Bool) (S2 : TS), RAt B wr p o2 S2 ∧ KeepR B p w wr ∧ HeldR wr p z (.cells #[.int .i64 alg, .int .i64 N, .int .i64 mode, .int .i64 base, .int .i64 loc, .int .i64 room] 52) ∧ RegsAt [3, 4, 5] wr p b rs ∧ TameA S2 ∧ (o2 = false → S2.left < D) ∧ Hid (ROwes R encU B p w ((zeroP rh m n).bind fun _ => bwWait rs N m j T bc D) o2 S2) ∧ (o2 = false → S2.left < n)) (fun wr => leftR wr p)
  case atStart => exact ⟨D, o, S, hP, hK, b1, hreg, hta, fun _ => hD, hOh, fun _ => hD⟩
  case round =>
    clear hP hK b1 hreg hta hD hOh
    obtain ⟨n, o2, S2, hP, hK, b1, hreg, hta, hD, hO, hn⟩ := hrel
    replace hO := hO.out
    have hlw := Lib.hid hP.leftR
    obtain ⟨_, _, _, _, _, hcc⟩ := hP.cell
    cases o2 with
    | true =>
      have hf : R (.returned (encU ())) wr := hO.over () hP hK
      clear hO hK hD b1 hreg hta hn
      go_wp2_with fail
      go_loopw [] (fun w9 => RAt B w9 p true S2 ∧ R (.returned (encU ())) w9) (fun _ => 0)
      case atStart => exact ⟨hP, hf⟩
      case round =>
        clear hP hf hcc
        obtain ⟨hP, hf⟩ := hrel
        obtain ⟨_, _, _, _, _, hcc⟩ := hP.cell
        go_wp2_with fail
        first | exact hf | (refine bodyPost_ret (results_none rfl _ _ _) rfl ?_; exact hf)
    | false =>
      have hn := hn rfl
      replace hD := hD rfl
      cases n with
      | zero => omega
      | succ n =>
        rw [show zeroP rh m (n + 1) = (regR rh m).bind fun x => if x = 0 then .ret () else zeroP rh m n from rfl, Prog.bind_assoc] at hO
        have hOh := Lib.hid hO
        clear hO
        obtain ⟨a0, a1, a2, a3, a4, a5, a6⟩ := hreg.nth hrr.out.2.1
        go_wp2_with fail
        clear a0 a1 a2 a3 a4 a5 a6 hcc
        refine rstepA (notes_regR _ _) hOh.out hK (reg_read_r B p false S2 rh m _ hP hokx ⟨by omega, hmx⟩) ?_
        clear hOh hK hP
        intro x o3 S3 w3 htm hlf hdn _ hP hk hK hO
        replace hta := htm hta
        replace b1 := b1.keep hk
        replace hreg := hreg.keep hk
        clear hk htm
        replace hD : o3 = false → S3.left < D := fun _ => Nat.lt_of_le_of_lt hlf hD
        have hn3 : o3 = false → S3.left < n := fun ho => by have := (hdn ho).2.2 (asks_regR _ _ htx); omega
        have hlw2 := Lib.hid hP.leftR
        have hdec : o3 = false → S3.left < S2.left := fun ho => (hdn ho).2.2 (asks_regR _ _ htx)
        clear hdn
        by_cases hx : x = 0
        · have dx : (x == 0) = true := by simpa using hx
          rw [if_pos hx] at hO
          have hOh := Lib.hid hO
          clear hO hx
          go_wp2_with fail
          clear hlw hlw2 hn3 hdec
          go_loopw [] (fun wr => ∃ (n : Nat) (o2 : Bool) (S2 : TS), RAt B wr p o2 S2 ∧ KeepR B p w wr ∧ HeldR wr p z (.cells #[.int .i64 alg, .int .i64 N, .int .i64 mode, .int .i64 base, .int .i64 loc, .int .i64 room] 52) ∧ RegsAt [3, 4, 5] wr p b rs ∧ TameA S2 ∧ Hid (ROwes R encU B p w (bwWait rs N m j T bc n) o2 S2) ∧ (o2 = false → S2.left < n)) (fun wr => leftR wr p)
          case atStart => exact ⟨D, o3, S3, hP, hK, b1, hreg, hta, hOh, hD⟩
          case round =>
            clear hP hK b1 hreg hta hD hOh hn
            obtain ⟨n, o2, S4, hP, hK, b1, hreg, hta, hO, hn⟩ := hrel
            replace hO := hO.out
            have hlw := Lib.hid hP.leftR
            obtain ⟨_, _, _, _, _, hcc⟩ := hP.cell
            cases o2 with
            | true =>
              have hf : R (.returned (encU ())) wr := hO.over () hP hK
              clear hO hK b1 hreg hta hn
              go_wp2_with fail
              first | exact hf | (refine bodyPost_ret (results_none rfl _ _ _) rfl ?_; exact hf)
            | false =>
              have hn := hn rfl
              cases n with
              | zero => omega
              | succ n =>
                replace hO : ROwes R encU B p w ((bwWait rs N m j T bc (n + 1)).bind Prog.ret) false S4 := by rw [Prog.bind_id]; exact hO
                rw [bwWait_bind, regAt_of (show (1 : Int) + (N : Int) + (j : Int) = ((1 + N + j : Nat) : Int) from by omega) hrr.out.2.2, regAt_of (show (0 : Int) = ((0 : Nat) : Int) from rfl) hrr.out.1, Prog.bind_id] at hO
                have hOh := Lib.hid hO
                clear hO
                have c_b1 := b1.cells
                obtain ⟨a0, a1, a2, a3, a4, a5, a6⟩ := hreg.nth hrr.out.2.2
                go_wp2_with fail
                clear a0 a1 a2 a3 a4 a5 a6 hcc c_b1
                refine rstepA (notes_regR _ _) hOh.out hK (reg_read_r B p false S4 rj m _ hP hokj ⟨by omega, hmj⟩) ?_
                clear hOh hK hP
                intro x o4 S5 wn htm hlf hdn _ hP hk hK hO
                have hta5 := htm hta
                replace b1 := b1.keep hk
                replace hreg := hreg.keep hk
                clear hk htm
                have hn5 : o4 = false → S5.left < n := fun ho => by have := (hdn ho).2.2 (asks_regR _ _ htj); omega
                have hlw2 := Lib.hid hP.leftR
                have hdec : o4 = false → S5.left < S4.left := fun ho => (hdn ho).2.2 (asks_regR _ _ htj)
                have hqr : o4 = false → IntKind.i64.wrap (x.tdiv 2) = x / 2 ∧ x.tmod 2 = x % 2 := fun ho => by
                  have hxb := regR_bd hokj (told_ne htj) hta (hdn ho).2.1
                  refine ⟨?_, Int.tmod_eq_emod_of_nonneg hxb.1⟩
                  rw [Int.tdiv_eq_ediv_of_nonneg hxb.1]
                  exact IntWalk.i64_in _ (by omega)
                clear hdn hta
                obtain ⟨q, hq⟩ : ∃ q, IntKind.i64.wrap (x.tdiv 2) = q := ⟨_, rfl⟩
                obtain ⟨r, hr⟩ : ∃ r, x.tmod 2 = r := ⟨_, rfl⟩
                rw [hq, hr] at hqr
                obtain ⟨_, _, _, _, _, hcc⟩ := hP.cell
                by_cases hq0 : q = 0
                · have d0 : (q == 0) = true := by rw [beq_iff_eq]; exact hq0
                  have hf : R (.returned (encU ())) wn := by
                    cases o4 with
                    | true => exact hO.over () hP hK
                    | false =>
                      rw [← (hqr rfl).1, ← (hqr rfl).2, if_pos hq0] at hO
                      exact hO.ret hP hK
                  clear hO hP hK hcc b1 hreg hqr hlw hlw2 hq0
                  go_wp2_with fail
                  first | exact hf | (refine bodyPost_ret (results_none rfl _ _ _) rfl ?_; exact hf)
                · have d0 : (q == 0) = false := by rw [beq_eq_false_iff_ne]; exact hq0
                  replace hO : ROwes R encU B p w (if r = bc then (if T < q ∨ (q = T ∧ (m : Int) < (j : Int)) then .ret () else bwWait rs N m j T bc n) else (regR r0 m).bind fun y => if bitM y = bc then bwWait rs N m j T bc n else .ret ()) o4 S5 := by
                    cases o4 with
                    | true => exact hO.any _
                    | false =>
                      rw [← (hqr rfl).1, ← (hqr rfl).2, if_neg hq0] at hO
                      exact hO
                  clear hqr hq0
                  by_cases hrb : r = bc
                  · have dr : (r == bc) = true := by rw [beq_iff_eq]; exact hrb
                    have dr2 : (r != bc) = false := by simpa using hrb
                    rw [if_pos hrb] at hO
                    clear hrb
                    by_cases hg : T < q ∨ (q = T ∧ (m : Int) < (j : Int))
                    · rw [if_pos hg] at hO
                      have hf : R (.returned (encU ())) wn := hO.ret hP hK
                      clear hO hP hK hcc b1 hreg hlw hlw2
                      have hgd : decide (T < q) = true ∨ decide (T < q) = false ∧ (q == T) = true ∧ decide (m < j) = true := by
                        by_cases hg1 : T < q
                        · exact .inl (by simpa using hg1)
                        · obtain ⟨hg2, hg3⟩ := hg.resolve_left hg1
                          exact .inr ⟨by simpa using hg1, by simpa using hg2, by simp; omega⟩
                      clear hg
                      rcases hgd with d1 | ⟨d1, d2, d3⟩
                      · go_wp2_with fail
                        first | exact hf | (refine bodyPost_ret (results_none rfl _ _ _) rfl ?_; exact hf)
                      · go_wp2_with fail
                        first | exact hf | (refine bodyPost_ret (results_none rfl _ _ _) rfl ?_; exact hf)
                    · rw [if_neg hg] at hO
                      have hOh := Lib.hid hO
                      clear hO
                      have hgd : decide (T < q) = false ∧ ((q == T) = false ∨ (q == T) = true ∧ decide (m < j) = false) := by
                        refine ⟨by simp; omega, ?_⟩
                        by_cases hg2 : q = T
                        · exact .inr ⟨by simpa using hg2, by simp; omega⟩
                        · exact .inl (by simpa using hg2)
                      clear hg
                      obtain ⟨d1, d2 | ⟨d2, d3⟩⟩ := hgd
                      · go_wp2_with fail
                        refine ⟨⟨n, o4, S5, hP, hK, b1, hreg, hta5, hOh, hn5⟩, ?_⟩
                        rw [hlw.out, hlw2.out]
                        cases o4 with
                        | true => simp; omega
                        | false => have := hdec rfl; simp; omega
                      · go_wp2_with fail
                        refine ⟨⟨n, o4, S5, hP, hK, b1, hreg, hta5, hOh, hn5⟩, ?_⟩
                        rw [hlw.out, hlw2.out]
                        cases o4 with
                        | true => simp; omega
                        | false => have := hdec rfl; simp; omega
                  · have dr : (r == bc) = false := by rw [beq_eq_false_iff_ne]; exact hrb
                    have dr2 : (r != bc) = true := by simpa using hrb
                    rw [if_neg hrb] at hO
                    clear hrb
                    cases o4 with
                    | true =>
                      have hOh := Lib.hid (hO.any (bwWait rs N m j T bc n))
                      clear hO
                      go_wp2_with fail
                      refine ⟨⟨n, true, S5, hP, hK, b1, hreg, hta5, hOh, fun h => by cases h⟩, ?_⟩
                      rw [hlw.out, hlw2.out]
                      simp; omega
                    | false =>
                      have hn6 := hn5 rfl
                      have hdec6 := hdec rfl
                      clear hn5 hdec
                      have hOh := Lib.hid hO
                      clear hO
                      obtain ⟨a0, a1, a2, a3, a4, a5, a6⟩ := hreg.nth hrr.out.1
                      go_wp2_with fail
                      clear a0 a1 a2 a3 a4 a5 a6 hcc
                      refine rstepA (notes_regR _ _) hOh.out hK (reg_read_r B p false S5 r0 m _ hP hok0 ⟨by omega, hm0'⟩) ?_
                      clear hOh hK hP
                      intro y o6 S6 wm htm hlf6 hdn _ hP hk hK hO
                      have hta6 := htm hta5
                      replace b1 := b1.keep hk
                      replace hreg := hreg.keep hk
                      have hlw3 := Lib.hid hP.leftR
                      clear hk htm hlw2 hdn hta5
                      go_wp2_with fail
                      refine (bit_r y _).mono ?_
                      rintro e w' ⟨rfl, rfl⟩
                      generalize bitM y = by' at *
                      by_cases hb : by' = bc
                      · have db : (by' != bc) = false := by simpa using hb
                        rw [if_pos hb] at hO
                        have hOh := Lib.hid hO
                        clear hO hb
                        go_wp2_with fail
                        refine ⟨⟨n, o6, S6, hP, hK, b1, hreg, hta6, hOh, fun _ => by omega⟩, ?_⟩
                        rw [hlw.out, hlw3.out]
                        cases o6 <;> simp <;> omega
                      · have db : (by' != bc) = true := by simpa using hb
                        rw [if_neg hb] at hO
                        have hf : R (.returned (encU ())) wm := hO.ret hP hK
                        clear hO hP hK b1 hreg hlw hlw3 hb
                        go_wp2_with fail
                        first | exact hf | (refine bodyPost_ret (results_none rfl _ _ _) rfl ?_; exact hf)
        · have dx : (x == 0) = false := by simpa using hx
          rw [if_neg hx] at hO
          have hOh := Lib.hid hO
          clear hO hx
          go_wp2_with fail
          refine ⟨⟨n, o3, S3, hP, hK, b1, hreg, hta, hD, hOh, hn3⟩, ?_⟩
          rw [hlw.out, hlw2.out]
          cases o3 with
          | true => simp; omega
          | false => have := hdec rfl; simp; omega
end Go.Proofs.YtpcohbpeglledaaGreat
