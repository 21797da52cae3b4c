/-
  Kessels' lock at a node of a tree: entering and leaving, both sides.
-/
import Derived.Test.YtpcohbpeglledaaGreatJBlackwhitePlaysSaid2
import Derived.Laws.EntriesVeiled
/-
  Kessels' lock at a node of a tree: entering and leaving, both sides.
-/
namespace Go.Proofs.YtpcohbpeglledaaGreat
open Go.RowKit Kv
theorem RegsAt.node4r {ix : List Nat} {p b k : Nat} {w : World} {rs : List Reg} {x y z u : Reg} (h : RegsAt ix w p b rs) (hi : rs[k]? = some x ∧ rs[k + 1]? = some y ∧ rs[k + 2]? = some z ∧ rs[k + 3]? = some u) :
    RegCells w b (k * 7) x ∧ RegCells w b (k * 7 + 7) y ∧ RegCells w b (k * 7 + 14) z ∧ RegCells w b (k * 7 + 21) u := by
  have h1 := h.nth hi.2.1
  have h2 := h.nth hi.2.2.1
  have h3 := h.nth hi.2.2.2
  rw [show (k + 1) * 7 = k * 7 + 7 from by omega] at h1
  rw [show (k + 2) * 7 = k * 7 + 14 from by omega] at h2
  rw [show (k + 3) * 7 = k * 7 + 21 from by omega] at h3
  exact ⟨h.nth hi.1, h1, h2, h3⟩
theorem RegsAt.node4 {ix : List Nat} {p b k : Nat} {w : World} {rs : List Reg} {x y z u : Reg} (h : RegsAt ix w p b rs) (hi : rs[k]? = some x ∧ rs[k + 1]? = some y ∧ rs[k + 2]? = some z ∧ rs[k + 3]? = some u) :
    RegCells w b (k * 7) x ∧ RegCells w b (k * 7 + 7) y ∧ RegCells w b (k * 7 + 14) z ∧ RegCells w b (k * 7 + 14 + 7) u := by
  obtain ⟨h0, h1, h2, h3⟩ := h.node4r hi
  rw [show k * 7 + 21 = k * 7 + 14 + 7 from by omega] at h3
  exact ⟨h0, h1, h2, h3⟩
set_option maxRecDepth 100000 in
set_option maxHeartbeats 1000000 in
theorem kesn_enter_p0 (B p N : Nat) (S : TS) (q0 q1 r0 r1 : Reg) (side me : Int) (b c k : Nat) (rs : List Reg) (w : World) (h : Plays B w p S) (hl : RegsAt [2, 3, 4] w p b rs) (hi : rs[k]? = some q0 ∧ rs[k + 1]? = some q1 ∧ rs[k + 2]? = some r0 ∧ rs[k + 3]? = some r1) (hq0 : q0.ok) (hq1 : q1.ok) (hr0 : r0.ok) (hr1 : r1.ok)
    (hm0 : 0 ≤ me) (hm1 : me < q0.n) (hm2 : me < q1.n) (hm3 : me < r0.n) (hm4 : me < r1.n) (ht1 : q1.told me) (_ht2 : r1.told me) (hN : S.left < N) (hs : bitM side = 0) (hc4 : 4 ≤ c) (hc5 : c ≤ 9223372036854775807) :
    Calls Tryz.prog 28 #[.pointer (some ⟨p, 0, none⟩), .slice (some ⟨b, k * 7, none⟩) 4 c, .int .i64 side, .int .i64 me] w (Post encU B p w ((kesEnter N q0 q1 r0 r1 0 me).run S)) := by
  generalize hR : Post encU B p w ((kesEnter N q0 q1 r0 r1 0 me).run S) = R
  have hO : Owes R encU B p w ((kesEnter N q0 q1 r0 r1 0 me).run S) := hR ▸ owes _ _ _ _ _
  clear hR
  replace hi := Lib.hid hi
  have hmf : ∀ (fn : Fn) (first cap : Array Value) (w : World), (Instr.makeFunc fn first cap).run Tryz.prog w = .ok (.func fn first cap) w := fun _ _ _ _ => rfl
  have hK := Keep.refl [2, 3, 4] B p w
  have hP := h
  clear h
  unfold kesEnter at hO
  obtain ⟨⟨a0, a1, a2, a3, a4, a5, a6⟩, ⟨e0, e1, e2, e3, e4, e5, e6⟩, ⟨f0, f1, f2, f3, f4, f5, f6⟩, ⟨g0, g1, g2, g3, g4, g5, g6⟩⟩ := hl.node4 hi.out
  have hc6 : (2 : Int) ≤ (c : Int) := by omega
  have hc7 : (4 : Int) ≤ (c : Int) := by omega
  have hb := kbit_p side w
  rw [hs] at hb
  clear hs
  go_enter Tryz.func28, Tryz.ntmps28
  go_wp2_with fail
  refine hb.mono ?_
  rintro e w' ⟨rfl, rfl⟩
  clear hb
  go_wp2_with fail
  go_quiet (fail)
  have hx := (Ext.refl w).drewN nq
  replace hl := hl.extL hx hP.lt
  replace hK := hK.trans (Keep.of_ext hx hP.lt hP.le)
  replace hP := hP.ext hx
  clear a0 a1 a2 a3 a4 a5 a6 e0 e1 e2 e3 e4 e5 e6 f0 f1 f2 f3 f4 f5 f6 g0 g1 g2 g3 g4 g5 g6 hx
  generalize w.drewN nq = wz at *
  obtain ⟨⟨a0, a1, a2, a3, a4, a5, a6⟩, ⟨e0, e1, e2, e3, e4, e5, e6⟩, ⟨f0, f1, f2, f3, f4, f5, f6⟩, ⟨g0, g1, g2, g3, g4, g5, g6⟩⟩ := hl.node4 hi.out
  go_wp2_with fail
  refine tstepL hO hK (reg_write_p B p S q0 me 1 _ hP hq0 ⟨hm0, by omega⟩) (fun _ h => ⟨rfl, h⟩) ?_
  clear hO hK hP
  intro u S w1 hlf _ hP hk hK hO
  replace hN := Nat.lt_of_le_of_lt hlf hN
  replace hl := hl.keep hk
  clear a0 a1 a2 a3 a4 a5 a6 e0 e1 e2 e3 e4 e5 e6 f0 f1 f2 f3 f4 f5 f6 g0 g1 g2 g3 g4 g5 g6 hk hlf
  obtain ⟨⟨a0, a1, a2, a3, a4, a5, a6⟩, ⟨e0, e1, e2, e3, e4, e5, e6⟩, ⟨f0, f1, f2, f3, f4, f5, f6⟩, ⟨g0, g1, g2, g3, g4, g5, g6⟩⟩ := hl.node4 hi.out
  go_wp2_with fail
  refine tstepL hO hK (reg_read_p B p S r1 me _ hP hr1 ⟨hm0, by omega⟩) (fun _ h => ⟨rfl, h⟩) ?_
  clear hO hK hP
  intro x S w2 hlf _ hP hk hK hO
  replace hN := Nat.lt_of_le_of_lt hlf hN
  replace hl := hl.keep hk
  clear a0 a1 a2 a3 a4 a5 a6 e0 e1 e2 e3 e4 e5 e6 f0 f1 f2 f3 f4 f5 f6 g0 g1 g2 g3 g4 g5 g6 hk hlf
  obtain ⟨⟨a0, a1, a2, a3, a4, a5, a6⟩, ⟨e0, e1, e2, e3, e4, e5, e6⟩, ⟨f0, f1, f2, f3, f4, f5, f6⟩, ⟨g0, g1, g2, g3, g4, g5, g6⟩⟩ := hl.node4 hi.out
  go_wp2_with fail
  have hbx : 0 ≤ bitM x ∧ bitM x ≤ 1 := by unfold bitM; split <;> omega
  have hwx := w64 (1 - bitM x) (by omega) (by omega)
  refine (kbit_p x _).mono ?_
  rintro e w' ⟨rfl, rfl⟩
  go_wp2_with fail
  have hPo := hP
  have bT := hP.held (.cells #[.int .i64 (bitM x)] 3)
  replace hK := hK.trans (Keep.alloc (.cells #[.int .i64 (bitM x)] 3) hP.lt hP.le)
  replace hP := hP.alloc (.cells #[.int .i64 (bitM x)] 3)
  have c_bT := bT.cells
  replace hl := hl.extL ((Ext.refl _).alloc (.cells #[.int .i64 (bitM x)] 3)) hPo.lt
  clear hPo
  clear a0 a1 a2 a3 a4 a5 a6 e0 e1 e2 e3 e4 e5 e6 f0 f1 f2 f3 f4 f5 f6 g0 g1 g2 g3 g4 g5 g6
  rw [show kesT 0 x = (bitM x) from rfl] at hO
  replace hP := hP.drew
  replace hK := hK.drew
  replace bT := bT.drew
  replace hl := hl.extL (Ext.refl _).drew hP.lt
  have hS : ∀ w', RegsAt [2, 3, 4] w' p b rs → HeldP w' p w2.heap.size (.cells #[.int .i64 (bitM x)] 3) → (w'.cell? ⟨b, k * 7 + 14, none⟩ = some (.int .i64 r0.kind) ∧ w'.cell? ⟨b, k * 7 + 14 + 1, none⟩ = some (.int .i64 r0.base) ∧ w'.cell? ⟨b, k * 7 + 14 + 2, none⟩ = some (.int .i64 r0.loc) ∧ w'.cell? ⟨b, k * 7 + 14 + 3, none⟩ = some (.int .i64 r0.n) ∧ w'.cell? ⟨b, k * 7 + 14 + 4, none⟩ = some (.int .i64 r0.wr) ∧ w'.cell? ⟨b, k * 7 + 14 + 5, none⟩ = some (.int .i64 r0.rd) ∧ w'.cell? ⟨b, k * 7 + 14 + 6, none⟩ = some (.int .i64 r0.top)) ∧ (∀ i, w'.cell? ⟨w2.heap.size, i, none⟩ = (#[.int .i64 (bitM x)] : Array Value)[i]?) := fun w' h1 h2 => by
    obtain ⟨y0, y1, y2, y3, y4, y5, y6⟩ := (h1.node4 hi.out).2.2.1
    exact ⟨⟨y0, y1, y2, y3, y4, y5, y6⟩, h2.cells⟩
  go_region_held2 (fun w' => (w'.cell? ⟨b, k * 7 + 14, none⟩ = some (.int .i64 r0.kind) ∧ w'.cell? ⟨b, k * 7 + 14 + 1, none⟩ = some (.int .i64 r0.base) ∧ w'.cell? ⟨b, k * 7 + 14 + 2, none⟩ = some (.int .i64 r0.loc) ∧ w'.cell? ⟨b, k * 7 + 14 + 3, none⟩ = some (.int .i64 r0.n) ∧ w'.cell? ⟨b, k * 7 + 14 + 4, none⟩ = some (.int .i64 r0.wr) ∧ w'.cell? ⟨b, k * 7 + 14 + 5, none⟩ = some (.int .i64 r0.rd) ∧ w'.cell? ⟨b, k * 7 + 14 + 6, none⟩ = some (.int .i64 r0.top)) ∧ (∀ i, w'.cell? ⟨w2.heap.size, i, none⟩ = (#[.int .i64 (bitM x)] : Array Value)[i]?)) (exact hS _ hl bT)
    (first
      | (go_at_call 89
         refine tstepL hO hK (reg_write_p B p S r0 me (bitM x) _ hP hr0 ⟨hm0, by omega⟩) (fun _ h => ⟨rfl, h⟩) ?_
         clear hO hK hP
         intro u S w3 hlf _ hP hk hK hO
         replace hN := Nat.lt_of_le_of_lt hlf hN
         replace hl := hl.keep hk
         replace bT := bT.keep hk
         clear hk hlf))
  rename_i hh
  clear hh c_bT
  generalize htx : (bitM x) = t at *
  go_wp2_with fail
  go_loopw [] (fun wr => ∃ (n : Nat) (S1 : TS), Plays B wr p S1 ∧ KeepP B p w wr ∧ HeldP wr p w2.heap.size (.cells #[.int .i64 t] 3) ∧ RegsAt [2, 3, 4] wr p b rs ∧ Hid (Owes R encU B p w ((kesSpin q1 r1 0 t me n).run S1)) ∧ S1.left < n) (fun wr => leftW 1 3 wr p)
  case atStart => exact ⟨N, S, hP, hK, bT, hl, hO, hN⟩
  case round =>
    clear hS hP hK bT hl hO hN
    obtain ⟨n, S1, hP, hK, bT, hl, hO, hN⟩ := hrel
    have hO := hO.out
    have hlw := Lib.hid hP.left
    cases n with
    | zero => omega
    | succ n =>
      unfold kesSpin at hO
      obtain ⟨⟨a0, a1, a2, a3, a4, a5, a6⟩, ⟨e0, e1, e2, e3, e4, e5, e6⟩, ⟨f0, f1, f2, f3, f4, f5, f6⟩, ⟨g0, g1, g2, g3, g4, g5, g6⟩⟩ := hl.node4 hi.out
      go_wp2_with fail
      refine tstepL hO hK (reg_read_p B p S1 q1 me _ hP hq1 ⟨hm0, by omega⟩) (fun _ h => ⟨rfl, h⟩) ?_
      clear hO hK hP
      intro v S2 w4 _ hlf hP hk hK hO
      replace hlf := hlf (asks_regR _ _ ht1)
      replace hl := hl.keep hk
      replace bT := bT.keep hk
      clear a0 a1 a2 a3 a4 a5 a6 e0 e1 e2 e3 e4 e5 e6 f0 f1 f2 f3 f4 f5 f6 g0 g1 g2 g3 g4 g5 g6 hk
      by_cases hv : v = 0
      · rw [if_pos hv] at hO
        subst hv
        have hf : R (.returned (encU ())) w4 := hO.done hP hK
        clear hO hP hK hl bT
        go_wp2_with fail
        first | exact hf | (refine bodyPost_ret (results_none rfl _ _ _) rfl ?_; exact hf)
      · rw [if_neg hv] at hO
        have hv2 : (v == 0) = false := by rw [beq_eq_false_iff_ne]; exact hv
        obtain ⟨⟨a0, a1, a2, a3, a4, a5, a6⟩, ⟨e0, e1, e2, e3, e4, e5, e6⟩, ⟨f0, f1, f2, f3, f4, f5, f6⟩, ⟨g0, g1, g2, g3, g4, g5, g6⟩⟩ := hl.node4 hi.out
        clear hv
        go_wp2_with fail
        refine tstepL hO hK (reg_read_p B p S2 r1 me _ hP hr1 ⟨hm0, by omega⟩) (fun _ h => ⟨rfl, h⟩) ?_
        clear hO hK hP
        intro y S3 w5 hlf2 _ hP hk hK hO
        replace hl := hl.keep hk
        replace bT := bT.keep hk
        clear a0 a1 a2 a3 a4 a5 a6 e0 e1 e2 e3 e4 e5 e6 f0 f1 f2 f3 f4 f5 f6 g0 g1 g2 g3 g4 g5 g6 hk
        have c_bT := bT.cells
        go_wp2_with fail
        refine (kbit_p y _).mono ?_
        rintro e w' ⟨rfl, rfl⟩
        go_wp2_with fail
        refine (kfree0_p (bitM y) t _ _ (c_bT 0)).mono ?_
        rintro e w' ⟨rfl, rfl⟩
        by_cases hy : kesFree 0 t y = true
        · rw [if_pos hy] at hO
          have hy2 : (bitM y != t) = true := by unfold kesFree at hy; simpa using hy
          have hf : R (.returned (encU ())) w5 := hO.done hP hK
          clear hO hP hK hl bT hy
          go_wp2_with fail
          first | exact hf | (refine bodyPost_ret (results_none rfl _ _ _) rfl ?_; exact hf)
        · rw [if_neg hy] at hO
          have hy2 : (bitM y != t) = false := by unfold kesFree at hy; simpa using hy
          obtain ⟨⟨a0, a1, a2, a3, a4, a5, a6⟩, ⟨e0, e1, e2, e3, e4, e5, e6⟩, ⟨f0, f1, f2, f3, f4, f5, f6⟩, ⟨g0, g1, g2, g3, g4, g5, g6⟩⟩ := hl.node4 hi.out
          clear hy c_bT
          go_wp2_with fail
          refine (cells_pm q1 me _ hq1 ht1 ⟨hm0, by omega⟩).mono ?_
          rintro e w6 ⟨cc, rfl, hcc, hx⟩
          replace hl := hl.extL hx hP.lt
          replace bT := bT.ext hx hP.lt
          replace hK := hK.trans (Keep.of_ext hx hP.lt hP.le)
          replace hP := hP.ext hx
          clear a0 a1 a2 a3 a4 a5 a6 e0 e1 e2 e3 e4 e5 e6 f0 f1 f2 f3 f4 f5 f6 g0 g1 g2 g3 g4 g5 g6 hx
          have hlw2 := Lib.hid hP.left
          have hOh := Lib.hid hO
          clear hO
          go_wp2_with fail
          refine ⟨⟨n, S3, hP, hK, bT, hl, hOh, by omega⟩, ?_⟩
          rw [hlw.out, hlw2.out]
          omega
set_option maxRecDepth 100000 in
set_option maxHeartbeats 1000000 in
theorem kesn_enter_p1 (B p N : Nat) (S : TS) (q0 q1 r0 r1 : Reg) (side me : Int) (b c k : Nat) (rs : List Reg) (w : World) (h : Plays B w p S) (hl : RegsAt [2, 3, 4] w p b rs) (hi : rs[k]? = some q0 ∧ rs[k + 1]? = some q1 ∧ rs[k + 2]? = some r0 ∧ rs[k + 3]? = some r1) (hq0 : q0.ok) (hq1 : q1.ok) (hr0 : r0.ok) (hr1 : r1.ok)
    (hm0 : 0 ≤ me) (hm1 : me < q0.n) (hm2 : me < q1.n) (hm3 : me < r0.n) (hm4 : me < r1.n) (ht1 : q0.told me) (_ht2 : r0.told me) (hN : S.left < N) (hs : bitM side = 1) (hc4 : 4 ≤ c) (hc5 : c ≤ 9223372036854775807) :
    Calls Tryz.prog 28 #[.pointer (some ⟨p, 0, none⟩), .slice (some ⟨b, k * 7, none⟩) 4 c, .int .i64 side, .int .i64 me] w (Post encU B p w ((kesEnter N q1 q0 r1 r0 1 me).run S)) := by
  generalize hR : Post encU B p w ((kesEnter N q1 q0 r1 r0 1 me).run S) = R
  have hO : Owes R encU B p w ((kesEnter N q1 q0 r1 r0 1 me).run S) := hR ▸ owes _ _ _ _ _
  clear hR
  replace hi := Lib.hid hi
  have hmf : ∀ (fn : Fn) (first cap : Array Value) (w : World), (Instr.makeFunc fn first cap).run Tryz.prog w = .ok (.func fn first cap) w := fun _ _ _ _ => rfl
  have hK := Keep.refl [2, 3, 4] B p w
  have hP := h
  clear h
  unfold kesEnter at hO
  obtain ⟨⟨a0, a1, a2, a3, a4, a5, a6⟩, ⟨e0, e1, e2, e3, e4, e5, e6⟩, ⟨f0, f1, f2, f3, f4, f5, f6⟩, ⟨g0, g1, g2, g3, g4, g5, g6⟩⟩ := hl.node4 hi.out
  have hc6 : (2 : Int) ≤ (c : Int) := by omega
  have hc7 : (4 : Int) ≤ (c : Int) := by omega
  have hb := kbit_p side w
  rw [hs] at hb
  clear hs
  go_enter Tryz.func28, Tryz.ntmps28
  go_wp2_with fail
  refine hb.mono ?_
  rintro e w' ⟨rfl, rfl⟩
  clear hb
  go_wp2_with fail
  go_quiet (fail)
  have hx := (Ext.refl w).drewN nq
  replace hl := hl.extL hx hP.lt
  replace hK := hK.trans (Keep.of_ext hx hP.lt hP.le)
  replace hP := hP.ext hx
  clear a0 a1 a2 a3 a4 a5 a6 e0 e1 e2 e3 e4 e5 e6 f0 f1 f2 f3 f4 f5 f6 g0 g1 g2 g3 g4 g5 g6 hx
  generalize w.drewN nq = wz at *
  obtain ⟨⟨a0, a1, a2, a3, a4, a5, a6⟩, ⟨e0, e1, e2, e3, e4, e5, e6⟩, ⟨f0, f1, f2, f3, f4, f5, f6⟩, ⟨g0, g1, g2, g3, g4, g5, g6⟩⟩ := hl.node4 hi.out
  go_wp2_with fail
  refine tstepL hO hK (reg_write_p B p S q1 me 1 _ hP hq1 ⟨hm0, by omega⟩) (fun _ h => ⟨rfl, h⟩) ?_
  clear hO hK hP
  intro u S w1 hlf _ hP hk hK hO
  replace hN := Nat.lt_of_le_of_lt hlf hN
  replace hl := hl.keep hk
  clear a0 a1 a2 a3 a4 a5 a6 e0 e1 e2 e3 e4 e5 e6 f0 f1 f2 f3 f4 f5 f6 g0 g1 g2 g3 g4 g5 g6 hk hlf
  obtain ⟨⟨a0, a1, a2, a3, a4, a5, a6⟩, ⟨e0, e1, e2, e3, e4, e5, e6⟩, ⟨f0, f1, f2, f3, f4, f5, f6⟩, ⟨g0, g1, g2, g3, g4, g5, g6⟩⟩ := hl.node4 hi.out
  go_wp2_with fail
  refine tstepL hO hK (reg_read_p B p S r0 me _ hP hr0 ⟨hm0, by omega⟩) (fun _ h => ⟨rfl, h⟩) ?_
  clear hO hK hP
  intro x S w2 hlf _ hP hk hK hO
  replace hN := Nat.lt_of_le_of_lt hlf hN
  replace hl := hl.keep hk
  clear a0 a1 a2 a3 a4 a5 a6 e0 e1 e2 e3 e4 e5 e6 f0 f1 f2 f3 f4 f5 f6 g0 g1 g2 g3 g4 g5 g6 hk hlf
  obtain ⟨⟨a0, a1, a2, a3, a4, a5, a6⟩, ⟨e0, e1, e2, e3, e4, e5, e6⟩, ⟨f0, f1, f2, f3, f4, f5, f6⟩, ⟨g0, g1, g2, g3, g4, g5, g6⟩⟩ := hl.node4 hi.out
  go_wp2_with fail
  have hbx : 0 ≤ bitM x ∧ bitM x ≤ 1 := by unfold bitM; split <;> omega
  have hwx := w64 (1 - bitM x) (by omega) (by omega)
  refine (kbit_p x _).mono ?_
  rintro e w' ⟨rfl, rfl⟩
  go_wp2_with fail
  have hPo := hP
  have bT := hP.held (.cells #[.int .i64 (1 - bitM x)] 3)
  replace hK := hK.trans (Keep.alloc (.cells #[.int .i64 (1 - bitM x)] 3) hP.lt hP.le)
  replace hP := hP.alloc (.cells #[.int .i64 (1 - bitM x)] 3)
  have c_bT := bT.cells
  replace hl := hl.extL ((Ext.refl _).alloc (.cells #[.int .i64 (1 - bitM x)] 3)) hPo.lt
  clear hPo
  clear a0 a1 a2 a3 a4 a5 a6 e0 e1 e2 e3 e4 e5 e6 f0 f1 f2 f3 f4 f5 f6 g0 g1 g2 g3 g4 g5 g6
  rw [show kesT 1 x = (1 - bitM x) from rfl] at hO
  replace hP := hP.drew
  replace hK := hK.drew
  replace bT := bT.drew
  replace hl := hl.extL (Ext.refl _).drew hP.lt
  have hS : ∀ w', RegsAt [2, 3, 4] w' p b rs → HeldP w' p w2.heap.size (.cells #[.int .i64 (1 - bitM x)] 3) → (w'.cell? ⟨b, k * 7 + 14 + 7, none⟩ = some (.int .i64 r1.kind) ∧ w'.cell? ⟨b, k * 7 + 14 + 7 + 1, none⟩ = some (.int .i64 r1.base) ∧ w'.cell? ⟨b, k * 7 + 14 + 7 + 2, none⟩ = some (.int .i64 r1.loc) ∧ w'.cell? ⟨b, k * 7 + 14 + 7 + 3, none⟩ = some (.int .i64 r1.n) ∧ w'.cell? ⟨b, k * 7 + 14 + 7 + 4, none⟩ = some (.int .i64 r1.wr) ∧ w'.cell? ⟨b, k * 7 + 14 + 7 + 5, none⟩ = some (.int .i64 r1.rd) ∧ w'.cell? ⟨b, k * 7 + 14 + 7 + 6, none⟩ = some (.int .i64 r1.top)) ∧ (∀ i, w'.cell? ⟨w2.heap.size, i, none⟩ = (#[.int .i64 (1 - bitM x)] : Array Value)[i]?) := fun w' h1 h2 => by
    obtain ⟨y0, y1, y2, y3, y4, y5, y6⟩ := (h1.node4 hi.out).2.2.2
    exact ⟨⟨y0, y1, y2, y3, y4, y5, y6⟩, h2.cells⟩
  go_region_held2 (fun w' => (w'.cell? ⟨b, k * 7 + 14 + 7, none⟩ = some (.int .i64 r1.kind) ∧ w'.cell? ⟨b, k * 7 + 14 + 7 + 1, none⟩ = some (.int .i64 r1.base) ∧ w'.cell? ⟨b, k * 7 + 14 + 7 + 2, none⟩ = some (.int .i64 r1.loc) ∧ w'.cell? ⟨b, k * 7 + 14 + 7 + 3, none⟩ = some (.int .i64 r1.n) ∧ w'.cell? ⟨b, k * 7 + 14 + 7 + 4, none⟩ = some (.int .i64 r1.wr) ∧ w'.cell? ⟨b, k * 7 + 14 + 7 + 5, none⟩ = some (.int .i64 r1.rd) ∧ w'.cell? ⟨b, k * 7 + 14 + 7 + 6, none⟩ = some (.int .i64 r1.top)) ∧ (∀ i, w'.cell? ⟨w2.heap.size, i, none⟩ = (#[.int .i64 (1 - bitM x)] : Array Value)[i]?)) (exact hS _ hl bT)
    (first
      | (go_at_call 89
         refine tstepL hO hK (reg_write_p B p S r1 me (1 - bitM x) _ hP hr1 ⟨hm0, by omega⟩) (fun _ h => ⟨rfl, h⟩) ?_
         clear hO hK hP
         intro u S w3 hlf _ hP hk hK hO
         replace hN := Nat.lt_of_le_of_lt hlf hN
         replace hl := hl.keep hk
         replace bT := bT.keep hk
         clear hk hlf))
  rename_i hh
  clear hh c_bT
  generalize htx : (1 - bitM x) = t at *
  go_wp2_with fail
  go_loopw [] (fun wr => ∃ (n : Nat) (S1 : TS), Plays B wr p S1 ∧ KeepP B p w wr ∧ HeldP wr p w2.heap.size (.cells #[.int .i64 t] 3) ∧ RegsAt [2, 3, 4] wr p b rs ∧ Hid (Owes R encU B p w ((kesSpin q0 r0 1 t me n).run S1)) ∧ S1.left < n) (fun wr => leftW 1 3 wr p)
  case atStart => exact ⟨N, S, hP, hK, bT, hl, hO, hN⟩
  case round =>
    clear hS hP hK bT hl hO hN
    obtain ⟨n, S1, hP, hK, bT, hl, hO, hN⟩ := hrel
    have hO := hO.out
    have hlw := Lib.hid hP.left
    cases n with
    | zero => omega
    | succ n =>
      unfold kesSpin at hO
      obtain ⟨⟨a0, a1, a2, a3, a4, a5, a6⟩, ⟨e0, e1, e2, e3, e4, e5, e6⟩, ⟨f0, f1, f2, f3, f4, f5, f6⟩, ⟨g0, g1, g2, g3, g4, g5, g6⟩⟩ := hl.node4 hi.out
      go_wp2_with fail
      refine tstepL hO hK (reg_read_p B p S1 q0 me _ hP hq0 ⟨hm0, by omega⟩) (fun _ h => ⟨rfl, h⟩) ?_
      clear hO hK hP
      intro v S2 w4 _ hlf hP hk hK hO
      replace hlf := hlf (asks_regR _ _ ht1)
      replace hl := hl.keep hk
      replace bT := bT.keep hk
      clear a0 a1 a2 a3 a4 a5 a6 e0 e1 e2 e3 e4 e5 e6 f0 f1 f2 f3 f4 f5 f6 g0 g1 g2 g3 g4 g5 g6 hk
      by_cases hv : v = 0
      · rw [if_pos hv] at hO
        subst hv
        have hf : R (.returned (encU ())) w4 := hO.done hP hK
        clear hO hP hK hl bT
        go_wp2_with fail
        first | exact hf | (refine bodyPost_ret (results_none rfl _ _ _) rfl ?_; exact hf)
      · rw [if_neg hv] at hO
        have hv2 : (v == 0) = false := by rw [beq_eq_false_iff_ne]; exact hv
        obtain ⟨⟨a0, a1, a2, a3, a4, a5, a6⟩, ⟨e0, e1, e2, e3, e4, e5, e6⟩, ⟨f0, f1, f2, f3, f4, f5, f6⟩, ⟨g0, g1, g2, g3, g4, g5, g6⟩⟩ := hl.node4 hi.out
        clear hv
        go_wp2_with fail
        refine tstepL hO hK (reg_read_p B p S2 r0 me _ hP hr0 ⟨hm0, by omega⟩) (fun _ h => ⟨rfl, h⟩) ?_
        clear hO hK hP
        intro y S3 w5 hlf2 _ hP hk hK hO
        replace hl := hl.keep hk
        replace bT := bT.keep hk
        clear a0 a1 a2 a3 a4 a5 a6 e0 e1 e2 e3 e4 e5 e6 f0 f1 f2 f3 f4 f5 f6 g0 g1 g2 g3 g4 g5 g6 hk
        have c_bT := bT.cells
        go_wp2_with fail
        refine (kbit_p y _).mono ?_
        rintro e w' ⟨rfl, rfl⟩
        go_wp2_with fail
        refine (kfree1_p (bitM y) t _ _ (c_bT 0)).mono ?_
        rintro e w' ⟨rfl, rfl⟩
        by_cases hy : kesFree 1 t y = true
        · rw [if_pos hy] at hO
          have hy2 : (bitM y == t) = true := by unfold kesFree at hy; simpa using hy
          have hf : R (.returned (encU ())) w5 := hO.done hP hK
          clear hO hP hK hl bT hy
          go_wp2_with fail
          first | exact hf | (refine bodyPost_ret (results_none rfl _ _ _) rfl ?_; exact hf)
        · rw [if_neg hy] at hO
          have hy2 : (bitM y == t) = false := by unfold kesFree at hy; simpa using hy
          obtain ⟨⟨a0, a1, a2, a3, a4, a5, a6⟩, ⟨e0, e1, e2, e3, e4, e5, e6⟩, ⟨f0, f1, f2, f3, f4, f5, f6⟩, ⟨g0, g1, g2, g3, g4, g5, g6⟩⟩ := hl.node4 hi.out
          clear hy c_bT
          go_wp2_with fail
          refine (cells_pm q0 me _ hq0 ht1 ⟨hm0, by omega⟩).mono ?_
          rintro e w6 ⟨cc, rfl, hcc, hx⟩
          replace hl := hl.extL hx hP.lt
          replace bT := bT.ext hx hP.lt
          replace hK := hK.trans (Keep.of_ext hx hP.lt hP.le)
          replace hP := hP.ext hx
          clear a0 a1 a2 a3 a4 a5 a6 e0 e1 e2 e3 e4 e5 e6 f0 f1 f2 f3 f4 f5 f6 g0 g1 g2 g3 g4 g5 g6 hx
          have hlw2 := Lib.hid hP.left
          have hOh := Lib.hid hO
          clear hO
          go_wp2_with fail
          refine ⟨⟨n, S3, hP, hK, bT, hl, hOh, by omega⟩, ?_⟩
          rw [hlw.out, hlw2.out]
          omega
theorem kesn_leave_p (B p : Nat) (S : TS) (q0 q1 r0 r1 : Reg) (side me : Int) (b c k : Nat) (rs : List Reg) (w : World) (h : Plays B w p S) (hl : RegsAt [2, 3, 4] w p b rs) (hi : rs[k]? = some q0 ∧ rs[k + 1]? = some q1 ∧ rs[k + 2]? = some r0 ∧ rs[k + 3]? = some r1) (hq0 : q0.ok) (hq1 : q1.ok)
    (hm0 : 0 ≤ me) (hm1 : me < q0.n) (hm2 : me < q1.n) :
    Calls Tryz.prog 31 #[.pointer (some ⟨p, 0, none⟩), .slice (some ⟨b, k * 7, none⟩) 4 c, .int .i64 side, .int .i64 me] w (Post encU B p w ((regW (if bitM side = 1 then q1 else q0) me 0).run S)) := by
  replace hi := Lib.hid hi
  have hb := kbit_p' side w
  obtain ⟨⟨a0, a1, a2, a3, a4, a5, a6⟩, ⟨e0, e1, e2, e3, e4, e5, e6⟩, -, -⟩ := hl.node4 hi.out
  have hs : bitM side = 0 ∨ bitM side = 1 := by unfold bitM; split <;> simp
  rcases hs with hs | hs
  · rw [hs] at hb ⊢
    rw [if_neg (by omega)]
    generalize hR : Post encU B p w ((regW q0 me 0).run S) = R
    have hO : Owes R encU B p w ((regW q0 me 0).run S) := hR ▸ owes _ _ _ _ _
    clear hR
    go_enter Tryz.func31, Tryz.ntmps31
    go_wp2_with fail
    refine hb.mono ?_
    rintro e w' ⟨rfl, rfl⟩
    go_wp2_with fail
    clear a0 a1 a2 a3 a4 a5 a6 e0 e1 e2 e3 e4 e5 e6 hl hb
    refine tlast hO (Keep.refl _ _ _ _) (reg_write_p B p S q0 me 0 _ h hq0 ⟨hm0, hm1⟩) (fun _ h => ⟨rfl, h⟩) ?_
    intro v S1 w1 hr hP1 hk1 hK1 hO1
    have hf := hO1.done hP1 hK1
    clear hO1 hP1 hK1 hr hk1 hO h
    go_wp2_with fail
    first | exact hf | (refine bodyPost_ret (results_none rfl _ _ _) rfl ?_; exact hf)
  · rw [hs] at hb ⊢
    rw [if_pos rfl]
    generalize hR : Post encU B p w ((regW q1 me 0).run S) = R
    have hO : Owes R encU B p w ((regW q1 me 0).run S) := hR ▸ owes _ _ _ _ _
    clear hR
    go_enter Tryz.func31, Tryz.ntmps31
    go_wp2_with fail
    refine hb.mono ?_
    rintro e w' ⟨rfl, rfl⟩
    go_wp2_with fail
    clear a0 a1 a2 a3 a4 a5 a6 e0 e1 e2 e3 e4 e5 e6 hl hb
    refine tlast hO (Keep.refl _ _ _ _) (reg_write_p B p S q1 me 0 _ h hq1 ⟨hm0, hm2⟩) (fun _ h => ⟨rfl, h⟩) ?_
    intro v S1 w1 hr hP1 hk1 hK1 hO1
    have hf := hO1.done hP1 hK1
    clear hO1 hP1 hK1 hr hk1 hO h
    go_wp2_with fail
    first | exact hf | (refine bodyPost_ret (results_none rfl _ _ _) rfl ?_; exact hf)
set_option maxRecDepth 100000 in
set_option maxHeartbeats 1000000 in
theorem kesn_zero_r (B p N : Nat) (o : Bool) (S : TS) (q0 q1 r0 r1 : Reg) (me : Int) (b c k : Nat) (rs : List Reg) (w : World) (h : RAt B w p o S) (hl : RegsAt [3, 4, 5] w p b rs) (hi : rs[k]? = some q0 ∧ rs[k + 1]? = some q1 ∧ rs[k + 2]? = some r0 ∧ rs[k + 3]? = some r1) (hq0 : q0.ok) (hq1 : q1.ok) (hr0 : r0.ok) (hr1 : r1.ok)
    (hm0 : 0 ≤ me) (hm1 : me < q0.n) (hm2 : me < q1.n) (hm3 : me < r0.n) (hm4 : me < r1.n) (ht1 : q1.told me) (_ht2 : r1.told me) (hN : S.left < N) :
    Calls Tryz.prog 101 #[.pointer (some ⟨p, 0, none⟩), .slice (some ⟨b, k * 7, none⟩) 4 c, .int .i64 me] w (RPost encU B p w (kesEnter N q0 q1 r0 r1 0 me) o S) := by
  generalize hR : RPost encU B p w (kesEnter N q0 q1 r0 r1 0 me) o S = R
  have hO : ROwes R encU B p w (kesEnter N q0 q1 r0 r1 0 me) o S := hR ▸ rowes _ _ _ _ _ _ _
  clear hR
  replace hi := Lib.hid hi
  have hK := Keep.refl [3, 4, 5] B p w
  have hP := h
  clear h
  unfold kesEnter at hO
  obtain ⟨⟨a0, a1, a2, a3, a4, a5, a6⟩, ⟨e0, e1, e2, e3, e4, e5, e6⟩, ⟨f0, f1, f2, f3, f4, f5, f6⟩, ⟨g0, g1, g2, g3, g4, g5, g6⟩⟩ := hl.node4r hi.out
  go_enter Tryz.func101, Tryz.ntmps101
  go_wp2_with fail
  refine rstepL hO hK (reg_write_r B p o S q0 me 1 _ hP hq0 ⟨hm0, by omega⟩) ?_
  clear hO hK hP
  intro u o S w1 hlf _ hP hk hK hO
  replace hN := Nat.lt_of_le_of_lt hlf hN
  replace hl := hl.keep hk
  clear a0 a1 a2 a3 a4 a5 a6 e0 e1 e2 e3 e4 e5 e6 f0 f1 f2 f3 f4 f5 f6 g0 g1 g2 g3 g4 g5 g6 hk hlf
  obtain ⟨⟨a0, a1, a2, a3, a4, a5, a6⟩, ⟨e0, e1, e2, e3, e4, e5, e6⟩, ⟨f0, f1, f2, f3, f4, f5, f6⟩, ⟨g0, g1, g2, g3, g4, g5, g6⟩⟩ := hl.node4r hi.out
  obtain ⟨_, _, _, _, _, hcc⟩ := hP.cell
  cases o with
  | true =>
    have hf : R (.returned (encU ())) w1 := hO.over () hP hK
    clear hO hP hK hl
    go_wp2_with fail
    first | exact hf | (refine bodyPost_ret (results_none rfl _ _ _) rfl ?_; exact hf)
  | false =>
    go_wp2_with fail
    clear hcc
    refine rstepL hO hK (reg_read_r B p false S r1 me _ hP hr1 ⟨hm0, by omega⟩) ?_
    clear hO hK hP
    intro x o S w2 hlf _ hP hk hK hO
    replace hN := Nat.lt_of_le_of_lt hlf hN
    replace hl := hl.keep hk
    clear a0 a1 a2 a3 a4 a5 a6 e0 e1 e2 e3 e4 e5 e6 f0 f1 f2 f3 f4 f5 f6 g0 g1 g2 g3 g4 g5 g6 hk hlf
    obtain ⟨⟨a0, a1, a2, a3, a4, a5, a6⟩, ⟨e0, e1, e2, e3, e4, e5, e6⟩, ⟨f0, f1, f2, f3, f4, f5, f6⟩, ⟨g0, g1, g2, g3, g4, g5, g6⟩⟩ := hl.node4r hi.out
    have hbx : 0 ≤ bitM x ∧ bitM x ≤ 1 := by unfold bitM; split <;> omega
    have hwx := w64 (1 - bitM x) (by omega) (by omega)
    go_wp2_with fail
    refine (bit_r x _).mono ?_
    rintro e w' ⟨rfl, rfl⟩
    rw [show kesT 0 x = (bitM x) from rfl] at hO
    obtain ⟨_, _, _, _, _, hcc⟩ := hP.cell
    generalize htx : (bitM x) = t at hO ⊢
    go_upto_if 28 with fail
    go_cut [6] (fun s6 wx => s6 = .int .i64 t ∧ ∃ o1 S1, RAt B wx p o1 S1 ∧ KeepR B p w wx ∧ RegsAt [3, 4, 5] wx p b rs ∧ Hid (ROwes R encU B p w (kesSpin q1 r1 0 t me N) o1 S1) ∧ S1.left < N)
    case first =>
      clear hcc
      cases o with
      | true =>
        clear a0 a1 a2 a3 a4 a5 a6 e0 e1 e2 e3 e4 e5 e6 f0 f1 f2 f3 f4 f5 f6 g0 g1 g2 g3 g4 g5 g6
        go_wp2_with fail
        go_meet
        exact ⟨rfl, true, S, hP, hK, hl, hO.any _, hN⟩
      | false =>
        go_wp2_with fail
        refine rstepL hO hK (reg_write_r B p false S r0 me t _ hP hr0 ⟨hm0, by omega⟩) ?_
        clear hO hK hP
        intro u o S3 w3 hlf _ hP hk hK hO
        replace hl := hl.keep hk
        clear a0 a1 a2 a3 a4 a5 a6 e0 e1 e2 e3 e4 e5 e6 f0 f1 f2 f3 f4 f5 f6 g0 g1 g2 g3 g4 g5 g6 hk
        go_wp2_with fail
        go_meet
        exact ⟨rfl, o, S3, hP, hK, hl, hO, by omega⟩
    case rest =>
      clear a0 a1 a2 a3 a4 a5 a6 e0 e1 e2 e3 e4 e5 e6 f0 f1 f2 f3 f4 f5 f6 g0 g1 g2 g3 g4 g5 g6 hP hK hl hO hN hcc
      obtain ⟨rfl, o1, S1, hP, hK, hl, hO, hN⟩ := hcut
      go_wp2_with fail
      go_loopw [] (fun wr => ∃ (n : Nat) (o2 : Bool) (S2 : TS), RAt B wr p o2 S2 ∧ KeepR B p w wr ∧ RegsAt [3, 4, 5] wr p b rs ∧ Hid (ROwes R encU B p w (kesSpin q1 r1 0 t me n) o2 S2) ∧ (o2 = false → S2.left < n)) (fun wr => leftR wr p)
      case atStart => exact ⟨N, o1, S1, hP, hK, hl, hO, fun _ => hN⟩
      case round =>
        clear hP hK hl hO hN
        obtain ⟨n, o2, S2, hP, hK, hl, hO, hN⟩ := hrel
        have hO := hO.out
        have hlw := Lib.hid hP.leftR
        obtain ⟨_, _, _, _, _, hcc⟩ := hP.cell
        cases o2 with
        | true =>
          have hf : R (.returned (encU ())) wr := hO.over () hP hK
          clear hO hP hK hl hN
          go_wp2_with fail
          first | exact hf | (refine bodyPost_ret (results_none rfl _ _ _) rfl ?_; exact hf)
        | false =>
          have hN := hN rfl
          cases n with
          | zero => omega
          | succ n =>
            unfold kesSpin at hO
            obtain ⟨⟨a0, a1, a2, a3, a4, a5, a6⟩, ⟨e0, e1, e2, e3, e4, e5, e6⟩, ⟨f0, f1, f2, f3, f4, f5, f6⟩, ⟨g0, g1, g2, g3, g4, g5, g6⟩⟩ := hl.node4r hi.out
            go_wp2_with fail
            clear hcc
            refine rstepL hO hK (reg_read_r B p false S2 q1 me _ hP hq1 ⟨hm0, by omega⟩) ?_
            clear hO hK hP
            intro v o3 S3 w4 hlf hlt hP hk hK hO
            replace hl := hl.keep hk
            clear a0 a1 a2 a3 a4 a5 a6 e0 e1 e2 e3 e4 e5 e6 f0 f1 f2 f3 f4 f5 f6 g0 g1 g2 g3 g4 g5 g6 hk
            obtain ⟨_, _, _, _, _, hcc⟩ := hP.cell
            by_cases hv : v = 0
            · rw [if_pos hv] at hO
              subst hv
              have hf : R (.returned (encU ())) w4 := hO.ret hP hK
              clear hO hP hK hl hcc
              go_wp2_with fail
              first | exact hf | (refine bodyPost_ret (results_none rfl _ _ _) rfl ?_; exact hf)
            · rw [if_neg hv] at hO
              have hv2 : (v == 0) = false := by rw [beq_eq_false_iff_ne]; exact hv
              clear hv
              cases o3 with
              | true =>
                have hlw2 := Lib.hid hP.leftR
                have hOh := Lib.hid hO
                clear hO
                go_wp2_with fail
                refine ⟨⟨n, true, S3, hP, hK, hl, hOh.out.any _, fun h => by cases h⟩, ?_⟩
                rw [hlw.out, hlw2.out]
                simp
                omega
              | false =>
                replace hlt := (hlt rfl).2 (asks_regR _ _ ht1)
                obtain ⟨⟨a0, a1, a2, a3, a4, a5, a6⟩, ⟨e0, e1, e2, e3, e4, e5, e6⟩, ⟨f0, f1, f2, f3, f4, f5, f6⟩, ⟨g0, g1, g2, g3, g4, g5, g6⟩⟩ := hl.node4r hi.out
                go_wp2_with fail
                clear hcc
                refine rstepL hO hK (reg_read_r B p false S3 r1 me _ hP hr1 ⟨hm0, by omega⟩) ?_
                clear hO hK hP
                intro y o4 S4 w5 hlf4 _ hP hk hK hO
                replace hl := hl.keep hk
                clear a0 a1 a2 a3 a4 a5 a6 e0 e1 e2 e3 e4 e5 e6 f0 f1 f2 f3 f4 f5 f6 g0 g1 g2 g3 g4 g5 g6 hk
                go_wp2_with fail
                refine (bit_r y _).mono ?_
                rintro e w' ⟨rfl, rfl⟩
                by_cases hy : kesFree 0 t y = true
                · rw [if_pos hy] at hO
                  have hy2 : (bitM y != t) = true := by unfold kesFree at hy; simpa using hy
                  have hf : R (.returned (encU ())) w5 := hO.ret hP hK
                  clear hO hP hK hl hy
                  go_wp2_with fail
                  first | exact hf | (refine bodyPost_ret (results_none rfl _ _ _) rfl ?_; exact hf)
                · rw [if_neg hy] at hO
                  have hy2 : (bitM y != t) = false := by unfold kesFree at hy; simpa using hy
                  have hlw2 := Lib.hid hP.leftR
                  have hOh := Lib.hid hO
                  clear hO hy
                  go_wp2_with fail
                  refine ⟨⟨n, o4, S4, hP, hK, hl, hOh, fun _ => by omega⟩, ?_⟩
                  rw [hlw.out, hlw2.out]
                  simp only [Bool.false_eq_true, if_false]
                  split <;> omega
set_option maxRecDepth 100000 in
set_option maxHeartbeats 1000000 in
theorem kesn_one_r (B p N : Nat) (o : Bool) (S : TS) (q0 q1 r0 r1 : Reg) (me : Int) (b c k : Nat) (rs : List Reg) (w : World) (h : RAt B w p o S) (hl : RegsAt [3, 4, 5] w p b rs) (hi : rs[k]? = some q0 ∧ rs[k + 1]? = some q1 ∧ rs[k + 2]? = some r0 ∧ rs[k + 3]? = some r1) (hq0 : q0.ok) (hq1 : q1.ok) (hr0 : r0.ok) (hr1 : r1.ok)
    (hm0 : 0 ≤ me) (hm1 : me < q0.n) (hm2 : me < q1.n) (hm3 : me < r0.n) (hm4 : me < r1.n) (ht1 : q0.told me) (_ht2 : r0.told me) (hN : S.left < N) :
    Calls Tryz.prog 102 #[.pointer (some ⟨p, 0, none⟩), .slice (some ⟨b, k * 7, none⟩) 4 c, .int .i64 me] w (RPost encU B p w (kesEnter N q1 q0 r1 r0 1 me) o S) := by
  generalize hR : RPost encU B p w (kesEnter N q1 q0 r1 r0 1 me) o S = R
  have hO : ROwes R encU B p w (kesEnter N q1 q0 r1 r0 1 me) o S := hR ▸ rowes _ _ _ _ _ _ _
  clear hR
  replace hi := Lib.hid hi
  have hK := Keep.refl [3, 4, 5] B p w
  have hP := h
  clear h
  unfold kesEnter at hO
  obtain ⟨⟨a0, a1, a2, a3, a4, a5, a6⟩, ⟨e0, e1, e2, e3, e4, e5, e6⟩, ⟨f0, f1, f2, f3, f4, f5, f6⟩, ⟨g0, g1, g2, g3, g4, g5, g6⟩⟩ := hl.node4r hi.out
  go_enter Tryz.func102, Tryz.ntmps102
  go_wp2_with fail
  refine rstepL hO hK (reg_write_r B p o S q1 me 1 _ hP hq1 ⟨hm0, by omega⟩) ?_
  clear hO hK hP
  intro u o S w1 hlf _ hP hk hK hO
  replace hN := Nat.lt_of_le_of_lt hlf hN
  replace hl := hl.keep hk
  clear a0 a1 a2 a3 a4 a5 a6 e0 e1 e2 e3 e4 e5 e6 f0 f1 f2 f3 f4 f5 f6 g0 g1 g2 g3 g4 g5 g6 hk hlf
  obtain ⟨⟨a0, a1, a2, a3, a4, a5, a6⟩, ⟨e0, e1, e2, e3, e4, e5, e6⟩, ⟨f0, f1, f2, f3, f4, f5, f6⟩, ⟨g0, g1, g2, g3, g4, g5, g6⟩⟩ := hl.node4r hi.out
  obtain ⟨_, _, _, _, _, hcc⟩ := hP.cell
  cases o with
  | true =>
    have hf : R (.returned (encU ())) w1 := hO.over () hP hK
    clear hO hP hK hl
    go_wp2_with fail
    first | exact hf | (refine bodyPost_ret (results_none rfl _ _ _) rfl ?_; exact hf)
  | false =>
    go_wp2_with fail
    clear hcc
    refine rstepL hO hK (reg_read_r B p false S r0 me _ hP hr0 ⟨hm0, by omega⟩) ?_
    clear hO hK hP
    intro x o S w2 hlf _ hP hk hK hO
    replace hN := Nat.lt_of_le_of_lt hlf hN
    replace hl := hl.keep hk
    clear a0 a1 a2 a3 a4 a5 a6 e0 e1 e2 e3 e4 e5 e6 f0 f1 f2 f3 f4 f5 f6 g0 g1 g2 g3 g4 g5 g6 hk hlf
    obtain ⟨⟨a0, a1, a2, a3, a4, a5, a6⟩, ⟨e0, e1, e2, e3, e4, e5, e6⟩, ⟨f0, f1, f2, f3, f4, f5, f6⟩, ⟨g0, g1, g2, g3, g4, g5, g6⟩⟩ := hl.node4r hi.out
    have hbx : 0 ≤ bitM x ∧ bitM x ≤ 1 := by unfold bitM; split <;> omega
    have hwx := w64 (1 - bitM x) (by omega) (by omega)
    go_wp2_with fail
    refine (bit_r x _).mono ?_
    rintro e w' ⟨rfl, rfl⟩
    rw [show kesT 1 x = (1 - bitM x) from rfl] at hO
    obtain ⟨_, _, _, _, _, hcc⟩ := hP.cell
    generalize htx : (1 - bitM x) = t at hO ⊢
    go_upto_if 29 with fail
    go_cut [6] (fun s6 wx => s6 = .int .i64 t ∧ ∃ o1 S1, RAt B wx p o1 S1 ∧ KeepR B p w wx ∧ RegsAt [3, 4, 5] wx p b rs ∧ Hid (ROwes R encU B p w (kesSpin q0 r0 1 t me N) o1 S1) ∧ S1.left < N)
    case first =>
      clear hcc
      cases o with
      | true =>
        clear a0 a1 a2 a3 a4 a5 a6 e0 e1 e2 e3 e4 e5 e6 f0 f1 f2 f3 f4 f5 f6 g0 g1 g2 g3 g4 g5 g6
        go_wp2_with fail
        go_meet
        exact ⟨rfl, true, S, hP, hK, hl, hO.any _, hN⟩
      | false =>
        go_wp2_with fail
        refine rstepL hO hK (reg_write_r B p false S r1 me t _ hP hr1 ⟨hm0, by omega⟩) ?_
        clear hO hK hP
        intro u o S3 w3 hlf _ hP hk hK hO
        replace hl := hl.keep hk
        clear a0 a1 a2 a3 a4 a5 a6 e0 e1 e2 e3 e4 e5 e6 f0 f1 f2 f3 f4 f5 f6 g0 g1 g2 g3 g4 g5 g6 hk
        go_wp2_with fail
        go_meet
        exact ⟨rfl, o, S3, hP, hK, hl, hO, by omega⟩
    case rest =>
      clear a0 a1 a2 a3 a4 a5 a6 e0 e1 e2 e3 e4 e5 e6 f0 f1 f2 f3 f4 f5 f6 g0 g1 g2 g3 g4 g5 g6 hP hK hl hO hN hcc
      obtain ⟨rfl, o1, S1, hP, hK, hl, hO, hN⟩ := hcut
      go_wp2_with fail
      go_loopw [] (fun wr => ∃ (n : Nat) (o2 : Bool) (S2 : TS), RAt B wr p o2 S2 ∧ KeepR B p w wr ∧ RegsAt [3, 4, 5] wr p b rs ∧ Hid (ROwes R encU B p w (kesSpin q0 r0 1 t me n) o2 S2) ∧ (o2 = false → S2.left < n)) (fun wr => leftR wr p)
      case atStart => exact ⟨N, o1, S1, hP, hK, hl, hO, fun _ => hN⟩
      case round =>
        clear hP hK hl hO hN
        obtain ⟨n, o2, S2, hP, hK, hl, hO, hN⟩ := hrel
        have hO := hO.out
        have hlw := Lib.hid hP.leftR
        obtain ⟨_, _, _, _, _, hcc⟩ := hP.cell
        cases o2 with
        | true =>
          have hf : R (.returned (encU ())) wr := hO.over () hP hK
          clear hO hP hK hl hN
          go_wp2_with fail
          first | exact hf | (refine bodyPost_ret (results_none rfl _ _ _) rfl ?_; exact hf)
        | false =>
          have hN := hN rfl
          cases n with
          | zero => omega
          | succ n =>
            unfold kesSpin at hO
            obtain ⟨⟨a0, a1, a2, a3, a4, a5, a6⟩, ⟨e0, e1, e2, e3, e4, e5, e6⟩, ⟨f0, f1, f2, f3, f4, f5, f6⟩, ⟨g0, g1, g2, g3, g4, g5, g6⟩⟩ := hl.node4r hi.out
            go_wp2_with fail
            clear hcc
            refine rstepL hO hK (reg_read_r B p false S2 q0 me _ hP hq0 ⟨hm0, by omega⟩) ?_
            clear hO hK hP
            intro v o3 S3 w4 hlf hlt hP hk hK hO
            replace hl := hl.keep hk
            clear a0 a1 a2 a3 a4 a5 a6 e0 e1 e2 e3 e4 e5 e6 f0 f1 f2 f3 f4 f5 f6 g0 g1 g2 g3 g4 g5 g6 hk
            obtain ⟨_, _, _, _, _, hcc⟩ := hP.cell
            by_cases hv : v = 0
            · rw [if_pos hv] at hO
              subst hv
              have hf : R (.returned (encU ())) w4 := hO.ret hP hK
              clear hO hP hK hl hcc
              go_wp2_with fail
              first | exact hf | (refine bodyPost_ret (results_none rfl _ _ _) rfl ?_; exact hf)
            · rw [if_neg hv] at hO
              have hv2 : (v == 0) = false := by rw [beq_eq_false_iff_ne]; exact hv
              clear hv
              cases o3 with
              | true =>
                have hlw2 := Lib.hid hP.leftR
                have hOh := Lib.hid hO
                clear hO
                go_wp2_with fail
                refine ⟨⟨n, true, S3, hP, hK, hl, hOh.out.any _, fun h => by cases h⟩, ?_⟩
                rw [hlw.out, hlw2.out]
                simp
                omega
              | false =>
                replace hlt := (hlt rfl).2 (asks_regR _ _ ht1)
                obtain ⟨⟨a0, a1, a2, a3, a4, a5, a6⟩, ⟨e0, e1, e2, e3, e4, e5, e6⟩, ⟨f0, f1, f2, f3, f4, f5, f6⟩, ⟨g0, g1, g2, g3, g4, g5, g6⟩⟩ := hl.node4r hi.out
                go_wp2_with fail
                clear hcc
                refine rstepL hO hK (reg_read_r B p false S3 r0 me _ hP hr0 ⟨hm0, by omega⟩) ?_
                clear hO hK hP
                intro y o4 S4 w5 hlf4 _ hP hk hK hO
                replace hl := hl.keep hk
                clear a0 a1 a2 a3 a4 a5 a6 e0 e1 e2 e3 e4 e5 e6 f0 f1 f2 f3 f4 f5 f6 g0 g1 g2 g3 g4 g5 g6 hk
                go_wp2_with fail
                refine (bit_r y _).mono ?_
                rintro e w' ⟨rfl, rfl⟩
                by_cases hy : kesFree 1 t y = true
                · rw [if_pos hy] at hO
                  have hy2 : (bitM y == t) = true := by unfold kesFree at hy; simpa using hy
                  have hf : R (.returned (encU ())) w5 := hO.ret hP hK
                  clear hO hP hK hl hy
                  go_wp2_with fail
                  first | exact hf | (refine bodyPost_ret (results_none rfl _ _ _) rfl ?_; exact hf)
                · rw [if_neg hy] at hO
                  have hy2 : (bitM y == t) = false := by unfold kesFree at hy; simpa using hy
                  have hlw2 := Lib.hid hP.leftR
                  have hOh := Lib.hid hO
                  clear hO hy
                  go_wp2_with fail
                  refine ⟨⟨n, o4, S4, hP, hK, hl, hOh, fun _ => by omega⟩, ?_⟩
                  rw [hlw.out, hlw2.out]
                  simp only [Bool.false_eq_true, if_false]
                  split <;> omega
theorem kesn_enter_p (B p N : Nat) (S : TS) (q0 q1 r0 r1 : Reg) (side me : Int) (b c k : Nat) (rs : List Reg) (w : World) (h : Plays B w p S) (hl : RegsAt [2, 3, 4] w p b rs) (hi : rs[k]? = some q0 ∧ rs[k + 1]? = some q1 ∧ rs[k + 2]? = some r0 ∧ rs[k + 3]? = some r1) (hq0 : q0.ok) (hq1 : q1.ok) (hr0 : r0.ok) (hr1 : r1.ok)
    (hm0 : 0 ≤ me) (hm1 : me < q0.n) (hm2 : me < q1.n) (hm3 : me < r0.n) (hm4 : me < r1.n) (ht1 : q0.told me) (ht2 : q1.told me) (ht3 : r0.told me) (ht4 : r1.told me) (hN : S.left < N) (hc4 : 4 ≤ c) (hc5 : c ≤ 9223372036854775807) :
    Calls Tryz.prog 28 #[.pointer (some ⟨p, 0, none⟩), .slice (some ⟨b, k * 7, none⟩) 4 c, .int .i64 side, .int .i64 me] w (Post encU B p w ((kesM N q0 q1 r0 r1 side me).run S)) := by
  unfold kesM
  rcases bitM_or side with hs | hs
  · rw [if_neg (by omega)]
    exact kesn_enter_p0 B p N S q0 q1 r0 r1 side me b c k rs w h hl hi hq0 hq1 hr0 hr1 hm0 hm1 hm2 hm3 hm4 ht2 ht4 hN hs hc4 hc5
  · rw [if_pos hs]
    exact kesn_enter_p1 B p N S q0 q1 r0 r1 side me b c k rs w h hl hi hq0 hq1 hr0 hr1 hm0 hm1 hm2 hm3 hm4 ht1 ht3 hN hs hc4 hc5
theorem kesn_enter_r (B p N : Nat) (o : Bool) (S : TS) (q0 q1 r0 r1 : Reg) (side me : Int) (b c k : Nat) (rs : List Reg) (w : World) (h : RAt B w p o S) (hl : RegsAt [3, 4, 5] w p b rs) (hi : rs[k]? = some q0 ∧ rs[k + 1]? = some q1 ∧ rs[k + 2]? = some r0 ∧ rs[k + 3]? = some r1) (hq0 : q0.ok) (hq1 : q1.ok) (hr0 : r0.ok) (hr1 : r1.ok)
    (hm0 : 0 ≤ me) (hm1 : me < q0.n) (hm2 : me < q1.n) (hm3 : me < r0.n) (hm4 : me < r1.n) (ht1 : q0.told me) (ht2 : q1.told me) (ht3 : r0.told me) (ht4 : r1.told me) (hN : S.left < N) :
    Calls Tryz.prog 29 #[.pointer (some ⟨p, 0, none⟩), .slice (some ⟨b, k * 7, none⟩) 4 c, .int .i64 side, .int .i64 me] w (RPost encU B p w (kesM N q0 q1 r0 r1 side me) o S) := by
  unfold kesM
  by_cases hs : side = 0
  · have hb : bitM side = 0 := by unfold bitM; rw [if_pos hs]
    rw [if_neg (by omega)]
    have hz := kesn_zero_r B p N o S q0 q1 r0 r1 me b c k rs w h hl hi hq0 hq1 hr0 hr1 hm0 hm1 hm2 hm3 hm4 ht2 ht4 hN
    generalize hR : RPost encU B p w (kesEnter N q0 q1 r0 r1 0 me) o S = R
    have hO : ROwes R encU B p w (kesEnter N q0 q1 r0 r1 0 me) o S := hR ▸ rowes _ _ _ _ _ _ _
    clear hR
    clear hb
    go_enter Tryz.func29, Tryz.ntmps29
    go_wp2_with fail
    refine hz.mono fun e w' hp => ?_
    have hf := hO e w' hp
    obtain ⟨a, o', S', rfl, _⟩ := hp
    clear hO hz h hl
    go_wp2_with fail
    first | exact hf | (refine bodyPost_ret (results_none rfl _ _ _) rfl ?_; exact hf)
  · have hb : bitM side = 1 := by unfold bitM; rw [if_neg hs]
    have hs2 : (side == 0) = false := by rw [beq_eq_false_iff_ne]; exact hs
    rw [if_pos hb]
    have hz := kesn_one_r B p N o S q0 q1 r0 r1 me b c k rs w h hl hi hq0 hq1 hr0 hr1 hm0 hm1 hm2 hm3 hm4 ht1 ht3 hN
    generalize hR : RPost encU B p w (kesEnter N q1 q0 r1 r0 1 me) o S = R
    have hO : ROwes R encU B p w (kesEnter N q1 q0 r1 r0 1 me) o S := hR ▸ rowes _ _ _ _ _ _ _
    clear hR
    clear hb hs
    go_enter Tryz.func29, Tryz.ntmps29
    go_wp2_with fail
    refine hz.mono fun e w' hp => ?_
    have hf := hO e w' hp
    obtain ⟨a, o', S', rfl, _⟩ := hp
    clear hO hz h hl
    go_wp2_with fail
    first | exact hf | (refine bodyPost_ret (results_none rfl _ _ _) rfl ?_; exact hf)
theorem kesn_leave_r (B p : Nat) (o : Bool) (S : TS) (q0 q1 r0 r1 : Reg) (side me : Int) (b c k : Nat) (rs : List Reg) (w : World) (h : RAt B w p o S) (hl : RegsAt [3, 4, 5] w p b rs) (hi : rs[k]? = some q0 ∧ rs[k + 1]? = some q1 ∧ rs[k + 2]? = some r0 ∧ rs[k + 3]? = some r1) (hq0 : q0.ok) (hq1 : q1.ok)
    (hm0 : 0 ≤ me) (hm1 : me < q0.n) (hm2 : me < q1.n) :
    Calls Tryz.prog 140 #[.pointer (some ⟨p, 0, none⟩), .slice (some ⟨b, k * 7, none⟩) 4 c, .int .i64 side, .int .i64 me] w (RPost encU B p w (kesL q0 q1 side me) o S) := by
  replace hi := Lib.hid hi
  have hb := bit_r side w
  unfold kesL
  obtain ⟨⟨a0, a1, a2, a3, a4, a5, a6⟩, ⟨e0, e1, e2, e3, e4, e5, e6⟩, -, -⟩ := hl.node4r hi.out
  rcases bitM_or side with hs | hs
  · rw [hs] at hb ⊢
    rw [if_neg (by omega)]
    have hz := reg_write_r B p o S q0 me 0 w h hq0 ⟨hm0, hm1⟩
    generalize hR : RPost encU B p w (regW q0 me 0) o S = R
    have hO : ROwes R encU B p w (regW q0 me 0) o S := hR ▸ rowes _ _ _ _ _ _ _
    clear hR
    go_enter Tryz.func140, Tryz.ntmps140
    go_wp2_with fail
    refine hb.mono ?_
    rintro e w' ⟨rfl, rfl⟩
    go_wp2_with fail
    clear a0 a1 a2 a3 a4 a5 a6 e0 e1 e2 e3 e4 e5 e6 hl hb
    refine hz.mono fun e w' hp => ?_
    have hf := hO e w' hp
    obtain ⟨a, o', S', rfl, _⟩ := hp
    clear hO hz h
    go_wp2_with fail
    first | exact hf | (refine bodyPost_ret (results_none rfl _ _ _) rfl ?_; exact hf)
  · rw [hs] at hb ⊢
    rw [if_pos rfl]
    have hz := reg_write_r B p o S q1 me 0 w h hq1 ⟨hm0, hm2⟩
    generalize hR : RPost encU B p w (regW q1 me 0) o S = R
    have hO : ROwes R encU B p w (regW q1 me 0) o S := hR ▸ rowes _ _ _ _ _ _ _
    clear hR
    go_enter Tryz.func140, Tryz.ntmps140
    go_wp2_with fail
    refine hb.mono ?_
    rintro e w' ⟨rfl, rfl⟩
    go_wp2_with fail
    clear a0 a1 a2 a3 a4 a5 a6 e0 e1 e2 e3 e4 e5 e6 hl hb
    refine hz.mono fun e w' hp => ?_
    have hf := hO e w' hp
    obtain ⟨a, o', S', rfl, _⟩ := hp
    clear hO hz h
    go_wp2_with fail
    first | exact hf | (refine bodyPost_ret (results_none rfl _ _ _) rfl ?_; exact hf)
end Go.Proofs.YtpcohbpeglledaaGreat
/-
  Peterson's lock of two sides at a node of a tree, by the document.
-/
namespace Go.Proofs.YtpcohbpeglledaaGreat
open Go.RowKit Kv
set_option maxRecDepth 100000 in
set_option maxHeartbeats 1000000 in
theorem darbn_enter_r0 (B p N : Nat) (o : Bool) (S : TS) (q0 q1 rt : Reg) (side me : Int) (b c k : Nat) (rs : List Reg) (w : World) (h : RAt B w p o S) (hl : RegsAt [3, 4, 5] w p b rs) (hi : rs[k]? = some q0 ∧ rs[k + 1]? = some q1 ∧ rs[k + 2]? = some rt) (hq0 : q0.ok) (hq1 : q1.ok) (hrt : rt.ok)
    (hm0 : 0 ≤ me) (hm1 : me < q0.n) (hm2 : me < q1.n) (hm3 : me < rt.n) (ht1 : q1.told me) (hN : S.left < N) (hs : bitM side = 0) :
    Calls Tryz.prog 139 #[.pointer (some ⟨p, 0, none⟩), .slice (some ⟨b, k * 7, none⟩) 3 c, .int .i64 side, .int .i64 me] w (RPost encU B p w (arbEnter N q0 q1 rt 0 me) o S) := by
  generalize hR : RPost encU B p w (arbEnter N q0 q1 rt 0 me) o S = R
  have hO : ROwes R encU B p w (arbEnter N q0 q1 rt 0 me) o S := hR ▸ rowes _ _ _ _ _ _ _
  clear hR
  have hK := Keep.refl [3, 4, 5] B p w
  have hP := h
  clear h
  unfold arbEnter at hO
  replace hi := Lib.hid hi
  have hb := bit_r side w
  rw [hs] at hb
  clear hs
  go_enter Tryz.func139, Tryz.ntmps139
  go_wp2_with fail
  refine hb.mono ?_
  rintro e w' ⟨rfl, rfl⟩
  clear hb
  have hOh := Lib.hid hO
  clear hO
  obtain ⟨a0, a1, a2, a3, a4, a5, a6⟩ := (hl.node3 hi.out).1
  go_wp2_with fail
  replace hO := hOh.out
  clear hOh a0 a1 a2 a3 a4 a5 a6
  refine rstepL hO hK (reg_write_r B p o S q0 me 1 _ hP hq0 ⟨hm0, by omega⟩) ?_
  clear hO hK hP
  intro u o1 S1 w1 hlf _ hP hk hK hO
  replace hN := Nat.lt_of_le_of_lt hlf hN
  replace hl := hl.keep hk
  clear hk hlf
  obtain ⟨_, _, _, _, _, hcc⟩ := hP.cell
  cases o1 with
  | true =>
    have hf : R (.returned (encU ())) w1 := hO.over () hP hK
    have hPh := Lib.hid hP
    clear hO hP hK
    go_wp2_with fail
    go_loopw [] (fun wr => w1 = wr) (fun _ => 0)
    case atStart => rfl
    case round =>
      subst hrel
      go_wp2_with fail
      first | exact hf | (refine bodyPost_ret (results_none rfl _ _ _) rfl ?_; exact hf)
  | false =>
    have hOh := Lib.hid hO
    clear hO
    obtain ⟨a0, a1, a2, a3, a4, a5, a6⟩ := (hl.node3 hi.out).2.2
    go_wp2_with fail
    replace hO := hOh.out
    clear hOh a0 a1 a2 a3 a4 a5 a6 hcc
    refine rstepL hO hK (reg_write_r B p false S1 rt me 0 _ hP hrt ⟨hm0, by omega⟩) ?_
    clear hO hK hP
    intro u o2 S2 w2 hlf _ hP hk hK hO
    replace hN := Nat.lt_of_le_of_lt hlf hN
    replace hl := hl.keep hk
    clear hk hlf
    have hOh := Lib.hid hO
    clear hO
    go_wp2_with fail
    go_loopw [] (fun wr => ∃ (n : Nat) (o3 : Bool) (S3 : TS), RAt B wr p o3 S3 ∧ KeepR B p w wr ∧ RegsAt [3, 4, 5] wr p b rs ∧ Hid (ROwes R encU B p w (arbSpin q1 rt 0 me n) o3 S3) ∧ (o3 = false → S3.left < n)) (fun wr => leftR wr p)
    case atStart => exact ⟨N, o2, S2, hP, hK, hl, hOh, fun _ => hN⟩
    case round =>
      clear hP hK hl hOh hN
      obtain ⟨n, o3, S3, hP, hK, hl, hO, hN⟩ := hrel
      replace hO := hO.out
      have hlw := Lib.hid hP.leftR
      obtain ⟨_, _, _, _, _, hcc⟩ := hP.cell
      cases o3 with
      | true =>
        have hf : R (.returned (encU ())) wr := hO.over () hP hK
        clear hO hP hK hN
        go_wp2_with fail
        first | exact hf | (refine bodyPost_ret (results_none rfl _ _ _) rfl ?_; exact hf)
      | false =>
        have hN := hN rfl
        cases n with
        | zero => omega
        | succ n =>
          rw [arbSpin_succ] at hO
          have hOh := Lib.hid hO
          clear hO
          obtain ⟨a0, a1, a2, a3, a4, a5, a6⟩ := (hl.node3 hi.out).2.1
          go_wp2_with fail
          replace hO := hOh.out
          clear hOh hcc a0 a1 a2 a3 a4 a5 a6
          refine rstepL hO hK (reg_read_r B p false S3 q1 me _ hP hq1 ⟨hm0, by omega⟩) ?_
          clear hO hK hP
          intro x o4 S4 w4 hlf hlt hP hk hK hO
          replace hl := hl.keep hk
          clear hk
          by_cases hx : x = 0
          · have dx : (x == 0) = true := by simpa using hx
            rw [if_pos hx] at hO
            have hf : R (.returned (encU ())) w4 := hO.ret hP hK
            clear hO hP hK hx
            go_wp2_with fail
            first | exact hf | (refine bodyPost_ret (results_none rfl _ _ _) rfl ?_; exact hf)
          · have dx : (x == 0) = false := by simpa using hx
            rw [if_neg hx] at hO
            clear hx
            obtain ⟨_, _, _, _, _, hcc⟩ := hP.cell
            cases o4 with
            | true =>
              have hOh := Lib.hid (hO.any (arbSpin q1 rt 0 me n))
              have hlw2 := Lib.hid hP.leftR
              clear hO
              go_wp2_with fail
              refine ⟨⟨n, true, S4, hP, hK, hl, hOh, nofun⟩, ?_⟩
              rw [hlw.out, hlw2.out]
              simp
              omega
            | false =>
              have hlt := (hlt rfl).2 (asks_regR _ _ ht1)
              have hOh := Lib.hid hO
              clear hO
              obtain ⟨a0, a1, a2, a3, a4, a5, a6⟩ := (hl.node3 hi.out).2.2
              go_wp2_with fail
              replace hO := hOh.out
              clear hOh hcc a0 a1 a2 a3 a4 a5 a6
              refine rstepL hO hK (reg_read_r B p false S4 rt me _ hP hrt ⟨hm0, by omega⟩) ?_
              clear hO hK hP
              intro y o5 S5 w5 hlf2 _ hP hk hK hO
              replace hl := hl.keep hk
              clear hk
              by_cases hy : y = 0
              · have dy : (y != 0) = false := by simpa using hy
                rw [if_pos hy] at hO
                clear hy
                have hOh := Lib.hid hO
                have hlw2 := Lib.hid hP.leftR
                clear hO
                go_wp2_with fail
                refine ⟨⟨n, o5, S5, hP, hK, hl, hOh, fun _ => by omega⟩, ?_⟩
                rw [hlw.out, hlw2.out]
                cases o5 <;> simp <;> omega
              · have dy : (y != 0) = true := by simpa using hy
                rw [if_neg hy] at hO
                have hf : R (.returned (encU ())) w5 := hO.ret hP hK
                clear hO hP hK hy
                go_wp2_with fail
                first | exact hf | (refine bodyPost_ret (results_none rfl _ _ _) rfl ?_; exact hf)
set_option maxRecDepth 100000 in
set_option maxHeartbeats 1000000 in
theorem darbn_enter_r1 (B p N : Nat) (o : Bool) (S : TS) (q0 q1 rt : Reg) (side me : Int) (b c k : Nat) (rs : List Reg) (w : World) (h : RAt B w p o S) (hl : RegsAt [3, 4, 5] w p b rs) (hi : rs[k]? = some q0 ∧ rs[k + 1]? = some q1 ∧ rs[k + 2]? = some rt) (hq0 : q0.ok) (hq1 : q1.ok) (hrt : rt.ok)
    (hm0 : 0 ≤ me) (hm1 : me < q0.n) (hm2 : me < q1.n) (hm3 : me < rt.n) (ht1 : q0.told me) (hN : S.left < N) (hs : bitM side = 1) :
    Calls Tryz.prog 139 #[.pointer (some ⟨p, 0, none⟩), .slice (some ⟨b, k * 7, none⟩) 3 c, .int .i64 side, .int .i64 me] w (RPost encU B p w (arbEnter N q1 q0 rt 1 me) o S) := by
  generalize hR : RPost encU B p w (arbEnter N q1 q0 rt 1 me) o S = R
  have hO : ROwes R encU B p w (arbEnter N q1 q0 rt 1 me) o S := hR ▸ rowes _ _ _ _ _ _ _
  clear hR
  have hK := Keep.refl [3, 4, 5] B p w
  have hP := h
  clear h
  unfold arbEnter at hO
  replace hi := Lib.hid hi
  have hb := bit_r side w
  rw [hs] at hb
  clear hs
  go_enter Tryz.func139, Tryz.ntmps139
  go_wp2_with fail
  refine hb.mono ?_
  rintro e w' ⟨rfl, rfl⟩
  clear hb
  have hOh := Lib.hid hO
  clear hO
  obtain ⟨a0, a1, a2, a3, a4, a5, a6⟩ := (hl.node3 hi.out).2.1
  go_wp2_with fail
  replace hO := hOh.out
  clear hOh a0 a1 a2 a3 a4 a5 a6
  refine rstepL hO hK (reg_write_r B p o S q1 me 1 _ hP hq1 ⟨hm0, by omega⟩) ?_
  clear hO hK hP
  intro u o1 S1 w1 hlf _ hP hk hK hO
  replace hN := Nat.lt_of_le_of_lt hlf hN
  replace hl := hl.keep hk
  clear hk hlf
  obtain ⟨_, _, _, _, _, hcc⟩ := hP.cell
  cases o1 with
  | true =>
    have hf : R (.returned (encU ())) w1 := hO.over () hP hK
    have hPh := Lib.hid hP
    clear hO hP hK
    go_wp2_with fail
    go_loopw [] (fun wr => w1 = wr) (fun _ => 0)
    case atStart => rfl
    case round =>
      subst hrel
      go_wp2_with fail
      first | exact hf | (refine bodyPost_ret (results_none rfl _ _ _) rfl ?_; exact hf)
  | false =>
    have hOh := Lib.hid hO
    clear hO
    obtain ⟨a0, a1, a2, a3, a4, a5, a6⟩ := (hl.node3 hi.out).2.2
    go_wp2_with fail
    replace hO := hOh.out
    clear hOh a0 a1 a2 a3 a4 a5 a6 hcc
    refine rstepL hO hK (reg_write_r B p false S1 rt me 1 _ hP hrt ⟨hm0, by omega⟩) ?_
    clear hO hK hP
    intro u o2 S2 w2 hlf _ hP hk hK hO
    replace hN := Nat.lt_of_le_of_lt hlf hN
    replace hl := hl.keep hk
    clear hk hlf
    have hOh := Lib.hid hO
    clear hO
    go_wp2_with fail
    go_loopw [] (fun wr => ∃ (n : Nat) (o3 : Bool) (S3 : TS), RAt B wr p o3 S3 ∧ KeepR B p w wr ∧ RegsAt [3, 4, 5] wr p b rs ∧ Hid (ROwes R encU B p w (arbSpin q0 rt 1 me n) o3 S3) ∧ (o3 = false → S3.left < n)) (fun wr => leftR wr p)
    case atStart => exact ⟨N, o2, S2, hP, hK, hl, hOh, fun _ => hN⟩
    case round =>
      clear hP hK hl hOh hN
      obtain ⟨n, o3, S3, hP, hK, hl, hO, hN⟩ := hrel
      replace hO := hO.out
      have hlw := Lib.hid hP.leftR
      obtain ⟨_, _, _, _, _, hcc⟩ := hP.cell
      cases o3 with
      | true =>
        have hf : R (.returned (encU ())) wr := hO.over () hP hK
        clear hO hP hK hN
        go_wp2_with fail
        first | exact hf | (refine bodyPost_ret (results_none rfl _ _ _) rfl ?_; exact hf)
      | false =>
        have hN := hN rfl
        cases n with
        | zero => omega
        | succ n =>
          rw [arbSpin_succ] at hO
          have hOh := Lib.hid hO
          clear hO
          obtain ⟨a0, a1, a2, a3, a4, a5, a6⟩ := (hl.node3 hi.out).1
          go_wp2_with fail
          replace hO := hOh.out
          clear hOh hcc a0 a1 a2 a3 a4 a5 a6
          refine rstepL hO hK (reg_read_r B p false S3 q0 me _ hP hq0 ⟨hm0, by omega⟩) ?_
          clear hO hK hP
          intro x o4 S4 w4 hlf hlt hP hk hK hO
          replace hl := hl.keep hk
          clear hk
          by_cases hx : x = 0
          · have dx : (x == 0) = true := by simpa using hx
            rw [if_pos hx] at hO
            have hf : R (.returned (encU ())) w4 := hO.ret hP hK
            clear hO hP hK hx
            go_wp2_with fail
            first | exact hf | (refine bodyPost_ret (results_none rfl _ _ _) rfl ?_; exact hf)
          · have dx : (x == 0) = false := by simpa using hx
            rw [if_neg hx] at hO
            clear hx
            obtain ⟨_, _, _, _, _, hcc⟩ := hP.cell
            cases o4 with
            | true =>
              have hOh := Lib.hid (hO.any (arbSpin q0 rt 1 me n))
              have hlw2 := Lib.hid hP.leftR
              clear hO
              go_wp2_with fail
              refine ⟨⟨n, true, S4, hP, hK, hl, hOh, nofun⟩, ?_⟩
              rw [hlw.out, hlw2.out]
              simp
              omega
            | false =>
              have hlt := (hlt rfl).2 (asks_regR _ _ ht1)
              have hOh := Lib.hid hO
              clear hO
              obtain ⟨a0, a1, a2, a3, a4, a5, a6⟩ := (hl.node3 hi.out).2.2
              go_wp2_with fail
              replace hO := hOh.out
              clear hOh hcc a0 a1 a2 a3 a4 a5 a6
              refine rstepL hO hK (reg_read_r B p false S4 rt me _ hP hrt ⟨hm0, by omega⟩) ?_
              clear hO hK hP
              intro y o5 S5 w5 hlf2 _ hP hk hK hO
              replace hl := hl.keep hk
              clear hk
              by_cases hy : y = 1
              · have dy : (y != 1) = false := by simpa using hy
                rw [if_pos hy] at hO
                clear hy
                have hOh := Lib.hid hO
                have hlw2 := Lib.hid hP.leftR
                clear hO
                go_wp2_with fail
                refine ⟨⟨n, o5, S5, hP, hK, hl, hOh, fun _ => by omega⟩, ?_⟩
                rw [hlw.out, hlw2.out]
                cases o5 <;> simp <;> omega
              · have dy : (y != 1) = true := by simpa using hy
                rw [if_neg hy] at hO
                have hf : R (.returned (encU ())) w5 := hO.ret hP hK
                clear hO hP hK hy
                go_wp2_with fail
                first | exact hf | (refine bodyPost_ret (results_none rfl _ _ _) rfl ?_; exact hf)
theorem darbn_enter_r (B p N : Nat) (o : Bool) (S : TS) (q0 q1 rt : Reg) (side me : Int) (b c k : Nat) (rs : List Reg) (w : World) (h : RAt B w p o S) (hl : RegsAt [3, 4, 5] w p b rs) (hi : rs[k]? = some q0 ∧ rs[k + 1]? = some q1 ∧ rs[k + 2]? = some rt) (hq0 : q0.ok) (hq1 : q1.ok) (hrt : rt.ok)
    (hm0 : 0 ≤ me) (hm1 : me < q0.n) (hm2 : me < q1.n) (hm3 : me < rt.n) (ht0 : q0.told me) (ht1 : q1.told me) (hN : S.left < N) :
    Calls Tryz.prog 139 #[.pointer (some ⟨p, 0, none⟩), .slice (some ⟨b, k * 7, none⟩) 3 c, .int .i64 side, .int .i64 me] w (RPost encU B p w (arbM N q0 q1 rt side me) o S) := by
  unfold arbM
  rcases bitM_or side with hs | hs
  · rw [if_neg (by omega)]
    exact darbn_enter_r0 B p N o S q0 q1 rt side me b c k rs w h hl hi hq0 hq1 hrt hm0 hm1 hm2 hm3 ht1 hN hs
  · rw [if_pos hs]
    exact darbn_enter_r1 B p N o S q0 q1 rt side me b c k rs w h hl hi hq0 hq1 hrt hm0 hm1 hm2 hm3 ht0 hN hs
theorem darbn_leave_r (B p : Nat) (o : Bool) (S : TS) (q0 q1 rt : Reg) (side me : Int) (b c k : Nat) (rs : List Reg) (w : World) (h : RAt B w p o S) (hl : RegsAt [3, 4, 5] w p b rs) (hi : rs[k]? = some q0 ∧ rs[k + 1]? = some q1 ∧ rs[k + 2]? = some rt) (hq0 : q0.ok) (hq1 : q1.ok)
    (hm0 : 0 ≤ me) (hm1 : me < q0.n) (hm2 : me < q1.n) :
    Calls Tryz.prog 140 #[.pointer (some ⟨p, 0, none⟩), .slice (some ⟨b, k * 7, none⟩) 3 c, .int .i64 side, .int .i64 me] w (RPost encU B p w (kesL q0 q1 side me) o S) := by
  have hb := bit_r side w
  unfold kesL
  replace hi := Lib.hid hi
  rcases bitM_or side with hs | hs
  · rw [hs] at hb ⊢
    rw [if_neg (by omega)]
    have hz := reg_write_r B p o S q0 me 0 w h hq0 ⟨hm0, by omega⟩
    generalize hR : RPost encU B p w (regW q0 me 0) o S = R
    have hO : ROwes R encU B p w (regW q0 me 0) o S := hR ▸ rowes _ _ _ _ _ _ _
    clear hR
    go_enter Tryz.func140, Tryz.ntmps140
    go_wp2_with fail
    refine hb.mono ?_
    rintro e w' ⟨rfl, rfl⟩
    obtain ⟨a0, a1, a2, a3, a4, a5, a6⟩ := (hl.node3 hi.out).1
    go_wp2_with fail
    clear a0 a1 a2 a3 a4 a5 a6 hl hb
    refine hz.mono fun e w' hp => ?_
    have hf := hO e w' hp
    obtain ⟨a, o', S', rfl, _⟩ := hp
    clear hO hz h
    go_wp2_with fail
    first | exact hf | (refine bodyPost_ret (results_none rfl _ _ _) rfl ?_; exact hf)
  · rw [hs] at hb ⊢
    rw [if_pos rfl]
    have hz := reg_write_r B p o S q1 me 0 w h hq1 ⟨hm0, by omega⟩
    generalize hR : RPost encU B p w (regW q1 me 0) o S = R
    have hO : ROwes R encU B p w (regW q1 me 0) o S := hR ▸ rowes _ _ _ _ _ _ _
    clear hR
    go_enter Tryz.func140, Tryz.ntmps140
    go_wp2_with fail
    refine hb.mono ?_
    rintro e w' ⟨rfl, rfl⟩
    obtain ⟨a0, a1, a2, a3, a4, a5, a6⟩ := (hl.node3 hi.out).2.1
    go_wp2_with fail
    clear a0 a1 a2 a3 a4 a5 a6 hl hb
    refine hz.mono fun e w' hp => ?_
    have hf := hO e w' hp
    obtain ⟨a, o', S', rfl, _⟩ := hp
    clear hO hz h
    go_wp2_with fail
    first | exact hf | (refine bodyPost_ret (results_none rfl _ _ _) rfl ?_; exact hf)
end Go.Proofs.YtpcohbpeglledaaGreat
/-
  Kessels: what the law plays.
-/
namespace Go.Proofs.YtpcohbpeglledaaGreat
open Go.RowKit Kv
theorem kwants_p (w : World) : Calls Tryz.prog 25 #[] w fun e w' => ∃ v, e = .returned v ∧ WantsAt w' v (List.replicate 4 ⟨-1, 1⟩) ∧ Ext w w' := by
  go_enter Tryz.func25, Tryz.ntmps25
  go_wp2_with fail
  go_loopw [1, 2] (fun v i wr => ∃ j : Nat, i = .int .i64 j ∧ j ≤ 4 ∧ wr.ownsRow w.heap.size 64 2 v j ((List.replicate j (⟨-1, 1⟩ : Want)).flatMap wantVals) ∧ Ext w wr) (fun _ i _ => 4 - (intOf i).toNat)
  case atStart => exact ⟨0, rfl, by omega, World.ownsRow_nil _ _ _ _, Ext.refl _⟩
  case round =>
    obtain ⟨j, rfl, hj, hown, hE⟩ := hrel
    by_cases hl : j < 4
    · go_wp2_with (at_builtin; refine append_rec info_want Tryz.underlying25 rfl (by decide) (by decide) rfl _ _ rfl _ j _ [.int .i64 (-1), .int .i64 1] hE hown rfl rfl rfl (by simp [Value.oneCell']) (by omega) ?_)
      intro v' w' ho hx _
      have hoh := Lib.hid ho
      clear hown ho
      go_wp2_with fail
      refine ⟨⟨j + 1, by go_num, by omega, ?_, hx⟩, ?_⟩
      · rw [List.replicate_succ', List.flatMap_append]; exact hoh.out
      · simp [intOf]; omega
    · obtain rfl : j = 4 := by omega
      have hownh := Lib.hid hown
      clear hown
      go_wp2_with fail
      go_ret
      exact ⟨_, rfl, Recs.of_row hownh.out, hE⟩
theorem kclosE (B p N : Nat) (S : TS) (q0 q1 r0 r1 : Reg) (_a0 _a1 side _a3 me : Int) (_v4 _v5 : Value) (b c bl bx bt : Nat) (w : World) (h : Plays B w p S) (hl : RegsAt [2, 3, 4] w p b [q0, q1, r0, r1]) (hq0 : q0.ok) (hq1 : q1.ok) (hr0 : r0.ok) (hr1 : r1.ok)
    (hm0 : 0 ≤ me) (hm1 : me < q0.n) (hm2 : me < q1.n) (hm3 : me < r0.n) (hm4 : me < r1.n) (ht1 : q0.told me) (ht2 : q1.told me) (ht3 : r0.told me) (ht4 : r1.told me) (hN : S.left < N) (hc4 : 4 ≤ c) (hc5 : c ≤ 9223372036854775807)
    (c1 : w.cell? ⟨bl, 0, none⟩ = some (.slice (some ⟨b, 0, none⟩) 4 c)) (c2 : w.cell? ⟨bx, 2, none⟩ = some (.int .i64 side)) (c3 : w.cell? ⟨bt, 0, none⟩ = some (.int .i64 me)) :
    Calls Tryz.prog 27 #[.pointer (some ⟨p, 0, none⟩), .pointer (some ⟨bl, 0, none⟩), .pointer (some ⟨bx, 0, none⟩), .pointer (some ⟨bt, 0, none⟩)] w (Post encI B p w (((kesM N q0 q1 r0 r1 side me).bind fun _ => .ret 0).run S)) := by
  generalize hR : Post encI B p w (((kesM N q0 q1 r0 r1 side me).bind fun _ => .ret 0).run S) = R
  have hO : Owes R encI B p w (((kesM N q0 q1 r0 r1 side me).bind fun _ => .ret 0).run S) := hR ▸ owes _ _ _ _ _
  clear hR
  have hK := Keep.refl [2, 3, 4] B p w
  go_enter Tryz.func27, Tryz.ntmps27
  go_wp2_with fail
  clear c1 c2 c3
  refine tstep hO hK (kes_enter_p B p N S q0 q1 r0 r1 side me b c w h hl hq0 hq1 hr0 hr1 hm0 hm1 hm2 hm3 hm4 ht1 ht2 ht3 ht4 hN hc4 hc5) (fun _ h => ⟨rfl, h⟩) ?_
  intro v S1 w1 hr hP1 hk1 hK1 hO1
  have hf := hO1.done (v := (0 : Int)) hP1 hK1
  clear hO1 hP1 hK1 hr hk1 hO h hl hK
  go_wp2_with fail
  first | exact hf | (go_ret; exact hf)
theorem kclosL (B p : Nat) (S : TS) (q0 q1 r0 r1 : Reg) (side me : Int) (b c bl bx bt : Nat) (w : World) (h : Plays B w p S) (hl : RegsAt [2, 3, 4] w p b [q0, q1, r0, r1]) (hq0 : q0.ok) (hq1 : q1.ok)
    (hm0 : 0 ≤ me) (hm1 : me < q0.n) (hm2 : me < q1.n)
    (c1 : w.cell? ⟨bl, 0, none⟩ = some (.slice (some ⟨b, 0, none⟩) 4 c)) (c2 : w.cell? ⟨bx, 2, none⟩ = some (.int .i64 side)) (c3 : w.cell? ⟨bt, 0, none⟩ = some (.int .i64 me)) :
    Calls Tryz.prog 30 #[.pointer (some ⟨p, 0, none⟩), .pointer (some ⟨bl, 0, none⟩), .pointer (some ⟨bx, 0, none⟩), .pointer (some ⟨bt, 0, none⟩)] w (Post encI B p w (((kesL q0 q1 side me).bind fun _ => .ret 0).run S)) := by
  generalize hR : Post encI B p w (((kesL q0 q1 side me).bind fun _ => .ret 0).run S) = R
  have hO : Owes R encI B p w (((kesL q0 q1 side me).bind fun _ => .ret 0).run S) := hR ▸ owes _ _ _ _ _
  clear hR
  have hK := Keep.refl [2, 3, 4] B p w
  go_enter Tryz.func30, Tryz.ntmps30
  go_wp2_with fail
  clear c1 c2 c3
  refine tstep hO hK (kes_leave_p B p S q0 q1 r0 r1 side me b c w h hl hq0 hq1 hm0 hm1 hm2) (fun _ h => ⟨rfl, h⟩) ?_
  intro v S1 w1 hr hP1 hk1 hK1 hO1
  have hf := hO1.done (v := (0 : Int)) hP1 hK1
  clear hO1 hP1 hK1 hr hk1 hO h hl hK
  go_wp2_with fail
  first | exact hf | (go_ret; exact hf)
end Go.Proofs.YtpcohbpeglledaaGreat
/-
  Trees of locks of two sides: plain mathematics, and the program's pure parts.
-/
namespace Kv
/-- The nodes above a place, the lowest first. -/
def pathN : Nat → Nat → List Int
  | 0, _ => []
  | f + 1, x => if x ≤ 1 then [] else (x : Int) :: pathN f (x / 2)
theorem pathN_fuel : ∀ (f g x : Nat), x ≤ f → x ≤ g → pathN f x = pathN g x
  | 0, 0, x, _, _ => rfl
  | 0, g + 1, x, h, _ => by unfold pathN; rw [if_pos (by omega)]
  | f + 1, 0, x, _, h => by unfold pathN; rw [if_pos (by omega)]
  | f + 1, g + 1, x, h1, h2 => by
    unfold pathN
    split
    · rfl
    · rw [pathN_fuel f g (x / 2) (by omega) (by omega)]
theorem pathN_cons {x : Nat} (h : 1 < x) : pathN x x = (x : Int) :: pathN (x / 2) (x / 2) := by
  obtain ⟨y, rfl⟩ : ∃ y, x = y + 1 := ⟨x - 1, by omega⟩
  rw [show pathN (y + 1) (y + 1) = (if y + 1 ≤ 1 then [] else ((y + 1 : Nat) : Int) :: pathN y ((y + 1) / 2)) from rfl, if_neg (by omega), pathN_fuel y ((y + 1) / 2) _ (by omega) (by omega)]
theorem pathN_nil {x : Nat} (h : x ≤ 1) : pathN x x = [] := by
  cases x with
  | zero => rfl
  | succ x => rw [show pathN (x + 1) (x + 1) = (if x + 1 ≤ 1 then [] else ((x + 1 : Nat) : Int) :: pathN x ((x + 1) / 2)) from rfl, if_pos h]
theorem pathN_len : ∀ (f x : Nat), (pathN f x).length ≤ f
  | 0, _ => by simp [pathN]
  | f + 1, x => by
    unfold pathN
    split
    · simp
    · have := pathN_len f (x / 2)
      simp; omega
/-- The nodes above a place of a tree of so many places. -/
def pathL (m place : Nat) : List Int := pathN (2 ^ levels m + place) (2 ^ levels m + place)
theorem lev_le {m : Nat} (h : m ≤ 64) : levels m ≤ 6 := by
  have : ∀ m : Nat, m < 65 → levels m ≤ 6 := by decide +kernel
  exact this m (by omega)
theorem pow_le {k : Nat} (h : k ≤ 6) : 1 ≤ 2 ^ k ∧ 2 ^ k ≤ 64 := by
  have : ∀ k : Nat, k < 7 → 1 ≤ 2 ^ k ∧ 2 ^ k ≤ 64 := by decide
  exact this k (by omega)
end Kv
namespace Go.Proofs.YtpcohbpeglledaaGreat
open Go.RowKit Kv
set_option maxRecDepth 100000 in
set_option maxHeartbeats 1000000 in
theorem path_p (m place : Nat) (w : World) (h1 : 1 ≤ m) (h2 : m ≤ 64) (h3 : place < m) :
    Calls Tryz.prog 64 #[.int .i64 m, .int .i64 place] w fun e w' => ∃ v, e = .returned v ∧ IntRow w' w.heap.size v (pathL m place) ∧ Ext w w' := by
  have hlv := fun w => levels_p m (by omega) w
  have hle := lev_le h2
  unfold pathL
  generalize levels m = L at *
  obtain ⟨p1, p2⟩ := pow_le hle
  have hPi : (2 : Int) ^ L = ((2 ^ L : Nat) : Int) := by rw [Int.natCast_pow]; rfl
  generalize 2 ^ L = P at *
  have hsh : Op.shift .shl .i64 1 .i64 (L : Int) = pure (.int .i64 (P : Int)) := by
    rw [Go.shift_shl_i64 (x := 1) (y := (L : Int)) (yk := .i64) (by omega) (by omega), Int.one_mul, Int.toNat_natCast, hPi, IntWalk.i64_in _ (by omega)]
  clear hPi hle
  have d1 : decide ((m : Int) < 1) = false := by rw [decide_eq_false_iff_not]; omega
  have d2 : decide ((64 : Int) < (m : Int)) = false := by rw [decide_eq_false_iff_not]; omega
  have d3 : decide ((place : Int) < 0) = false := by rw [decide_eq_false_iff_not]; omega
  have d4 : decide (m ≤ place) = false := by rw [decide_eq_false_iff_not]; omega
  obtain ⟨X, hX⟩ : ∃ X : Nat, P + place = X := ⟨_, rfl⟩
  rw [hX]
  have hw : IntKind.i64.wrap ((P : Int) + (place : Int)) = (X : Int) := by rw [IntWalk.i64_in _ (by omega)]; omega
  go_enter Tryz.func64, Tryz.ntmps64
  go_wp2_with fail
  refine (hlv _).mono ?_
  rintro e w' ⟨rfl, rfl⟩
  go_wp2_with fail
  go_loopw [5, 6] (fun v i wr => ∃ (x : Nat) (l : List Int), i = .int .i64 x ∧ x ≤ 128 ∧ l.length + x ≤ X ∧ IntRow wr w.heap.size v l ∧ Hid (l ++ pathN x x = pathN X X) ∧ Ext w wr) (fun _ i _ => (intOf i).toNat)
  case atStart => exact ⟨X, [], rfl, by omega, by simp, IntRow.nil _ _, Lib.hid rfl, Ext.refl w⟩
  case round =>
    obtain ⟨x, l, rfl, hx, hln, hown, hpath, hE⟩ := hrel
    by_cases hx1 : 1 < x
    · have e1 : decide ((1 : Int) < (x : Int)) = true := by rw [decide_eq_true_eq]; omega
      go_wp2_with (at_builtin; refine append_int rfl _ _ rfl w.heap.size _ l x hown rfl rfl (by omega) hE.size ?_)
      intro v' w' ho hg
      have hx' := hE.appended hown hg
      have hoh := Lib.hid ho
      have hp2 : Hid ((l ++ [(x : Int)]) ++ pathN (x / 2) (x / 2) = pathN X X) := Lib.hid (by rw [← hpath.out, pathN_cons hx1, List.append_assoc]; rfl)
      clear hown ho hg hpath hE
      go_wp2_with fail
      refine ⟨⟨x / 2, l ++ [(x : Int)], by go_num, by omega, by simp; omega, hoh.out, hp2, hx'⟩, ?_⟩
      simp [intOf]; omega
    · have e1 : decide ((1 : Int) < (x : Int)) = false := by rw [decide_eq_false_iff_not]; omega
      have hp := hpath.out
      rw [pathN_nil (by omega), List.append_nil] at hp
      have hf := Lib.hid hown
      subst hp
      clear hown hpath
      go_wp2_with fail
      go_ret
      exact ⟨_, rfl, hf.out, hE⟩
end Go.Proofs.YtpcohbpeglledaaGreat
/-
  Trees of locks of two sides: nodes, wants and registers, by the program.
-/
namespace Go.Proofs.YtpcohbpeglledaaGreat
open Go.RowKit Kv
def fnV (n : Nat) : Value := .func (.func n) #[] #[]
/-- How many registers a node of a kind of tree has. -/
def eachK (kind : Int) : Nat := if kind = 7 then 4 else 3
def nodeV (kind : Int) : Value := if kind = 7 then .agg #[fnV 25, fnV 28, fnV 31] else .agg #[fnV 179, fnV 180, fnV 181]
set_option maxRecDepth 100000 in
theorem nodeOf_p (kind : Int) (w : World) : Calls Tryz.prog 131 #[.int .i64 kind] w fun e w' => e = .returned (nodeV kind) ∧ Ext w w' := by
  unfold nodeV
  by_cases h : kind = 7
  · have d : (kind == 7) = true := by simpa using h
    rw [if_pos h]
    clear h
    go_enter Tryz.func131, Tryz.ntmps131
    go_wp2_with fail
    refine bodyPost_ret (v := .agg #[fnV 25, fnV 28, fnV 31]) (by simp [results, Tryz.results131, go_sem, fnV]) rfl ?_
    exact ⟨rfl, (Ext.refl w).alloc _⟩
  · have d : (kind == 7) = false := by simpa using h
    rw [if_neg h]
    clear h
    go_enter Tryz.func131, Tryz.ntmps131
    go_wp2_with fail
    refine bodyPost_ret (v := .agg #[fnV 179, fnV 180, fnV 181]) (by simp [results, Tryz.results131, go_sem, fnV]) rfl ?_
    exact ⟨rfl, (Ext.refl w).alloc _⟩
theorem wants_node (kind : Int) (w : World) : ∃ n, ((kind = 7 ∧ n = 25) ∨ (kind ≠ 7 ∧ n = 179)) ∧ Calls Tryz.prog n #[] w fun e w' => ∃ v, e = .returned v ∧ WantsAt w' v (List.replicate (eachK kind) ⟨-1, 1⟩) ∧ Ext w w' := by
  unfold eachK
  by_cases h : kind = 7
  · rw [if_pos h]
    exact ⟨_, .inl ⟨h, rfl⟩, kwants_p w⟩
  · rw [if_neg h]
    exact ⟨_, .inr ⟨h, rfl⟩, awants_p w⟩
end Go.Proofs.YtpcohbpeglledaaGreat
/-
  Trees of locks of two sides: wants and registers, by the program.
-/
namespace Go.Proofs.YtpcohbpeglledaaGreat
open Go.RowKit Kv
set_option maxRecDepth 100000 in
set_option maxHeartbeats 1000000 in
theorem twants_p7 (kind : Int) (m : Nat) (w : World) (h1 : 1 ≤ m) (h2 : m ≤ 64) (hk : kind = 7) :
    Calls Tryz.prog 63 #[.int .i64 kind, .int .i64 m] w fun e w' => ∃ v, e = .returned v ∧ WantsAt w' v (List.replicate (4 * (2 ^ levels m - 1)) ⟨-1, 1⟩) ∧ Ext w w' := by
  have hlv := fun w => levels_p m (by omega) w
  have hle := lev_le h2
  generalize levels m = L at *
  obtain ⟨p1, p2⟩ := pow_le hle
  have hPi : (2 : Int) ^ L = ((2 ^ L : Nat) : Int) := by rw [Int.natCast_pow]; rfl
  generalize 2 ^ L = P at *
  have hsh : Op.shift .shl .i64 1 .i64 (L : Int) = pure (.int .i64 (P : Int)) := by
    rw [Go.shift_shl_i64 (x := 1) (y := (L : Int)) (yk := .i64) (by omega) (by omega), Int.one_mul, Int.toNat_natCast, hPi, IntWalk.i64_in _ (by omega)]
  clear hPi hle
  obtain ⟨M, rfl⟩ : ∃ M, P = M + 1 := ⟨P - 1, by omega⟩
  have hw : IntKind.i64.wrap (((M + 1 : Nat) : Int) - 1) = (M : Int) := by rw [IntWalk.i64_in _ (by omega)]; omega
  rw [Nat.add_sub_cancel]
  generalize hQ : M + 1 = Q at *
  have hM : M ≤ 63 := by omega
  have d1 : decide ((m : Int) < 1) = false := by rw [decide_eq_false_iff_not]; omega
  have d2 : decide ((64 : Int) < (m : Int)) = false := by rw [decide_eq_false_iff_not]; omega
  have hn : nodeV kind = .agg #[.func (.func 25) #[] #[], .func (.func 28) #[] #[], .func (.func 31) #[] #[]] := by unfold nodeV; rw [if_pos hk]; rfl
  have hN := fun w => nodeOf_p kind w
  rw [hn] at hN
  have hfd : ∀ w, (Instr.field 117 (.agg #[.func (.func 25) #[] #[], .func (.func 28) #[] #[], .func (.func 31) #[] #[]]) 0).run Tryz.prog w = .ok (.func (.func 25) #[] #[]) w := fun w => by kernel_rfl
  clear hn hk
  go_enter Tryz.func63, Tryz.ntmps63
  go_wp2_with fail
  refine (hlv _).mono ?_
  rintro e w' ⟨rfl, rfl⟩
  clear hlv
  go_wp2_with fail
  go_loopw [5, 16] (fun v i wr => ∃ j : Nat, i = .int .i64 j ∧ j ≤ M ∧ wr.ownsRow w.heap.size 64 2 v (4 * j) ((List.replicate (4 * j) (⟨-1, 1⟩ : Want)).flatMap wantVals) ∧ Ext w wr) (fun _ i _ => M - (intOf i).toNat)
  case atStart => exact ⟨0, rfl, by omega, World.ownsRow_nil _ _ _ _, Ext.refl _⟩
  case round =>
    obtain ⟨j, rfl, hj, hown, hX⟩ := hrel
    by_cases hl : j < M
    · go_wp2_with fail
      refine (hN _).mono ?_
      rintro e w2 ⟨rfl, hx2⟩
      replace hown := row_ext hown hx2
      replace hX := hX.trans hx2
      clear hx2
      go_wp2_with fail
      refine (kwants_p _).mono ?_
      rintro e w3 ⟨v2, rfl, hr2, hx3⟩
      replace hown := row_ext hown hx3
      replace hX := hX.trans hx3
      obtain ⟨A, c, rfl, r1, r2, hV⟩ := hr2
      obtain ⟨b, rfl, hb, hc⟩ := hV (by simp [wantVals, List.replicate])
      rw [List.length_replicate] at *
      clear hV hx3
      go_wp2_with (at_builtin; refine append_recs info_want Tryz.underlying25 rfl (by decide) (by decide) rfl _ _ rfl _ (4 * j) _ ((List.replicate 4 (⟨-1, 1⟩ : Want)).flatMap wantVals) ⟨b, 0, none⟩ 4 c hX hown rfl rfl rfl (fun i u hu => by rw [Addr.add_lit, Nat.zero_add]; exact hc i u hu) (fun u hu => by simp [List.replicate, wantVals] at hu; rcases hu with rfl | rfl | rfl | rfl | rfl | rfl | rfl | rfl <;> rfl) (by omega) (by omega) ?_)
      intro v' w' ho hx'
      have hoh : Hid (w'.ownsRow w.heap.size 64 2 v' (4 * (j + 1)) ((List.replicate (4 * (j + 1)) (⟨-1, 1⟩ : Want)).flatMap wantVals)) := Lib.hid (by
        rw [Nat.mul_succ, ← List.replicate_append_replicate, List.flatMap_append]; exact ho)
      clear hown ho hc
      go_wp2_with fail
      refine ⟨⟨j + 1, by go_num, by omega, hoh.out, hx'⟩, ?_⟩
      simp [intOf]; omega
    · obtain rfl : j = M := by omega
      have hownh := Lib.hid hown
      clear hown
      go_wp2_with fail
      go_ret
      exact ⟨_, rfl, by have := Recs.of_row hownh.out; unfold WantsAt; rw [List.length_replicate]; exact this, hX⟩
set_option maxRecDepth 100000 in
set_option maxHeartbeats 1000000 in
theorem twants_p3 (kind : Int) (m : Nat) (w : World) (h1 : 1 ≤ m) (h2 : m ≤ 64) (hk : kind ≠ 7) :
    Calls Tryz.prog 63 #[.int .i64 kind, .int .i64 m] w fun e w' => ∃ v, e = .returned v ∧ WantsAt w' v (List.replicate (3 * (2 ^ levels m - 1)) ⟨-1, 1⟩) ∧ Ext w w' := by
  have hlv := fun w => levels_p m (by omega) w
  have hle := lev_le h2
  generalize levels m = L at *
  obtain ⟨p1, p2⟩ := pow_le hle
  have hPi : (2 : Int) ^ L = ((2 ^ L : Nat) : Int) := by rw [Int.natCast_pow]; rfl
  generalize 2 ^ L = P at *
  have hsh : Op.shift .shl .i64 1 .i64 (L : Int) = pure (.int .i64 (P : Int)) := by
    rw [Go.shift_shl_i64 (x := 1) (y := (L : Int)) (yk := .i64) (by omega) (by omega), Int.one_mul, Int.toNat_natCast, hPi, IntWalk.i64_in _ (by omega)]
  clear hPi hle
  obtain ⟨M, rfl⟩ : ∃ M, P = M + 1 := ⟨P - 1, by omega⟩
  have hw : IntKind.i64.wrap (((M + 1 : Nat) : Int) - 1) = (M : Int) := by rw [IntWalk.i64_in _ (by omega)]; omega
  rw [Nat.add_sub_cancel]
  generalize hQ : M + 1 = Q at *
  have hM : M ≤ 63 := by omega
  have d1 : decide ((m : Int) < 1) = false := by rw [decide_eq_false_iff_not]; omega
  have d2 : decide ((64 : Int) < (m : Int)) = false := by rw [decide_eq_false_iff_not]; omega
  have hn : nodeV kind = .agg #[.func (.func 179) #[] #[], .func (.func 180) #[] #[], .func (.func 181) #[] #[]] := by unfold nodeV; rw [if_neg hk]; rfl
  have hN := fun w => nodeOf_p kind w
  rw [hn] at hN
  have hfd : ∀ w, (Instr.field 117 (.agg #[.func (.func 179) #[] #[], .func (.func 180) #[] #[], .func (.func 181) #[] #[]]) 0).run Tryz.prog w = .ok (.func (.func 179) #[] #[]) w := fun w => by kernel_rfl
  clear hn hk
  go_enter Tryz.func63, Tryz.ntmps63
  go_wp2_with fail
  refine (hlv _).mono ?_
  rintro e w' ⟨rfl, rfl⟩
  clear hlv
  go_wp2_with fail
  go_loopw [5, 16] (fun v i wr => ∃ j : Nat, i = .int .i64 j ∧ j ≤ M ∧ wr.ownsRow w.heap.size 64 2 v (3 * j) ((List.replicate (3 * j) (⟨-1, 1⟩ : Want)).flatMap wantVals) ∧ Ext w wr) (fun _ i _ => M - (intOf i).toNat)
  case atStart => exact ⟨0, rfl, by omega, World.ownsRow_nil _ _ _ _, Ext.refl _⟩
  case round =>
    obtain ⟨j, rfl, hj, hown, hX⟩ := hrel
    by_cases hl : j < M
    · go_wp2_with fail
      refine (hN _).mono ?_
      rintro e w2 ⟨rfl, hx2⟩
      replace hown := row_ext hown hx2
      replace hX := hX.trans hx2
      clear hx2
      go_wp2_with fail
      refine (awants_p _).mono ?_
      rintro e w3 ⟨v2, rfl, hr2, hx3⟩
      replace hown := row_ext hown hx3
      replace hX := hX.trans hx3
      obtain ⟨A, c, rfl, r1, r2, hV⟩ := hr2
      obtain ⟨b, rfl, hb, hc⟩ := hV (by simp [wantVals, List.replicate])
      rw [List.length_replicate] at *
      clear hV hx3
      go_wp2_with (at_builtin; refine append_recs info_want Tryz.underlying25 rfl (by decide) (by decide) rfl _ _ rfl _ (3 * j) _ ((List.replicate 3 (⟨-1, 1⟩ : Want)).flatMap wantVals) ⟨b, 0, none⟩ 3 c hX hown rfl rfl rfl (fun i u hu => by rw [Addr.add_lit, Nat.zero_add]; exact hc i u hu) (fun u hu => by simp [List.replicate, wantVals] at hu; rcases hu with rfl | rfl | rfl | rfl | rfl | rfl | rfl | rfl <;> rfl) (by omega) (by omega) ?_)
      intro v' w' ho hx'
      have hoh : Hid (w'.ownsRow w.heap.size 64 2 v' (3 * (j + 1)) ((List.replicate (3 * (j + 1)) (⟨-1, 1⟩ : Want)).flatMap wantVals)) := Lib.hid (by
        rw [Nat.mul_succ, ← List.replicate_append_replicate, List.flatMap_append]; exact ho)
      clear hown ho hc
      go_wp2_with fail
      refine ⟨⟨j + 1, by go_num, by omega, hoh.out, hx'⟩, ?_⟩
      simp [intOf]; omega
    · obtain rfl : j = M := by omega
      have hownh := Lib.hid hown
      clear hown
      go_wp2_with fail
      go_ret
      exact ⟨_, rfl, by have := Recs.of_row hownh.out; unfold WantsAt; rw [List.length_replicate]; exact this, hX⟩
theorem twants_p (kind : Int) (m : Nat) (w : World) (h1 : 1 ≤ m) (h2 : m ≤ 64) :
    Calls Tryz.prog 63 #[.int .i64 kind, .int .i64 m] w fun e w' => ∃ v, e = .returned v ∧ WantsAt w' v (List.replicate (eachK kind * (2 ^ levels m - 1)) ⟨-1, 1⟩) ∧ Ext w w' := by
  unfold eachK
  by_cases hk : kind = 7
  · rw [if_pos hk]; exact twants_p7 kind m w h1 h2 hk
  · rw [if_neg hk]; exact twants_p3 kind m w h1 h2 hk
set_option maxRecDepth 100000 in
theorem tregs_p7 (b c n : Nat) (len : Nat) (w : World) (h1 : 1 ≤ n) (h2 : n * 4 ≤ len) (h3 : len ≤ c) (h4 : c ≤ 9223372036854775807) (h5 : len ≤ 1000000) :
    Calls Tryz.prog 137 #[.slice (some ⟨b, 0, none⟩) len c, .agg #[.func (.func 25) #[] #[], .func (.func 28) #[] #[], .func (.func 31) #[] #[]], .int .i64 n] w fun e w' => ∃ c', e = .returned (.slice (some ⟨b, 4 * (n - 1) * 7, none⟩) 4 c') ∧ 4 ≤ c' ∧ c' ≤ 9223372036854775807 ∧ Ext w w' := by
  obtain ⟨k, rfl⟩ : ∃ k, n = k + 1 := ⟨n - 1, by omega⟩
  rw [Nat.add_sub_cancel]
  have w1 := IntWalk.i64_in (((k + 1 : Nat) : Int) - 1) (by omega)
  have w2 := IntWalk.i64_in ((((k + 1 : Nat) : Int) - 1) * 4) (by omega)
  have w3 := IntWalk.i64_in (((k + 1 : Nat) : Int) * 4) (by omega)
  have d1 : decide ((len : Int) < ((k : Int) + 1) * 4) = false := by rw [decide_eq_false_iff_not]; omega
  have hX := Ext.refl w
  have b1 := Blk.new w (.cells #[.func (.func 25) #[] #[], .func (.func 28) #[] #[], .func (.func 31) #[] #[]] 117)
  replace hX := hX.alloc (.cells #[.func (.func 25) #[] #[], .func (.func 28) #[] #[], .func (.func 31) #[] #[]] 117)
  have c_b1 := b1.cells
  go_enter Tryz.func137, Tryz.ntmps137
  go_wp2_with fail
  refine (kwants_p _).mono ?_
  rintro e w2 ⟨v2, rfl, hr2, hx3⟩
  obtain ⟨A, c2, rfl, r1, r2, -⟩ := hr2
  rw [List.length_replicate]
  replace hX := hX.trans hx3
  clear hx3
  go_wp2_with fail
  go_ret
  exact ⟨c - k * 4, by rw [Nat.mul_comm k 4, show (k + 1) * 4 - 4 * k = 4 from by omega]; rfl, by omega, by omega, hX⟩
set_option maxRecDepth 100000 in
theorem tregs_p3 (b c n : Nat) (len : Nat) (w : World) (h1 : 1 ≤ n) (h2 : n * 3 ≤ len) (h3 : len ≤ c) (h4 : c ≤ 9223372036854775807) (h5 : len ≤ 1000000) :
    Calls Tryz.prog 137 #[.slice (some ⟨b, 0, none⟩) len c, .agg #[.func (.func 179) #[] #[], .func (.func 180) #[] #[], .func (.func 181) #[] #[]], .int .i64 n] w fun e w' => ∃ c', e = .returned (.slice (some ⟨b, 3 * (n - 1) * 7, none⟩) 3 c') ∧ 3 ≤ c' ∧ c' ≤ 9223372036854775807 ∧ Ext w w' := by
  obtain ⟨k, rfl⟩ : ∃ k, n = k + 1 := ⟨n - 1, by omega⟩
  rw [Nat.add_sub_cancel]
  have w1 := IntWalk.i64_in (((k + 1 : Nat) : Int) - 1) (by omega)
  have w2 := IntWalk.i64_in ((((k + 1 : Nat) : Int) - 1) * 3) (by omega)
  have w3 := IntWalk.i64_in (((k + 1 : Nat) : Int) * 3) (by omega)
  have d1 : decide ((len : Int) < ((k : Int) + 1) * 3) = false := by rw [decide_eq_false_iff_not]; omega
  have hX := Ext.refl w
  have b1 := Blk.new w (.cells #[.func (.func 179) #[] #[], .func (.func 180) #[] #[], .func (.func 181) #[] #[]] 117)
  replace hX := hX.alloc (.cells #[.func (.func 179) #[] #[], .func (.func 180) #[] #[], .func (.func 181) #[] #[]] 117)
  have c_b1 := b1.cells
  go_enter Tryz.func137, Tryz.ntmps137
  go_wp2_with fail
  refine (awants_p _).mono ?_
  rintro e w2 ⟨v2, rfl, hr2, hx3⟩
  obtain ⟨A, c2, rfl, r1, r2, -⟩ := hr2
  rw [List.length_replicate]
  replace hX := hX.trans hx3
  clear hx3
  go_wp2_with fail
  go_ret
  exact ⟨c - k * 3, by rw [Nat.mul_comm k 3, show (k + 1) * 3 - 3 * k = 3 from by omega]; rfl, by omega, by omega, hX⟩
end Go.Proofs.YtpcohbpeglledaaGreat
/-
  Trees of locks of two sides: climbing and going down, by the program.
-/
namespace Kv
def nthR (rs : List Reg) (i : Nat) : Reg := rs.getD i ⟨1, 0, 0, 1, -1, -1, 1⟩
theorem nthR_of {rs : List Reg} {i : Nat} (h : i < rs.length) : rs[i]? = some (nthR rs i) := by
  unfold nthR
  rw [List.getD_eq_getElem?_getD, List.getElem?_eq_getElem h]; rfl
/-- Entering, and leaving, a node of so many registers. -/
def nodeE (E D : Nat) (rs : List Reg) (me : Int) (x : Int) : Prog Unit :=
  if E = 4 then kesM D (nthR rs (4 * ((x / 2).toNat - 1))) (nthR rs (4 * ((x / 2).toNat - 1) + 1)) (nthR rs (4 * ((x / 2).toNat - 1) + 2)) (nthR rs (4 * ((x / 2).toNat - 1) + 3)) (x % 2) me
  else arbM D (nthR rs (3 * ((x / 2).toNat - 1))) (nthR rs (3 * ((x / 2).toNat - 1) + 1)) (nthR rs (3 * ((x / 2).toNat - 1) + 2)) (x % 2) me
def nodeL (E : Nat) (rs : List Reg) (me : Int) (x : Int) : Prog Unit := kesL (nthR rs (E * ((x / 2).toNat - 1))) (nthR rs (E * ((x / 2).toNat - 1) + 1)) (x % 2) me
theorem pathN_mem : ∀ (f x : Nat) {y : Int}, y ∈ pathN f x → 2 ≤ y ∧ y ≤ x
  | 0, _, y, h => by simp [pathN] at h
  | f + 1, x, y, h => by
    unfold pathN at h
    split at h
    · simp at h
    · rcases List.mem_cons.1 h with rfl | h
      · omega
      · have := pathN_mem f (x / 2) h
        omega
theorem lev_ge {m : Nat} (h : m ≤ 64) : m ≤ 2 ^ levels m := by
  have : ∀ m : Nat, m < 65 → m ≤ 2 ^ levels m := by decide +kernel
  exact this m (by omega)
theorem pathL_mem {m place : Nat} (h : m ≤ 64) (hp : place < m) {y : Int} (hy : y ∈ pathL m place) : 2 ≤ y ∧ y < 2 * 2 ^ levels m := by
  have h1 := pathN_mem _ _ hy
  have h2 := lev_ge h
  have e : (2 : Int) ^ levels m = ((2 ^ levels m : Nat) : Int) := by rw [Int.natCast_pow]; rfl
  rw [e]
  generalize 2 ^ levels m = P at *
  omega
end Kv
namespace Go.Proofs.YtpcohbpeglledaaGreat
open Go.RowKit Kv
/-- A row of ints beside what a Mem owns. -/
def RowH (ix : List Nat) (w : World) (p : Nat) (A : Option Addr) (l : List Int) : Prop := l ≠ [] → ∃ g cur, A = some ⟨g, 0, none⟩ ∧ Held ix w p g (.cells cur 3) ∧ ∀ (i : Nat) y, l[i]? = some y → cur[i]? = some (.int .i64 y)
theorem RowH.of_row {ix : List Nat} {w : World} {p base : Nat} {v : Value} {l : List Int} (h : IntRow w base v l) (hn : ∀ b, base ≤ b → ¬ ownR ix w p b) : ∃ A c, v = .slice A l.length c ∧ RowH ix w p A l := by
  rcases h.2 with ⟨rfl, h0⟩ | ⟨g, cap, cur, rfl, hb, hg, h1, h2, h3, h4⟩
  · exact ⟨none, 0, by rw [h0], fun hne => absurd (List.length_eq_zero_iff.1 h0) hne⟩
  · refine ⟨_, cap, rfl, fun _ => ⟨g, cur, rfl, ⟨hg, hn g hb⟩, fun i y hy => ?_⟩⟩
    have e : (cur.toList.take (l.length * 1))[i]? = some (.int .i64 y) := by rw [h4, List.getElem?_map, hy]; rfl
    rw [List.getElem?_take] at e
    split at e
    · rw [← e]; simp
    · cases e
theorem Held.at_ {ix : List Nat} {w : World} {p g : Nat} {cur : Array Value} {l : List Int} (h : Held ix w p g (.cells cur 3)) (hc : ∀ (i : Nat) y, l[i]? = some y → cur[i]? = some (.int .i64 y)) {i : Nat} {y : Int} (hy : l[i]? = some y) : w.cell? ⟨g, i, none⟩ = some (.int .i64 y) := by
  rw [h.cells i]; exact hc i y hy
theorem node_enter_p7 (B p D n : Nat) (S : TS) (rs : List Reg) (x me : Int) (b c : Nat) (w : World) (h : Plays B w p S) (hl : RegsAt [2, 3, 4] w p b rs) (hall : ∀ r ∈ rs, r.ok ∧ me < r.n ∧ r.told me) (hm0 : 0 ≤ me) (hn : x / 2 = n) (hn1 : 1 ≤ n) (hn2 : n * 4 ≤ rs.length) (hD : S.left < D) (hc4 : 4 ≤ c) (hc5 : c ≤ 9223372036854775807) :
    Calls Tryz.prog 28 #[.pointer (some ⟨p, 0, none⟩), .slice (some ⟨b, 4 * (n - 1) * 7, none⟩) 4 c, .int .i64 (x % 2), .int .i64 me] w (Post encU B p w ((nodeE 4 D rs me x).run S)) := by
  unfold nodeE
  rw [if_pos rfl, hn, Int.toNat_natCast]
  obtain ⟨k0, l0, t0⟩ := hall _ (List.mem_of_getElem? (nthR_of (rs := rs) (i := 4 * (n - 1)) (by omega)))
  obtain ⟨k1, l1, t1⟩ := hall _ (List.mem_of_getElem? (nthR_of (rs := rs) (i := 4 * (n - 1) + 1) (by omega)))
  obtain ⟨k2, l2, t2⟩ := hall _ (List.mem_of_getElem? (nthR_of (rs := rs) (i := 4 * (n - 1) + 2) (by omega)))
  obtain ⟨k3, l3, t3⟩ := hall _ (List.mem_of_getElem? (nthR_of (rs := rs) (i := 4 * (n - 1) + 3) (by omega)))
  exact kesn_enter_p B p D S _ _ _ _ (x % 2) me b c (4 * (n - 1)) rs w h hl ⟨nthR_of (i := 4 * (n - 1)) (by omega), nthR_of (i := 4 * (n - 1) + 1) (by omega), nthR_of (i := 4 * (n - 1) + 2) (by omega), nthR_of (i := 4 * (n - 1) + 3) (by omega)⟩ k0 k1 k2 k3 hm0 l0 l1 l2 l3 t0 t1 t2 t3 hD hc4 hc5
theorem node_leave_p7 (B p n : Nat) (S : TS) (rs : List Reg) (x me : Int) (b c : Nat) (w : World) (h : Plays B w p S) (hl : RegsAt [2, 3, 4] w p b rs) (hall : ∀ r ∈ rs, r.ok ∧ me < r.n ∧ r.told me) (hm0 : 0 ≤ me) (hn : x / 2 = n) (hn1 : 1 ≤ n) (hn2 : n * 4 ≤ rs.length) :
    Calls Tryz.prog 31 #[.pointer (some ⟨p, 0, none⟩), .slice (some ⟨b, 4 * (n - 1) * 7, none⟩) 4 c, .int .i64 (x % 2), .int .i64 me] w (Post encU B p w ((nodeL 4 rs me x).run S)) := by
  unfold nodeL
  rw [hn, Int.toNat_natCast]
  obtain ⟨k0, l0, t0⟩ := hall _ (List.mem_of_getElem? (nthR_of (rs := rs) (i := 4 * (n - 1)) (by omega)))
  obtain ⟨k1, l1, t1⟩ := hall _ (List.mem_of_getElem? (nthR_of (rs := rs) (i := 4 * (n - 1) + 1) (by omega)))
  obtain ⟨k2, l2, t2⟩ := hall _ (List.mem_of_getElem? (nthR_of (rs := rs) (i := 4 * (n - 1) + 2) (by omega)))
  obtain ⟨k3, l3, t3⟩ := hall _ (List.mem_of_getElem? (nthR_of (rs := rs) (i := 4 * (n - 1) + 3) (by omega)))
  exact kesn_leave_p B p S _ _ (nthR rs (4 * (n - 1) + 2)) (nthR rs (4 * (n - 1) + 3)) (x % 2) me b c (4 * (n - 1)) rs w h hl ⟨nthR_of (i := 4 * (n - 1)) (by omega), nthR_of (i := 4 * (n - 1) + 1) (by omega), nthR_of (i := 4 * (n - 1) + 2) (by omega), nthR_of (i := 4 * (n - 1) + 3) (by omega)⟩ k0 k1 hm0 l0 l1
theorem node_enter_p3 (B p D n : Nat) (S : TS) (rs : List Reg) (x me : Int) (b c : Nat) (w : World) (h : Plays B w p S) (hl : RegsAt [2, 3, 4] w p b rs) (hall : ∀ r ∈ rs, r.ok ∧ me < r.n ∧ r.told me) (hm0 : 0 ≤ me) (hn : x / 2 = n) (hn1 : 1 ≤ n) (hn2 : n * 3 ≤ rs.length) (hD : S.left < D) (_hc4 : 3 ≤ c) (_hc5 : c ≤ 9223372036854775807) :
    Calls Tryz.prog 180 #[.pointer (some ⟨p, 0, none⟩), .slice (some ⟨b, 3 * (n - 1) * 7, none⟩) 3 c, .int .i64 (x % 2), .int .i64 me] w (Post encU B p w ((nodeE 3 D rs me x).run S)) := by
  unfold nodeE
  rw [if_neg (by decide), hn, Int.toNat_natCast]
  obtain ⟨k0, l0, t0⟩ := hall _ (List.mem_of_getElem? (nthR_of (rs := rs) (i := 3 * (n - 1)) (by omega)))
  obtain ⟨k1, l1, t1⟩ := hall _ (List.mem_of_getElem? (nthR_of (rs := rs) (i := 3 * (n - 1) + 1) (by omega)))
  obtain ⟨k2, l2, t2⟩ := hall _ (List.mem_of_getElem? (nthR_of (rs := rs) (i := 3 * (n - 1) + 2) (by omega)))
  exact arbn_enter_p B p D S _ _ _ (x % 2) me b c (3 * (n - 1)) rs w h hl ⟨nthR_of (i := 3 * (n - 1)) (by omega), nthR_of (i := 3 * (n - 1) + 1) (by omega), nthR_of (i := 3 * (n - 1) + 2) (by omega)⟩ k0 k1 k2 hm0 l0 l1 l2 t0 t1 hD
theorem node_leave_p3 (B p n : Nat) (S : TS) (rs : List Reg) (x me : Int) (b c : Nat) (w : World) (h : Plays B w p S) (hl : RegsAt [2, 3, 4] w p b rs) (hall : ∀ r ∈ rs, r.ok ∧ me < r.n ∧ r.told me) (hm0 : 0 ≤ me) (hn : x / 2 = n) (hn1 : 1 ≤ n) (hn2 : n * 3 ≤ rs.length) :
    Calls Tryz.prog 181 #[.pointer (some ⟨p, 0, none⟩), .slice (some ⟨b, 3 * (n - 1) * 7, none⟩) 3 c, .int .i64 (x % 2), .int .i64 me] w (Post encU B p w ((nodeL 3 rs me x).run S)) := by
  unfold nodeL
  rw [hn, Int.toNat_natCast]
  obtain ⟨k0, l0, t0⟩ := hall _ (List.mem_of_getElem? (nthR_of (rs := rs) (i := 3 * (n - 1)) (by omega)))
  obtain ⟨k1, l1, t1⟩ := hall _ (List.mem_of_getElem? (nthR_of (rs := rs) (i := 3 * (n - 1) + 1) (by omega)))
  obtain ⟨k2, l2, t2⟩ := hall _ (List.mem_of_getElem? (nthR_of (rs := rs) (i := 3 * (n - 1) + 2) (by omega)))
  exact arbn_leave_p B p S _ _ (nthR rs (3 * (n - 1) + 2)) (x % 2) me b c (3 * (n - 1)) rs w h hl ⟨nthR_of (i := 3 * (n - 1)) (by omega), nthR_of (i := 3 * (n - 1) + 1) (by omega), nthR_of (i := 3 * (n - 1) + 2) (by omega)⟩ k0 k1 hm0 l0 l1
set_option maxRecDepth 100000 in
set_option maxHeartbeats 2000000 in
theorem climb_p7 (B p D : Nat) (S : TS) (kind : Int) (m place : Nat) (me : Int) (rs : List Reg) (A : Option Addr) (c : Nat) (w : World) (h : Plays B w p S) (hk : kind = 7) (h1 : 1 ≤ m) (h2 : m ≤ 64) (h3 : place < m) (hlen : rs.length = 4 * (2 ^ levels m - 1)) (hc1 : rs.length ≤ c) (hc2 : c ≤ 9223372036854775807)
    (hreg : rs ≠ [] → ∃ b, A = some ⟨b, 0, none⟩ ∧ RegsAt [2, 3, 4] w p b rs) (hall : ∀ r ∈ rs, r.ok ∧ me < r.n ∧ r.told me) (hm0 : 0 ≤ me) (hD : S.left < D) :
    Calls Tryz.prog 77 #[.pointer (some ⟨p, 0, none⟩), .slice A rs.length c, .int .i64 kind, .int .i64 m, .int .i64 place, .int .i64 me] w (Post encU B p w ((forP (fun x _ => nodeE 4 D rs me x) (pathL m place) ()).run S)) := by
  generalize hR : Post encU B p w ((forP (fun x _ => nodeE 4 D rs me x) (pathL m place) ()).run S) = R
  have hO : Owes R encU B p w ((forP (fun x _ => nodeE 4 D rs me x) (pathL m place) ()).run S) := hR ▸ owes _ _ _ _ _
  clear hR
  have hmem := fun y (hy : y ∈ pathL m place) => pathL_mem h2 h3 hy
  have hPth := fun w => path_p m place w h1 h2 h3
  have hlv := lev_le h2
  obtain ⟨p1, p2⟩ := pow_le hlv
  have e : (2 : Int) ^ levels m = ((2 ^ levels m : Nat) : Int) := by rw [Int.natCast_pow]; rfl
  rw [e] at hmem
  have hll : (pathL m place).length ≤ 128 := by
    have := pathN_len (2 ^ levels m + place) (2 ^ levels m + place)
    unfold pathL
    omega
  clear e hlv
  generalize 2 ^ levels m = P at *
  generalize pathL m place = l at *
  have hn : nodeV kind = .agg #[.func (.func 25) #[] #[], .func (.func 28) #[] #[], .func (.func 31) #[] #[]] := by unfold nodeV; rw [if_pos hk]; rfl
  have hN := fun w => nodeOf_p kind w
  rw [hn] at hN
  have hmemh := Lib.hid hmem
  have hallh := Lib.hid hall
  have hlenh := Lib.hid hlen
  have hOh := Lib.hid hO
  clear hn hk hmem hall hlen hO
  go_enter Tryz.func77, Tryz.ntmps77
  go_wp2_with fail
  refine (hN _).mono ?_
  rintro e w2 ⟨rfl, hx2⟩
  have hK := Keep.of_ext (ix := [2, 3, 4]) (B := B) hx2 h.lt h.le
  have hP := h.ext hx2
  have hreg2 : rs ≠ [] → ∃ b, A = some ⟨b, 0, none⟩ ∧ RegsAt [2, 3, 4] w2 p b rs := fun hne => by
    obtain ⟨b, e1, e2⟩ := hreg hne
    exact ⟨b, e1, e2.extL hx2 h.lt⟩
  clear hx2 h hreg
  have bx := hP.held (.cells #[.func (.func 25) #[] #[], .func (.func 28) #[] #[], .func (.func 31) #[] #[]] 117)
  replace hK := hK.trans (Keep.alloc (.cells #[.func (.func 25) #[] #[], .func (.func 28) #[] #[], .func (.func 31) #[] #[]] 117) hP.lt hP.le)
  have hreg3 : rs ≠ [] → ∃ b, A = some ⟨b, 0, none⟩ ∧ RegsAt [2, 3, 4] (w2.alloc (.cells #[.func (.func 25) #[] #[], .func (.func 28) #[] #[], .func (.func 31) #[] #[]] 117)) p b rs := fun hne => by
    obtain ⟨b, e1, e2⟩ := hreg2 hne
    exact ⟨b, e1, e2.extL ((Ext.refl w2).alloc (.cells #[.func (.func 25) #[] #[], .func (.func 28) #[] #[], .func (.func 31) #[] #[]] 117)) hP.lt⟩
  replace hP := hP.alloc (.cells #[.func (.func 25) #[] #[], .func (.func 28) #[] #[], .func (.func 31) #[] #[]] 117)
  clear hreg2
  go_wp2_with fail
  generalize w2.heap.size = z at *
  generalize w2.alloc _ = W at *
  refine (hPth _).mono ?_
  rintro e w3 ⟨v3, rfl, hrow, hx3⟩
  obtain ⟨A3, c3, rfl, hR⟩ := RowH.of_row (p := p) (ix := [2, 3, 4]) hrow (fun b hb => hP.fresh hx3 hb)
  replace hK := hK.trans (Keep.of_ext hx3 hP.lt hP.le)
  replace bx := bx.ext hx3 hP.lt
  have hreg : rs ≠ [] → ∃ b, A = some ⟨b, 0, none⟩ ∧ RegsAt [2, 3, 4] w3 p b rs := fun hne => by
    obtain ⟨b, e1, e2⟩ := hreg3 hne
    exact ⟨b, e1, e2.extL hx3 hP.lt⟩
  replace hP := hP.ext hx3
  clear hreg3 hx3 hrow hPth hN
  by_cases hl0 : l = []
  · subst hl0
    have hf := hOh.out.done (v := ()) hP hK
    clear hOh hmemh hR hreg hallh hlenh
    go_wp2_with fail
    go_loopw [21] (fun i wr => i = .int .i64 0 ∧ w3 = wr) (fun _ _ => 0)
    case atStart => exact ⟨rfl, rfl⟩
    case round =>
      obtain ⟨rfl, rfl⟩ := hrel
      go_wp2_with fail
      first | exact hf | (refine bodyPost_ret (results_none rfl _ _ _) rfl ?_; exact hf)
  obtain ⟨g, cur, rfl, hg, hcur⟩ := hR hl0
  obtain ⟨b, rfl, hl⟩ := hreg (by
    obtain ⟨y, l', rfl⟩ : ∃ y l', l = y :: l' := by cases l with | nil => exact absurd rfl hl0 | cons y l' => exact ⟨y, l', rfl⟩
    have h1 := hmemh.out y (List.mem_cons_self ..)
    have h2 := hlenh.out
    intro hne
    rw [hne, List.length_nil] at h2
    omega)
  have hch := Lib.hid hcur
  clear hreg hR hl0 hcur
  go_wp2_with fail
  go_loopw [21] (fun i wr => ∃ (j : Nat) (S2 : TS), i = .int .i64 j ∧ j ≤ l.length ∧ Plays B wr p S2 ∧ KeepP B p w wr ∧ HeldP wr p z (.cells #[.func (.func 25) #[] #[], .func (.func 28) #[] #[], .func (.func 31) #[] #[]] 117) ∧ HeldP wr p g (.cells cur 3) ∧ RegsAt [2, 3, 4] wr p b rs ∧ S2.left < D ∧ Hid (Owes R encU B p w ((forP (fun x _ => nodeE 4 D rs me x) (l.drop j) ()).run S2))) (fun i _ => l.length - (intOf i).toNat)
  case atStart => exact ⟨0, S, rfl, by omega, hP, hK, bx, hg, hl, hD, hOh⟩
  case round =>
    clear hP hK bx hg hl hD hOh
    obtain ⟨j, S2, rfl, hj, hP, hK, bx, hg, hl, hD, hOh⟩ := hrel
    by_cases hjl : j < l.length
    · obtain ⟨y, hy⟩ : ∃ y, l[j]? = some y := ⟨_, List.getElem?_eq_getElem hjl⟩
      have hym := hmemh.out y (List.mem_of_getElem? hy)
      obtain ⟨Y, rfl⟩ : ∃ Y : Nat, y = (Y : Int) := ⟨y.toNat, by omega⟩
      have c_g := hg.at_ hch.out hy
      have hO := hOh.out
      rw [List.drop_eq_getElem_cons hjl, show l[j] = (Y : Int) from by rw [List.getElem?_eq_getElem hjl] at hy; exact Option.some.inj hy] at hO
      have hOk : Hid (Owes R encU B p w (((nodeE 4 D rs me (Y : Int)).bind fun _ => forP (fun x _ => nodeE 4 D rs me x) (l.drop (j + 1)) ()).run S2)) := Lib.hid hO
      clear hO hOh hy
      have hn2 : Y / 2 * 4 ≤ rs.length := by have := hlenh.out; omega
      have hn1 : 1 ≤ Y / 2 := by omega
      have hlen9 : rs.length ≤ 1000000 := by have := hlenh.out; omega
      have hrg := fun w => tregs_p7 b c (Y / 2) rs.length w hn1 hn2 hc1 hc2 hlen9
      have hq1 : IntKind.i64.wrap ((Y : Int) / 2) = ((Y / 2 : Nat) : Int) := by rw [IntWalk.i64_in _ (by omega)]; omega
      have hq2 : (Y : Int).tmod 2 = (Y : Int) % 2 := Int.tmod_eq_emod_of_nonneg (by omega)
      go_wp2_with fail
      have hS : ∀ w', HeldP w' p z (.cells #[.func (.func 25) #[] #[], .func (.func 28) #[] #[], .func (.func 31) #[] #[]] 117) → (∀ i, w'.cell? ⟨z, i, none⟩ = (#[.func (.func 25) #[] #[], .func (.func 28) #[] #[], .func (.func 31) #[] #[]] : Array Value)[i]?) := fun w' x => x.cells
      have c_bx := bx.cells
      refine wp_region_held_drew (S := fun w' => ∀ i, w'.cell? ⟨z, i, none⟩ = (#[.func (.func 25) #[] #[], .func (.func 28) #[] #[], .func (.func 31) #[] #[]] : Array Value)[i]?) rfl (hS _ bx) (fun hHeld => ?_)
      replace hl := hl.extL (Ext.refl wr).drew hP.lt
      replace hP := hP.drew
      replace hK := hK.drew
      replace bx := bx.drew
      replace hg := hg.drew
      refine wpAnyH_take (i := 0) (v := ?_) rfl (by kernel_rfl) (by kernel_rfl) (by kernel_rfl) (fun _ _ _ h => h) (Or.inl ⟨by kernel_rfl, ?_⟩) (by assumption) ?_
      rotate_left
      · (intro w hSw; (try dsimp only at hSw); go_simp; try with_reducible rfl)
      try simp only [put_pack]
      refine wpAnyH_take (i := 1) (v := ?_) rfl (by kernel_rfl) (by kernel_rfl) (by kernel_rfl) (fun _ _ _ h => h) (Or.inl ⟨by kernel_rfl, ?_⟩) (by assumption) ?_
      rotate_left
      · (intro w hSw; (try dsimp only at hSw); go_simp; try with_reducible rfl)
      try simp only [put_pack]
      refine wpAnyH_take (i := 2) (v := ?_) rfl (by kernel_rfl) (by kernel_rfl) (by kernel_rfl) (fun _ _ _ h => h) (Or.inl ⟨by kernel_rfl, ?_⟩) (by assumption) ?_
      rotate_left
      · (intro w hSw; (try dsimp only at hSw); go_simp; try with_reducible rfl)
      try simp only [put_pack]
      refine wpAnyH_take (i := 3) (v := ?_) rfl (by kernel_rfl) (by kernel_rfl) (by kernel_rfl) (fun _ _ _ h => h) (Or.inl ⟨by kernel_rfl, ?_⟩) (by assumption) ?_
      rotate_left
      · (intro w hSw; (try dsimp only at hSw); go_simp; try with_reducible rfl)
      try simp only [put_pack]
      refine wpAnyH_take (i := 4) (v := ?_) rfl (by kernel_rfl) (by kernel_rfl) (by kernel_rfl) (fun _ _ _ h => h) (Or.inl ⟨by kernel_rfl, ?_⟩) (by assumption) ?_
      rotate_left
      · (intro w hSw; (try dsimp only at hSw); go_simp; try with_reducible rfl)
      try simp only [put_pack]
      refine wpAnyH_take (i := 5) (v := ?_) rfl (by kernel_rfl) (by kernel_rfl) (by kernel_rfl) (fun _ _ _ h => h) (Or.inl ⟨by kernel_rfl, ?_⟩) (by assumption) ?_
      rotate_left
      · (intro w hSw; (try dsimp only at hSw); go_simp; try with_reducible rfl)
      try simp only [put_pack]
      refine wpAnyH_take (i := 6) (v := ?_) rfl (by kernel_rfl) (by kernel_rfl) (by kernel_rfl) (fun _ _ _ h => h) (Or.inl ⟨by kernel_rfl, ?_⟩) (by assumption) ?_
      rotate_left
      · (intro w hSw; (try dsimp only at hSw); go_simp; try with_reducible rfl)
      try simp only [put_pack]
      refine wpAnyH_take (i := 8) (v := ?_) rfl (by kernel_rfl) (by kernel_rfl) (by kernel_rfl) (fun _ _ _ h => h) (Or.inl ⟨by kernel_rfl, ?_⟩) (by assumption) ?_
      rotate_left
      · (intro w hSw; (try dsimp only at hSw); go_simp; try with_reducible rfl)
      try simp only [put_pack]
      refine wpAnyH_take (i := 9) (v := ?_) rfl (by kernel_rfl) (by kernel_rfl) (by kernel_rfl) (fun _ _ _ h => h) (Or.inl ⟨by kernel_rfl, ?_⟩) (by assumption) ?_
      rotate_left
      · (intro w hSw; (try dsimp only at hSw); go_simp; try with_reducible rfl)
      try simp only [put_pack]
      refine wpAnyH_take (i := 10) (v := ?_) rfl (by kernel_rfl) (by kernel_rfl) (by kernel_rfl) (fun _ _ _ h => h) (Or.inl ⟨by kernel_rfl, ?_⟩) (by assumption) ?_
      rotate_left
      · (intro w hSw; (try dsimp only at hSw); go_simp; try with_reducible rfl)
      try simp only [put_pack]
      refine wpAnyH_ready (rs := [7]) (by kernel_rfl) (by simp) ?_
      refine AllReadyH.cons rfl (fun K hKK => ?_) AllReadyH.nil
      go_simp
      refine (hrg _).mono ?_
      rintro e w4 ⟨c', rfl, q1, q2, hx⟩
      replace bx := bx.ext hx hP.lt
      replace hg := hg.ext hx hP.lt
      replace hl := hl.extL hx hP.lt
      replace hK := hK.trans (Keep.of_ext hx hP.lt hP.le)
      replace hP := hP.ext hx
      clear hx hrg c_g c_bx
      refine hKK.out _ _ (hS _ bx) (fun hHeld => ?_)
      clear hKK K
      try dsimp only
      refine wpAnyH_ready (rs := [11]) (by kernel_rfl) (by simp) ?_
      refine AllReadyH.cons rfl (fun K hKK => ?_) AllReadyH.nil
      go_simp
      refine tstepL hOk.out hK (node_enter_p7 B p D (Y / 2) S2 rs Y me b c' _ hP hl hallh.out hm0 (by omega) hn1 hn2 hD q1 q2) (fun _ h => ⟨rfl, h⟩) ?_
      clear hK hP hOk
      intro u S3 w5 hlf _ hP hk1 hK hO
      replace hD := Nat.lt_of_le_of_lt hlf hD
      replace bx := bx.keep hk1
      replace hg := hg.keep hk1
      replace hl := hl.keep hk1
      clear hk1 hlf
      refine hKK.out _ _ (hS _ bx) (fun hHeld => ?_)
      clear hKK K
      try dsimp only
      refine wpAnyH_done (by kernel_rfl) ?_ _
      go_simp
      have hf := Lib.hid hO
      clear hO hS
      go_wp2_with fail
      refine ⟨⟨j + 1, S3, by go_num, by omega, hP, hK, bx, hg, hl, hD, hf⟩, ?_⟩
      simp [intOf]; omega
    · obtain rfl : j = l.length := by omega
      have hO := hOh.out
      rw [List.drop_length] at hO
      have hf := hO.done (v := ()) hP hK
      clear hO hOh hP hK hl hg bx
      go_wp2_with fail
      first | exact hf | (refine bodyPost_ret (results_none rfl _ _ _) rfl ?_; exact hf)
set_option maxRecDepth 100000 in
set_option maxHeartbeats 2000000 in
theorem climb_p3 (B p D : Nat) (S : TS) (kind : Int) (m place : Nat) (me : Int) (rs : List Reg) (A : Option Addr) (c : Nat) (w : World) (h : Plays B w p S) (hk : kind ≠ 7) (h1 : 1 ≤ m) (h2 : m ≤ 64) (h3 : place < m) (hlen : rs.length = 3 * (2 ^ levels m - 1)) (hc1 : rs.length ≤ c) (hc2 : c ≤ 9223372036854775807)
    (hreg : rs ≠ [] → ∃ b, A = some ⟨b, 0, none⟩ ∧ RegsAt [2, 3, 4] w p b rs) (hall : ∀ r ∈ rs, r.ok ∧ me < r.n ∧ r.told me) (hm0 : 0 ≤ me) (hD : S.left < D) :
    Calls Tryz.prog 77 #[.pointer (some ⟨p, 0, none⟩), .slice A rs.length c, .int .i64 kind, .int .i64 m, .int .i64 place, .int .i64 me] w (Post encU B p w ((forP (fun x _ => nodeE 3 D rs me x) (pathL m place) ()).run S)) := by
  generalize hR : Post encU B p w ((forP (fun x _ => nodeE 3 D rs me x) (pathL m place) ()).run S) = R
  have hO : Owes R encU B p w ((forP (fun x _ => nodeE 3 D rs me x) (pathL m place) ()).run S) := hR ▸ owes _ _ _ _ _
  clear hR
  have hmem := fun y (hy : y ∈ pathL m place) => pathL_mem h2 h3 hy
  have hPth := fun w => path_p m place w h1 h2 h3
  have hlv := lev_le h2
  obtain ⟨p1, p2⟩ := pow_le hlv
  have e : (2 : Int) ^ levels m = ((2 ^ levels m : Nat) : Int) := by rw [Int.natCast_pow]; rfl
  rw [e] at hmem
  have hll : (pathL m place).length ≤ 128 := by
    have := pathN_len (2 ^ levels m + place) (2 ^ levels m + place)
    unfold pathL
    omega
  clear e hlv
  generalize 2 ^ levels m = P at *
  generalize pathL m place = l at *
  have hn : nodeV kind = .agg #[.func (.func 179) #[] #[], .func (.func 180) #[] #[], .func (.func 181) #[] #[]] := by unfold nodeV; rw [if_neg hk]; rfl
  have hN := fun w => nodeOf_p kind w
  rw [hn] at hN
  have hmemh := Lib.hid hmem
  have hallh := Lib.hid hall
  have hlenh := Lib.hid hlen
  have hOh := Lib.hid hO
  clear hn hk hmem hall hlen hO
  go_enter Tryz.func77, Tryz.ntmps77
  go_wp2_with fail
  refine (hN _).mono ?_
  rintro e w2 ⟨rfl, hx2⟩
  have hK := Keep.of_ext (ix := [2, 3, 4]) (B := B) hx2 h.lt h.le
  have hP := h.ext hx2
  have hreg2 : rs ≠ [] → ∃ b, A = some ⟨b, 0, none⟩ ∧ RegsAt [2, 3, 4] w2 p b rs := fun hne => by
    obtain ⟨b, e1, e2⟩ := hreg hne
    exact ⟨b, e1, e2.extL hx2 h.lt⟩
  clear hx2 h hreg
  have bx := hP.held (.cells #[.func (.func 179) #[] #[], .func (.func 180) #[] #[], .func (.func 181) #[] #[]] 117)
  replace hK := hK.trans (Keep.alloc (.cells #[.func (.func 179) #[] #[], .func (.func 180) #[] #[], .func (.func 181) #[] #[]] 117) hP.lt hP.le)
  have hreg3 : rs ≠ [] → ∃ b, A = some ⟨b, 0, none⟩ ∧ RegsAt [2, 3, 4] (w2.alloc (.cells #[.func (.func 179) #[] #[], .func (.func 180) #[] #[], .func (.func 181) #[] #[]] 117)) p b rs := fun hne => by
    obtain ⟨b, e1, e2⟩ := hreg2 hne
    exact ⟨b, e1, e2.extL ((Ext.refl w2).alloc (.cells #[.func (.func 179) #[] #[], .func (.func 180) #[] #[], .func (.func 181) #[] #[]] 117)) hP.lt⟩
  replace hP := hP.alloc (.cells #[.func (.func 179) #[] #[], .func (.func 180) #[] #[], .func (.func 181) #[] #[]] 117)
  clear hreg2
  go_wp2_with fail
  generalize w2.heap.size = z at *
  generalize w2.alloc _ = W at *
  refine (hPth _).mono ?_
  rintro e w3 ⟨v3, rfl, hrow, hx3⟩
  obtain ⟨A3, c3, rfl, hR⟩ := RowH.of_row (p := p) (ix := [2, 3, 4]) hrow (fun b hb => hP.fresh hx3 hb)
  replace hK := hK.trans (Keep.of_ext hx3 hP.lt hP.le)
  replace bx := bx.ext hx3 hP.lt
  have hreg : rs ≠ [] → ∃ b, A = some ⟨b, 0, none⟩ ∧ RegsAt [2, 3, 4] w3 p b rs := fun hne => by
    obtain ⟨b, e1, e2⟩ := hreg3 hne
    exact ⟨b, e1, e2.extL hx3 hP.lt⟩
  replace hP := hP.ext hx3
  clear hreg3 hx3 hrow hPth hN
  by_cases hl0 : l = []
  · subst hl0
    have hf := hOh.out.done (v := ()) hP hK
    clear hOh hmemh hR hreg hallh hlenh
    go_wp2_with fail
    go_loopw [21] (fun i wr => i = .int .i64 0 ∧ w3 = wr) (fun _ _ => 0)
    case atStart => exact ⟨rfl, rfl⟩
    case round =>
      obtain ⟨rfl, rfl⟩ := hrel
      go_wp2_with fail
      first | exact hf | (refine bodyPost_ret (results_none rfl _ _ _) rfl ?_; exact hf)
  obtain ⟨g, cur, rfl, hg, hcur⟩ := hR hl0
  obtain ⟨b, rfl, hl⟩ := hreg (by
    obtain ⟨y, l', rfl⟩ : ∃ y l', l = y :: l' := by cases l with | nil => exact absurd rfl hl0 | cons y l' => exact ⟨y, l', rfl⟩
    have h1 := hmemh.out y (List.mem_cons_self ..)
    have h2 := hlenh.out
    intro hne
    rw [hne, List.length_nil] at h2
    omega)
  have hch := Lib.hid hcur
  clear hreg hR hl0 hcur
  go_wp2_with fail
  go_loopw [21] (fun i wr => ∃ (j : Nat) (S2 : TS), i = .int .i64 j ∧ j ≤ l.length ∧ Plays B wr p S2 ∧ KeepP B p w wr ∧ HeldP wr p z (.cells #[.func (.func 179) #[] #[], .func (.func 180) #[] #[], .func (.func 181) #[] #[]] 117) ∧ HeldP wr p g (.cells cur 3) ∧ RegsAt [2, 3, 4] wr p b rs ∧ S2.left < D ∧ Hid (Owes R encU B p w ((forP (fun x _ => nodeE 3 D rs me x) (l.drop j) ()).run S2))) (fun i _ => l.length - (intOf i).toNat)
  case atStart => exact ⟨0, S, rfl, by omega, hP, hK, bx, hg, hl, hD, hOh⟩
  case round =>
    clear hP hK bx hg hl hD hOh
    obtain ⟨j, S2, rfl, hj, hP, hK, bx, hg, hl, hD, hOh⟩ := hrel
    by_cases hjl : j < l.length
    · obtain ⟨y, hy⟩ : ∃ y, l[j]? = some y := ⟨_, List.getElem?_eq_getElem hjl⟩
      have hym := hmemh.out y (List.mem_of_getElem? hy)
      obtain ⟨Y, rfl⟩ : ∃ Y : Nat, y = (Y : Int) := ⟨y.toNat, by omega⟩
      have c_g := hg.at_ hch.out hy
      have hO := hOh.out
      rw [List.drop_eq_getElem_cons hjl, show l[j] = (Y : Int) from by rw [List.getElem?_eq_getElem hjl] at hy; exact Option.some.inj hy] at hO
      have hOk : Hid (Owes R encU B p w (((nodeE 3 D rs me (Y : Int)).bind fun _ => forP (fun x _ => nodeE 3 D rs me x) (l.drop (j + 1)) ()).run S2)) := Lib.hid hO
      clear hO hOh hy
      have hn2 : Y / 2 * 3 ≤ rs.length := by have := hlenh.out; omega
      have hn1 : 1 ≤ Y / 2 := by omega
      have hlen9 : rs.length ≤ 1000000 := by have := hlenh.out; omega
      have hrg := fun w => tregs_p3 b c (Y / 2) rs.length w hn1 hn2 hc1 hc2 hlen9
      have hq1 : IntKind.i64.wrap ((Y : Int) / 2) = ((Y / 2 : Nat) : Int) := by rw [IntWalk.i64_in _ (by omega)]; omega
      have hq2 : (Y : Int).tmod 2 = (Y : Int) % 2 := Int.tmod_eq_emod_of_nonneg (by omega)
      go_wp2_with fail
      have hS : ∀ w', HeldP w' p z (.cells #[.func (.func 179) #[] #[], .func (.func 180) #[] #[], .func (.func 181) #[] #[]] 117) → (∀ i, w'.cell? ⟨z, i, none⟩ = (#[.func (.func 179) #[] #[], .func (.func 180) #[] #[], .func (.func 181) #[] #[]] : Array Value)[i]?) := fun w' x => x.cells
      have c_bx := bx.cells
      refine wp_region_held_drew (S := fun w' => ∀ i, w'.cell? ⟨z, i, none⟩ = (#[.func (.func 179) #[] #[], .func (.func 180) #[] #[], .func (.func 181) #[] #[]] : Array Value)[i]?) rfl (hS _ bx) (fun hHeld => ?_)
      replace hl := hl.extL (Ext.refl wr).drew hP.lt
      replace hP := hP.drew
      replace hK := hK.drew
      replace bx := bx.drew
      replace hg := hg.drew
      refine wpAnyH_take (i := 0) (v := ?_) rfl (by kernel_rfl) (by kernel_rfl) (by kernel_rfl) (fun _ _ _ h => h) (Or.inl ⟨by kernel_rfl, ?_⟩) (by assumption) ?_
      rotate_left
      · (intro w hSw; (try dsimp only at hSw); go_simp; try with_reducible rfl)
      try simp only [put_pack]
      refine wpAnyH_take (i := 1) (v := ?_) rfl (by kernel_rfl) (by kernel_rfl) (by kernel_rfl) (fun _ _ _ h => h) (Or.inl ⟨by kernel_rfl, ?_⟩) (by assumption) ?_
      rotate_left
      · (intro w hSw; (try dsimp only at hSw); go_simp; try with_reducible rfl)
      try simp only [put_pack]
      refine wpAnyH_take (i := 2) (v := ?_) rfl (by kernel_rfl) (by kernel_rfl) (by kernel_rfl) (fun _ _ _ h => h) (Or.inl ⟨by kernel_rfl, ?_⟩) (by assumption) ?_
      rotate_left
      · (intro w hSw; (try dsimp only at hSw); go_simp; try with_reducible rfl)
      try simp only [put_pack]
      refine wpAnyH_take (i := 3) (v := ?_) rfl (by kernel_rfl) (by kernel_rfl) (by kernel_rfl) (fun _ _ _ h => h) (Or.inl ⟨by kernel_rfl, ?_⟩) (by assumption) ?_
      rotate_left
      · (intro w hSw; (try dsimp only at hSw); go_simp; try with_reducible rfl)
      try simp only [put_pack]
      refine wpAnyH_take (i := 4) (v := ?_) rfl (by kernel_rfl) (by kernel_rfl) (by kernel_rfl) (fun _ _ _ h => h) (Or.inl ⟨by kernel_rfl, ?_⟩) (by assumption) ?_
      rotate_left
      · (intro w hSw; (try dsimp only at hSw); go_simp; try with_reducible rfl)
      try simp only [put_pack]
      refine wpAnyH_take (i := 5) (v := ?_) rfl (by kernel_rfl) (by kernel_rfl) (by kernel_rfl) (fun _ _ _ h => h) (Or.inl ⟨by kernel_rfl, ?_⟩) (by assumption) ?_
      rotate_left
      · (intro w hSw; (try dsimp only at hSw); go_simp; try with_reducible rfl)
      try simp only [put_pack]
      refine wpAnyH_take (i := 6) (v := ?_) rfl (by kernel_rfl) (by kernel_rfl) (by kernel_rfl) (fun _ _ _ h => h) (Or.inl ⟨by kernel_rfl, ?_⟩) (by assumption) ?_
      rotate_left
      · (intro w hSw; (try dsimp only at hSw); go_simp; try with_reducible rfl)
      try simp only [put_pack]
      refine wpAnyH_take (i := 8) (v := ?_) rfl (by kernel_rfl) (by kernel_rfl) (by kernel_rfl) (fun _ _ _ h => h) (Or.inl ⟨by kernel_rfl, ?_⟩) (by assumption) ?_
      rotate_left
      · (intro w hSw; (try dsimp only at hSw); go_simp; try with_reducible rfl)
      try simp only [put_pack]
      refine wpAnyH_take (i := 9) (v := ?_) rfl (by kernel_rfl) (by kernel_rfl) (by kernel_rfl) (fun _ _ _ h => h) (Or.inl ⟨by kernel_rfl, ?_⟩) (by assumption) ?_
      rotate_left
      · (intro w hSw; (try dsimp only at hSw); go_simp; try with_reducible rfl)
      try simp only [put_pack]
      refine wpAnyH_take (i := 10) (v := ?_) rfl (by kernel_rfl) (by kernel_rfl) (by kernel_rfl) (fun _ _ _ h => h) (Or.inl ⟨by kernel_rfl, ?_⟩) (by assumption) ?_
      rotate_left
      · (intro w hSw; (try dsimp only at hSw); go_simp; try with_reducible rfl)
      try simp only [put_pack]
      refine wpAnyH_ready (rs := [7]) (by kernel_rfl) (by simp) ?_
      refine AllReadyH.cons rfl (fun K hKK => ?_) AllReadyH.nil
      go_simp
      refine (hrg _).mono ?_
      rintro e w4 ⟨c', rfl, q1, q2, hx⟩
      replace bx := bx.ext hx hP.lt
      replace hg := hg.ext hx hP.lt
      replace hl := hl.extL hx hP.lt
      replace hK := hK.trans (Keep.of_ext hx hP.lt hP.le)
      replace hP := hP.ext hx
      clear hx hrg c_g c_bx
      refine hKK.out _ _ (hS _ bx) (fun hHeld => ?_)
      clear hKK K
      try dsimp only
      refine wpAnyH_ready (rs := [11]) (by kernel_rfl) (by simp) ?_
      refine AllReadyH.cons rfl (fun K hKK => ?_) AllReadyH.nil
      go_simp
      refine tstepL hOk.out hK (node_enter_p3 B p D (Y / 2) S2 rs Y me b c' _ hP hl hallh.out hm0 (by omega) hn1 hn2 hD q1 q2) (fun _ h => ⟨rfl, h⟩) ?_
      clear hK hP hOk
      intro u S3 w5 hlf _ hP hk1 hK hO
      replace hD := Nat.lt_of_le_of_lt hlf hD
      replace bx := bx.keep hk1
      replace hg := hg.keep hk1
      replace hl := hl.keep hk1
      clear hk1 hlf
      refine hKK.out _ _ (hS _ bx) (fun hHeld => ?_)
      clear hKK K
      try dsimp only
      refine wpAnyH_done (by kernel_rfl) ?_ _
      go_simp
      have hf := Lib.hid hO
      clear hO hS
      go_wp2_with fail
      refine ⟨⟨j + 1, S3, by go_num, by omega, hP, hK, bx, hg, hl, hD, hf⟩, ?_⟩
      simp [intOf]; omega
    · obtain rfl : j = l.length := by omega
      have hO := hOh.out
      rw [List.drop_length] at hO
      have hf := hO.done (v := ()) hP hK
      clear hO hOh hP hK hl hg bx
      go_wp2_with fail
      first | exact hf | (refine bodyPost_ret (results_none rfl _ _ _) rfl ?_; exact hf)
end Go.Proofs.YtpcohbpeglledaaGreat
/-
  A row of ints turned round in place.
-/
namespace Go.Proofs.YtpcohbpeglledaaGreat
open Go.RowKit Kv
theorem heap_setCells_ex (g : Nat) (t : TypeId) : ∀ (vs : List Value) (o : Nat) (w : World) (cur : Array Value), w.heap[g]? = some (.cells cur t (0, 0)) → ∃ cur', (w.setCells g o vs).heap[g]? = some (.cells cur' t (0, 0)) ∧ cur'.size = cur.size
  | [], _, _, cur, h => ⟨cur, h, rfl⟩
  | v :: r, o, w, cur, h => by
    obtain ⟨cur', h1, h2⟩ := heap_setCells_ex g t r (o + 1) (w.setCell ⟨g, o, none⟩ v) _ (heap_setCell_same w g o cur t v h)
    exact ⟨cur', h1, h2.trans (by simp)⟩
theorem Ext.setCells {w0 w : World} (h : Ext w0 w) {g : Nat} (hg : w0.heap.size ≤ g) : ∀ (vs : List Value) (o : Nat), Ext w0 (w.setCells g o vs) := by
  intro vs
  induction vs generalizing w with
  | nil => intro o; exact h
  | cons v r ih => intro o; exact ih (Below.setCell (p := ⟨g, o, none⟩) h hg v) (o + 1)
theorem reverse_p {w0 w : World} {l : List Int} {v : Value} (hx : Ext w0 w) (h : IntRow w w0.heap.size v l) (hl : l.length ≤ 1000) :
    Calls Tryz.prog 138 #[v] w fun e w' => e = .returned (.tuple #[]) ∧ Ext w0 w' ∧ IntRow w' w0.heap.size v l.reverse := by
  have h' := h
  rcases h.2 with ⟨rfl, h0⟩ | ⟨g, cap, cur, rfl, hb, hg, h1, h2, h3, h4⟩
  · obtain rfl := List.length_eq_zero_iff.1 h0
    refine (Tryz.slices_Reverse_int_empty none 0 w).mono ?_
    rintro e w' ⟨rfl, rfl⟩
    exact ⟨rfl, hx, h⟩
  · have hcell : ∀ j, j < l.length → w.cell? ⟨g, 0 + j, none⟩ = some (.int .i64 (l.getD j 0)) := by
      intro j hj
      rw [Nat.zero_add, cell_of_heap hg]
      have e : (cur.toList.take (l.length * 1))[j]? = some (.int .i64 (l.getD j 0)) := by
        rw [h4, List.getElem?_map, List.getElem?_eq_getElem hj, List.getD_eq_getElem?_getD, List.getElem?_eq_getElem hj]; rfl
      rw [List.getElem?_take, if_pos (by omega)] at e
      rw [← e]; simp
    refine (Tryz.slices_Reverse_int_cells g 0 l.length cap l w (Nat.le_refl _) (by omega) hcell (fun j hj => by simp [World.frozen?, hg])).mono ?_
    rintro e w' ⟨rfl, q, rfl⟩
    rw [List.take_length]
    have hg' : (w.drewN q).heap[g]? = some (.cells cur 3 (0, 0)) := hg
    obtain ⟨cur', k1, k2⟩ := heap_setCells_ex g 3 (l.reverse.map (Value.int .i64)) 0 (w.drewN q) cur hg'
    refine ⟨rfl, (hx.drewN q).setCells hb _ _, ?_, .inr ⟨g, cap, cur', by rw [List.length_reverse], hb, k1, by rw [List.length_reverse]; exact h1, h2, by rw [k2]; exact h3, ?_⟩⟩
    · simp
    · apply List.ext_getElem?
      intro i
      rw [List.length_reverse, List.getElem?_take]
      by_cases hi : i < l.length * 1
      · rw [if_pos hi]
        have hc := World.cell?_setCells_in g (l.reverse.map (Value.int .i64)) 0 (w.drewN q) (fun j hj => by
          rw [Nat.zero_add, cell_of_heap hg']
          have : j < cur.size := by simp at hj; omega
          simp [this]) i (by simp; omega)
        rw [Nat.zero_add, cell_of_heap k1] at hc
        rw [Array.getElem?_toList, hc, List.getElem?_eq_getElem]
      · rw [if_neg hi, List.getElem?_eq_none (by simp; omega)]
end Go.Proofs.YtpcohbpeglledaaGreat
