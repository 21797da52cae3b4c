/-
  Kessels: entering, by the program.
-/
import Derived.Test.YtbaajjkopdjbgaaGreatJAdaptAloneSaid0
import Derived.Deep.DeepCutAuto
/-
  Kessels: entering, by the program.
-/
namespace Go.Proofs.YtbaajjkopdjbgaaGreat
open Go.RowKit Kv
theorem kbit_p (x : Int) (w : World) : Calls Tryz.prog 294 #[.int .i64 x] w fun e w' => e = .returned (.int .i64 (bitM x)) ∧ w = w' := by
  unfold bitM
  by_cases h : x = 0
  · rw [if_pos h]
    go_enter Tryz.func294, Tryz.ntmps294
    go_wp2_with fail
    go_ret
    exact ⟨rfl, rfl⟩
  · rw [if_neg h]
    have hb : (x != 0) = true := by rw [bne_iff_ne]; exact h
    go_enter Tryz.func294, Tryz.ntmps294
    go_wp2_with fail
    go_ret
    exact ⟨rfl, rfl⟩
theorem kfree0_p (x t : Int) (b : Nat) (w : World) (h : w.cell? ⟨b, 0, none⟩ = some (.int .i64 t)) : Calls Tryz.prog 295 #[.int .i64 x, .pointer (some ⟨b, 0, none⟩)] w fun e w' => e = .returned (.bool (x != t)) ∧ w = w' := by
  go_enter Tryz.func295, Tryz.ntmps295
  go_wp2_with fail
  go_ret
  exact ⟨rfl, rfl⟩
theorem kfree1_p (x t : Int) (b : Nat) (w : World) (h : w.cell? ⟨b, 0, none⟩ = some (.int .i64 t)) : Calls Tryz.prog 296 #[.int .i64 x, .pointer (some ⟨b, 0, none⟩)] w fun e w' => e = .returned (.bool (x == t)) ∧ w = w' := by
  go_enter Tryz.func296, Tryz.ntmps296
  go_wp2_with fail
  go_ret
  exact ⟨rfl, rfl⟩
theorem cells_pm (r : Reg) (me : Int) (w : World) (ho : r.ok) (ht : r.told me) (hm : 0 ≤ me ∧ me < r.n) : Calls Tryz.prog 225 #[encR r] w fun e w' => ∃ c : Int, e = .returned (.int .i64 c) ∧ (c == 0) = false ∧ Ext w w' := by
  refine (cells_p r w (by rcases ht with h | ⟨h, _⟩ | ⟨h, h2⟩; exact .inl h; exact .inr (.inl h); exact .inr (.inr ⟨h, h2⟩)) ho.n (fun w => mthreads_p r.n w ho.n.1 ho.n.2)).mono fun e w' h => ⟨_, h.1, ?_, h.2⟩
  rw [beq_eq_false_iff_ne]
  have hn := ho.n
  have h2 : r.kind ≠ 1 → 2 ≤ r.n := fun h1 => by
    rcases ht with h | ⟨h, h3⟩ | ⟨h, h3⟩
    · exact absurd h h1
    · have := ho.wr h; omega
    · exact h3
  unfold cellsM
  split
  · decide
  · rename_i h1
    have h3 := h2 h1
    have p1 : 0 < 16 * (r.n - 1) * (r.n - 1) := Int.mul_pos (by omega) (by omega)
    split
    · omega
    · have p2 : 0 < 16 * (r.n - 1) * (r.n - 1) * r.n := Int.mul_pos p1 (by omega)
      omega
set_option maxRecDepth 100000 in
set_option maxHeartbeats 1000000 in
theorem kes_enter_p0 (B p N : Nat) (S : TS) (q0 q1 r0 r1 : Reg) (side me : Int) (b c : Nat) (w : World) (h : Plays B w p S) (hl : RegsAt [2, 3, 4] w p b [q0, q1, r0, r1]) (hq0 : q0.ok) (hq1 : q1.ok) (hr0 : r0.ok) (hr1 : r1.ok)
    (hm0 : 0 ≤ me) (hm1 : me < q0.n) (hm2 : me < q1.n) (hm3 : me < r0.n) (hm4 : me < r1.n) (ht1 : q1.told me) (_ht2 : r1.told me) (hN : S.left < N) (hs : bitM side = 0) (hc4 : 4 ≤ c) (hc5 : c ≤ 9223372036854775807) :
    Calls Tryz.prog 233 #[.pointer (some ⟨p, 0, none⟩), .slice (some ⟨b, 0, none⟩) 4 c, .int .i64 side, .int .i64 me] w (Post encU B p w ((kesEnter N q0 q1 r0 r1 0 me).run S)) := by
  generalize hR : Post encU B p w ((kesEnter N q0 q1 r0 r1 0 me).run S) = R
  have hO : Owes R encU B p w ((kesEnter N q0 q1 r0 r1 0 me).run S) := hR ▸ owes _ _ _ _ _
  clear hR
  have hmf : ∀ (fn : Fn) (first cap : Array Value) (w : World), (Instr.makeFunc fn first cap).run Tryz.prog w = .ok (.func fn first cap) w := fun _ _ _ _ => rfl
  have hK := Keep.refl [2, 3, 4] B p w
  have hP := h
  clear h
  unfold kesEnter at hO
  obtain ⟨⟨a0, a1, a2, a3, a4, a5, a6⟩, ⟨e0, e1, e2, e3, e4, e5, e6⟩, ⟨f0, f1, f2, f3, f4, f5, f6⟩, ⟨g0, g1, g2, g3, g4, g5, g6⟩⟩ := hl.four
  have hc6 : (2 : Int) ≤ (c : Int) := by omega
  have hc7 : (4 : Int) ≤ (c : Int) := by omega
  have hb := kbit_p side w
  rw [hs] at hb
  clear hs
  go_enter Tryz.func233, Tryz.ntmps233
  go_wp2_with fail
  refine hb.mono ?_
  rintro e w' ⟨rfl, rfl⟩
  clear hb
  go_wp2_with fail
  go_quiet (fail)
  have hx := (Ext.refl w).drewN nq
  replace hl := hl.extL hx hP.lt
  replace hK := hK.trans (Keep.of_ext hx hP.lt hP.le)
  replace hP := hP.ext hx
  clear a0 a1 a2 a3 a4 a5 a6 e0 e1 e2 e3 e4 e5 e6 f0 f1 f2 f3 f4 f5 f6 g0 g1 g2 g3 g4 g5 g6 hx
  generalize w.drewN nq = wz at *
  obtain ⟨⟨a0, a1, a2, a3, a4, a5, a6⟩, ⟨e0, e1, e2, e3, e4, e5, e6⟩, ⟨f0, f1, f2, f3, f4, f5, f6⟩, ⟨g0, g1, g2, g3, g4, g5, g6⟩⟩ := hl.four
  go_wp2_with fail
  refine tstepL hO hK (reg_write_p B p S q0 me 1 _ hP hq0 ⟨hm0, by omega⟩) (fun _ h => ⟨rfl, h⟩) ?_
  clear hO hK hP
  intro u S w1 hlf _ hP hk hK hO
  replace hN := Nat.lt_of_le_of_lt hlf hN
  replace hl := hl.keep hk
  clear a0 a1 a2 a3 a4 a5 a6 e0 e1 e2 e3 e4 e5 e6 f0 f1 f2 f3 f4 f5 f6 g0 g1 g2 g3 g4 g5 g6 hk hlf
  obtain ⟨⟨a0, a1, a2, a3, a4, a5, a6⟩, ⟨e0, e1, e2, e3, e4, e5, e6⟩, ⟨f0, f1, f2, f3, f4, f5, f6⟩, ⟨g0, g1, g2, g3, g4, g5, g6⟩⟩ := hl.four
  go_wp2_with fail
  refine tstepL hO hK (reg_read_p B p S r1 me _ hP hr1 ⟨hm0, by omega⟩) (fun _ h => ⟨rfl, h⟩) ?_
  clear hO hK hP
  intro x S w2 hlf _ hP hk hK hO
  replace hN := Nat.lt_of_le_of_lt hlf hN
  replace hl := hl.keep hk
  clear a0 a1 a2 a3 a4 a5 a6 e0 e1 e2 e3 e4 e5 e6 f0 f1 f2 f3 f4 f5 f6 g0 g1 g2 g3 g4 g5 g6 hk hlf
  obtain ⟨⟨a0, a1, a2, a3, a4, a5, a6⟩, ⟨e0, e1, e2, e3, e4, e5, e6⟩, ⟨f0, f1, f2, f3, f4, f5, f6⟩, ⟨g0, g1, g2, g3, g4, g5, g6⟩⟩ := hl.four
  go_wp2_with fail
  have hbx : 0 ≤ bitM x ∧ bitM x ≤ 1 := by unfold bitM; split <;> omega
  have hwx := w64 (1 - bitM x) (by omega) (by omega)
  refine (kbit_p x _).mono ?_
  rintro e w' ⟨rfl, rfl⟩
  go_wp2_with fail
  have hPo := hP
  have bT := hP.held (.cells #[.int .i64 (bitM x)] 3)
  replace hK := hK.trans (Keep.alloc (.cells #[.int .i64 (bitM x)] 3) hP.lt hP.le)
  replace hP := hP.alloc (.cells #[.int .i64 (bitM x)] 3)
  have c_bT := bT.cells
  replace hl := hl.extL ((Ext.refl _).alloc (.cells #[.int .i64 (bitM x)] 3)) hPo.lt
  clear hPo
  clear a0 a1 a2 a3 a4 a5 a6 e0 e1 e2 e3 e4 e5 e6 f0 f1 f2 f3 f4 f5 f6 g0 g1 g2 g3 g4 g5 g6
  rw [show kesT 0 x = (bitM x) from rfl] at hO
  replace hP := hP.drew
  replace hK := hK.drew
  replace bT := bT.drew
  replace hl := hl.extL (Ext.refl _).drew hP.lt
  have hS : ∀ w', RegsAt [2, 3, 4] w' p b [q0, q1, r0, r1] → HeldP w' p w2.heap.size (.cells #[.int .i64 (bitM x)] 3) → (w'.cell? ⟨b, 14, none⟩ = some (.int .i64 r0.kind) ∧ w'.cell? ⟨b, 15, none⟩ = some (.int .i64 r0.base) ∧ w'.cell? ⟨b, 16, none⟩ = some (.int .i64 r0.loc) ∧ w'.cell? ⟨b, 17, none⟩ = some (.int .i64 r0.n) ∧ w'.cell? ⟨b, 18, none⟩ = some (.int .i64 r0.wr) ∧ w'.cell? ⟨b, 19, none⟩ = some (.int .i64 r0.rd) ∧ w'.cell? ⟨b, 20, none⟩ = some (.int .i64 r0.top)) ∧ (∀ i, w'.cell? ⟨w2.heap.size, i, none⟩ = (#[.int .i64 (bitM x)] : Array Value)[i]?) := fun w' h1 h2 => by
    obtain ⟨y0, y1, y2, y3, y4, y5, y6⟩ := h1.four.2.2.1
    exact ⟨⟨y0, y1, y2, y3, y4, y5, y6⟩, h2.cells⟩
  go_region_held2 (fun w' => (w'.cell? ⟨b, 14, none⟩ = some (.int .i64 r0.kind) ∧ w'.cell? ⟨b, 15, none⟩ = some (.int .i64 r0.base) ∧ w'.cell? ⟨b, 16, none⟩ = some (.int .i64 r0.loc) ∧ w'.cell? ⟨b, 17, none⟩ = some (.int .i64 r0.n) ∧ w'.cell? ⟨b, 18, none⟩ = some (.int .i64 r0.wr) ∧ w'.cell? ⟨b, 19, none⟩ = some (.int .i64 r0.rd) ∧ w'.cell? ⟨b, 20, none⟩ = some (.int .i64 r0.top)) ∧ (∀ i, w'.cell? ⟨w2.heap.size, i, none⟩ = (#[.int .i64 (bitM x)] : Array Value)[i]?)) (exact hS _ hl bT)
    (first
      | (go_at_call 229
         refine tstepL hO hK (reg_write_p B p S r0 me (bitM x) _ hP hr0 ⟨hm0, by omega⟩) (fun _ h => ⟨rfl, h⟩) ?_
         clear hO hK hP
         intro u S w3 hlf _ hP hk hK hO
         replace hN := Nat.lt_of_le_of_lt hlf hN
         replace hl := hl.keep hk
         replace bT := bT.keep hk
         clear hk hlf))
  rename_i hh
  clear hh c_bT
  generalize htx : (bitM x) = t at *
  go_wp2_with fail
  go_loopw [] (fun wr => ∃ (n : Nat) (S1 : TS), Plays B wr p S1 ∧ KeepP B p w wr ∧ HeldP wr p w2.heap.size (.cells #[.int .i64 t] 3) ∧ RegsAt [2, 3, 4] wr p b [q0, q1, r0, r1] ∧ Hid (Owes R encU B p w ((kesSpin q1 r1 0 t me n).run S1)) ∧ S1.left < n) (fun wr => leftW 1 3 wr p)
  case atStart => exact ⟨N, S, hP, hK, bT, hl, hO, hN⟩
  case round =>
    clear hS hP hK bT hl hO hN
    obtain ⟨n, S1, hP, hK, bT, hl, hO, hN⟩ := hrel
    have hO := hO.out
    have hlw := Lib.hid hP.left
    cases n with
    | zero => omega
    | succ n =>
      unfold kesSpin at hO
      obtain ⟨⟨a0, a1, a2, a3, a4, a5, a6⟩, ⟨e0, e1, e2, e3, e4, e5, e6⟩, ⟨f0, f1, f2, f3, f4, f5, f6⟩, ⟨g0, g1, g2, g3, g4, g5, g6⟩⟩ := hl.four
      go_wp2_with fail
      refine tstepL hO hK (reg_read_p B p S1 q1 me _ hP hq1 ⟨hm0, by omega⟩) (fun _ h => ⟨rfl, h⟩) ?_
      clear hO hK hP
      intro v S2 w4 _ hlf hP hk hK hO
      replace hlf := hlf (asks_regR _ _ ht1)
      replace hl := hl.keep hk
      replace bT := bT.keep hk
      clear a0 a1 a2 a3 a4 a5 a6 e0 e1 e2 e3 e4 e5 e6 f0 f1 f2 f3 f4 f5 f6 g0 g1 g2 g3 g4 g5 g6 hk
      by_cases hv : v = 0
      · rw [if_pos hv] at hO
        subst hv
        have hf : R (.returned (encU ())) w4 := hO.done hP hK
        clear hO hP hK hl bT
        go_wp2_with fail
        first | exact hf | (refine bodyPost_ret (results_none rfl _ _ _) rfl ?_; exact hf)
      · rw [if_neg hv] at hO
        have hv2 : (v == 0) = false := by rw [beq_eq_false_iff_ne]; exact hv
        obtain ⟨⟨a0, a1, a2, a3, a4, a5, a6⟩, ⟨e0, e1, e2, e3, e4, e5, e6⟩, ⟨f0, f1, f2, f3, f4, f5, f6⟩, ⟨g0, g1, g2, g3, g4, g5, g6⟩⟩ := hl.four
        clear hv
        go_wp2_with fail
        refine tstepL hO hK (reg_read_p B p S2 r1 me _ hP hr1 ⟨hm0, by omega⟩) (fun _ h => ⟨rfl, h⟩) ?_
        clear hO hK hP
        intro y S3 w5 hlf2 _ hP hk hK hO
        replace hl := hl.keep hk
        replace bT := bT.keep hk
        clear a0 a1 a2 a3 a4 a5 a6 e0 e1 e2 e3 e4 e5 e6 f0 f1 f2 f3 f4 f5 f6 g0 g1 g2 g3 g4 g5 g6 hk
        have c_bT := bT.cells
        go_wp2_with fail
        refine (kbit_p y _).mono ?_
        rintro e w' ⟨rfl, rfl⟩
        go_wp2_with fail
        refine (kfree0_p (bitM y) t _ _ (c_bT 0)).mono ?_
        rintro e w' ⟨rfl, rfl⟩
        by_cases hy : kesFree 0 t y = true
        · rw [if_pos hy] at hO
          have hy2 : (bitM y != t) = true := by unfold kesFree at hy; simpa using hy
          have hf : R (.returned (encU ())) w5 := hO.done hP hK
          clear hO hP hK hl bT hy
          go_wp2_with fail
          first | exact hf | (refine bodyPost_ret (results_none rfl _ _ _) rfl ?_; exact hf)
        · rw [if_neg hy] at hO
          have hy2 : (bitM y != t) = false := by unfold kesFree at hy; simpa using hy
          obtain ⟨⟨a0, a1, a2, a3, a4, a5, a6⟩, ⟨e0, e1, e2, e3, e4, e5, e6⟩, ⟨f0, f1, f2, f3, f4, f5, f6⟩, ⟨g0, g1, g2, g3, g4, g5, g6⟩⟩ := hl.four
          clear hy c_bT
          go_wp2_with fail
          refine (cells_pm q1 me _ hq1 ht1 ⟨hm0, by omega⟩).mono ?_
          rintro e w6 ⟨cc, rfl, hcc, hx⟩
          replace hl := hl.extL hx hP.lt
          replace bT := bT.ext hx hP.lt
          replace hK := hK.trans (Keep.of_ext hx hP.lt hP.le)
          replace hP := hP.ext hx
          clear a0 a1 a2 a3 a4 a5 a6 e0 e1 e2 e3 e4 e5 e6 f0 f1 f2 f3 f4 f5 f6 g0 g1 g2 g3 g4 g5 g6 hx
          have hlw2 := Lib.hid hP.left
          have hOh := Lib.hid hO
          clear hO
          go_wp2_with fail
          refine ⟨⟨n, S3, hP, hK, bT, hl, hOh, by omega⟩, ?_⟩
          rw [hlw.out, hlw2.out]
          omega
set_option maxRecDepth 100000 in
set_option maxHeartbeats 1000000 in
theorem kes_enter_p1 (B p N : Nat) (S : TS) (q0 q1 r0 r1 : Reg) (side me : Int) (b c : Nat) (w : World) (h : Plays B w p S) (hl : RegsAt [2, 3, 4] w p b [q0, q1, r0, r1]) (hq0 : q0.ok) (hq1 : q1.ok) (hr0 : r0.ok) (hr1 : r1.ok)
    (hm0 : 0 ≤ me) (hm1 : me < q0.n) (hm2 : me < q1.n) (hm3 : me < r0.n) (hm4 : me < r1.n) (ht1 : q0.told me) (_ht2 : r0.told me) (hN : S.left < N) (hs : bitM side = 1) (hc4 : 4 ≤ c) (hc5 : c ≤ 9223372036854775807) :
    Calls Tryz.prog 233 #[.pointer (some ⟨p, 0, none⟩), .slice (some ⟨b, 0, none⟩) 4 c, .int .i64 side, .int .i64 me] w (Post encU B p w ((kesEnter N q1 q0 r1 r0 1 me).run S)) := by
  generalize hR : Post encU B p w ((kesEnter N q1 q0 r1 r0 1 me).run S) = R
  have hO : Owes R encU B p w ((kesEnter N q1 q0 r1 r0 1 me).run S) := hR ▸ owes _ _ _ _ _
  clear hR
  have hmf : ∀ (fn : Fn) (first cap : Array Value) (w : World), (Instr.makeFunc fn first cap).run Tryz.prog w = .ok (.func fn first cap) w := fun _ _ _ _ => rfl
  have hK := Keep.refl [2, 3, 4] B p w
  have hP := h
  clear h
  unfold kesEnter at hO
  obtain ⟨⟨a0, a1, a2, a3, a4, a5, a6⟩, ⟨e0, e1, e2, e3, e4, e5, e6⟩, ⟨f0, f1, f2, f3, f4, f5, f6⟩, ⟨g0, g1, g2, g3, g4, g5, g6⟩⟩ := hl.four
  have hc6 : (2 : Int) ≤ (c : Int) := by omega
  have hc7 : (4 : Int) ≤ (c : Int) := by omega
  have hb := kbit_p side w
  rw [hs] at hb
  clear hs
  go_enter Tryz.func233, Tryz.ntmps233
  go_wp2_with fail
  refine hb.mono ?_
  rintro e w' ⟨rfl, rfl⟩
  clear hb
  go_wp2_with fail
  go_quiet (fail)
  have hx := (Ext.refl w).drewN nq
  replace hl := hl.extL hx hP.lt
  replace hK := hK.trans (Keep.of_ext hx hP.lt hP.le)
  replace hP := hP.ext hx
  clear a0 a1 a2 a3 a4 a5 a6 e0 e1 e2 e3 e4 e5 e6 f0 f1 f2 f3 f4 f5 f6 g0 g1 g2 g3 g4 g5 g6 hx
  generalize w.drewN nq = wz at *
  obtain ⟨⟨a0, a1, a2, a3, a4, a5, a6⟩, ⟨e0, e1, e2, e3, e4, e5, e6⟩, ⟨f0, f1, f2, f3, f4, f5, f6⟩, ⟨g0, g1, g2, g3, g4, g5, g6⟩⟩ := hl.four
  go_wp2_with fail
  refine tstepL hO hK (reg_write_p B p S q1 me 1 _ hP hq1 ⟨hm0, by omega⟩) (fun _ h => ⟨rfl, h⟩) ?_
  clear hO hK hP
  intro u S w1 hlf _ hP hk hK hO
  replace hN := Nat.lt_of_le_of_lt hlf hN
  replace hl := hl.keep hk
  clear a0 a1 a2 a3 a4 a5 a6 e0 e1 e2 e3 e4 e5 e6 f0 f1 f2 f3 f4 f5 f6 g0 g1 g2 g3 g4 g5 g6 hk hlf
  obtain ⟨⟨a0, a1, a2, a3, a4, a5, a6⟩, ⟨e0, e1, e2, e3, e4, e5, e6⟩, ⟨f0, f1, f2, f3, f4, f5, f6⟩, ⟨g0, g1, g2, g3, g4, g5, g6⟩⟩ := hl.four
  go_wp2_with fail
  refine tstepL hO hK (reg_read_p B p S r0 me _ hP hr0 ⟨hm0, by omega⟩) (fun _ h => ⟨rfl, h⟩) ?_
  clear hO hK hP
  intro x S w2 hlf _ hP hk hK hO
  replace hN := Nat.lt_of_le_of_lt hlf hN
  replace hl := hl.keep hk
  clear a0 a1 a2 a3 a4 a5 a6 e0 e1 e2 e3 e4 e5 e6 f0 f1 f2 f3 f4 f5 f6 g0 g1 g2 g3 g4 g5 g6 hk hlf
  obtain ⟨⟨a0, a1, a2, a3, a4, a5, a6⟩, ⟨e0, e1, e2, e3, e4, e5, e6⟩, ⟨f0, f1, f2, f3, f4, f5, f6⟩, ⟨g0, g1, g2, g3, g4, g5, g6⟩⟩ := hl.four
  go_wp2_with fail
  have hbx : 0 ≤ bitM x ∧ bitM x ≤ 1 := by unfold bitM; split <;> omega
  have hwx := w64 (1 - bitM x) (by omega) (by omega)
  refine (kbit_p x _).mono ?_
  rintro e w' ⟨rfl, rfl⟩
  go_wp2_with fail
  have hPo := hP
  have bT := hP.held (.cells #[.int .i64 (1 - bitM x)] 3)
  replace hK := hK.trans (Keep.alloc (.cells #[.int .i64 (1 - bitM x)] 3) hP.lt hP.le)
  replace hP := hP.alloc (.cells #[.int .i64 (1 - bitM x)] 3)
  have c_bT := bT.cells
  replace hl := hl.extL ((Ext.refl _).alloc (.cells #[.int .i64 (1 - bitM x)] 3)) hPo.lt
  clear hPo
  clear a0 a1 a2 a3 a4 a5 a6 e0 e1 e2 e3 e4 e5 e6 f0 f1 f2 f3 f4 f5 f6 g0 g1 g2 g3 g4 g5 g6
  rw [show kesT 1 x = (1 - bitM x) from rfl] at hO
  replace hP := hP.drew
  replace hK := hK.drew
  replace bT := bT.drew
  replace hl := hl.extL (Ext.refl _).drew hP.lt
  have hS : ∀ w', RegsAt [2, 3, 4] w' p b [q0, q1, r0, r1] → HeldP w' p w2.heap.size (.cells #[.int .i64 (1 - bitM x)] 3) → (w'.cell? ⟨b, 21, none⟩ = some (.int .i64 r1.kind) ∧ w'.cell? ⟨b, 22, none⟩ = some (.int .i64 r1.base) ∧ w'.cell? ⟨b, 23, none⟩ = some (.int .i64 r1.loc) ∧ w'.cell? ⟨b, 24, none⟩ = some (.int .i64 r1.n) ∧ w'.cell? ⟨b, 25, none⟩ = some (.int .i64 r1.wr) ∧ w'.cell? ⟨b, 26, none⟩ = some (.int .i64 r1.rd) ∧ w'.cell? ⟨b, 27, none⟩ = some (.int .i64 r1.top)) ∧ (∀ i, w'.cell? ⟨w2.heap.size, i, none⟩ = (#[.int .i64 (1 - bitM x)] : Array Value)[i]?) := fun w' h1 h2 => by
    obtain ⟨y0, y1, y2, y3, y4, y5, y6⟩ := h1.four.2.2.2
    exact ⟨⟨y0, y1, y2, y3, y4, y5, y6⟩, h2.cells⟩
  go_region_held2 (fun w' => (w'.cell? ⟨b, 21, none⟩ = some (.int .i64 r1.kind) ∧ w'.cell? ⟨b, 22, none⟩ = some (.int .i64 r1.base) ∧ w'.cell? ⟨b, 23, none⟩ = some (.int .i64 r1.loc) ∧ w'.cell? ⟨b, 24, none⟩ = some (.int .i64 r1.n) ∧ w'.cell? ⟨b, 25, none⟩ = some (.int .i64 r1.wr) ∧ w'.cell? ⟨b, 26, none⟩ = some (.int .i64 r1.rd) ∧ w'.cell? ⟨b, 27, none⟩ = some (.int .i64 r1.top)) ∧ (∀ i, w'.cell? ⟨w2.heap.size, i, none⟩ = (#[.int .i64 (1 - bitM x)] : Array Value)[i]?)) (exact hS _ hl bT)
    (first
      | (go_at_call 229
         refine tstepL hO hK (reg_write_p B p S r1 me (1 - bitM x) _ hP hr1 ⟨hm0, by omega⟩) (fun _ h => ⟨rfl, h⟩) ?_
         clear hO hK hP
         intro u S w3 hlf _ hP hk hK hO
         replace hN := Nat.lt_of_le_of_lt hlf hN
         replace hl := hl.keep hk
         replace bT := bT.keep hk
         clear hk hlf))
  rename_i hh
  clear hh c_bT
  generalize htx : (1 - bitM x) = t at *
  go_wp2_with fail
  go_loopw [] (fun wr => ∃ (n : Nat) (S1 : TS), Plays B wr p S1 ∧ KeepP B p w wr ∧ HeldP wr p w2.heap.size (.cells #[.int .i64 t] 3) ∧ RegsAt [2, 3, 4] wr p b [q0, q1, r0, r1] ∧ Hid (Owes R encU B p w ((kesSpin q0 r0 1 t me n).run S1)) ∧ S1.left < n) (fun wr => leftW 1 3 wr p)
  case atStart => exact ⟨N, S, hP, hK, bT, hl, hO, hN⟩
  case round =>
    clear hS hP hK bT hl hO hN
    obtain ⟨n, S1, hP, hK, bT, hl, hO, hN⟩ := hrel
    have hO := hO.out
    have hlw := Lib.hid hP.left
    cases n with
    | zero => omega
    | succ n =>
      unfold kesSpin at hO
      obtain ⟨⟨a0, a1, a2, a3, a4, a5, a6⟩, ⟨e0, e1, e2, e3, e4, e5, e6⟩, ⟨f0, f1, f2, f3, f4, f5, f6⟩, ⟨g0, g1, g2, g3, g4, g5, g6⟩⟩ := hl.four
      go_wp2_with fail
      refine tstepL hO hK (reg_read_p B p S1 q0 me _ hP hq0 ⟨hm0, by omega⟩) (fun _ h => ⟨rfl, h⟩) ?_
      clear hO hK hP
      intro v S2 w4 _ hlf hP hk hK hO
      replace hlf := hlf (asks_regR _ _ ht1)
      replace hl := hl.keep hk
      replace bT := bT.keep hk
      clear a0 a1 a2 a3 a4 a5 a6 e0 e1 e2 e3 e4 e5 e6 f0 f1 f2 f3 f4 f5 f6 g0 g1 g2 g3 g4 g5 g6 hk
      by_cases hv : v = 0
      · rw [if_pos hv] at hO
        subst hv
        have hf : R (.returned (encU ())) w4 := hO.done hP hK
        clear hO hP hK hl bT
        go_wp2_with fail
        first | exact hf | (refine bodyPost_ret (results_none rfl _ _ _) rfl ?_; exact hf)
      · rw [if_neg hv] at hO
        have hv2 : (v == 0) = false := by rw [beq_eq_false_iff_ne]; exact hv
        obtain ⟨⟨a0, a1, a2, a3, a4, a5, a6⟩, ⟨e0, e1, e2, e3, e4, e5, e6⟩, ⟨f0, f1, f2, f3, f4, f5, f6⟩, ⟨g0, g1, g2, g3, g4, g5, g6⟩⟩ := hl.four
        clear hv
        go_wp2_with fail
        refine tstepL hO hK (reg_read_p B p S2 r0 me _ hP hr0 ⟨hm0, by omega⟩) (fun _ h => ⟨rfl, h⟩) ?_
        clear hO hK hP
        intro y S3 w5 hlf2 _ hP hk hK hO
        replace hl := hl.keep hk
        replace bT := bT.keep hk
        clear a0 a1 a2 a3 a4 a5 a6 e0 e1 e2 e3 e4 e5 e6 f0 f1 f2 f3 f4 f5 f6 g0 g1 g2 g3 g4 g5 g6 hk
        have c_bT := bT.cells
        go_wp2_with fail
        refine (kbit_p y _).mono ?_
        rintro e w' ⟨rfl, rfl⟩
        go_wp2_with fail
        refine (kfree1_p (bitM y) t _ _ (c_bT 0)).mono ?_
        rintro e w' ⟨rfl, rfl⟩
        by_cases hy : kesFree 1 t y = true
        · rw [if_pos hy] at hO
          have hy2 : (bitM y == t) = true := by unfold kesFree at hy; simpa using hy
          have hf : R (.returned (encU ())) w5 := hO.done hP hK
          clear hO hP hK hl bT hy
          go_wp2_with fail
          first | exact hf | (refine bodyPost_ret (results_none rfl _ _ _) rfl ?_; exact hf)
        · rw [if_neg hy] at hO
          have hy2 : (bitM y == t) = false := by unfold kesFree at hy; simpa using hy
          obtain ⟨⟨a0, a1, a2, a3, a4, a5, a6⟩, ⟨e0, e1, e2, e3, e4, e5, e6⟩, ⟨f0, f1, f2, f3, f4, f5, f6⟩, ⟨g0, g1, g2, g3, g4, g5, g6⟩⟩ := hl.four
          clear hy c_bT
          go_wp2_with fail
          refine (cells_pm q0 me _ hq0 ht1 ⟨hm0, by omega⟩).mono ?_
          rintro e w6 ⟨cc, rfl, hcc, hx⟩
          replace hl := hl.extL hx hP.lt
          replace bT := bT.ext hx hP.lt
          replace hK := hK.trans (Keep.of_ext hx hP.lt hP.le)
          replace hP := hP.ext hx
          clear a0 a1 a2 a3 a4 a5 a6 e0 e1 e2 e3 e4 e5 e6 f0 f1 f2 f3 f4 f5 f6 g0 g1 g2 g3 g4 g5 g6 hx
          have hlw2 := Lib.hid hP.left
          have hOh := Lib.hid hO
          clear hO
          go_wp2_with fail
          refine ⟨⟨n, S3, hP, hK, bT, hl, hOh, by omega⟩, ?_⟩
          rw [hlw.out, hlw2.out]
          omega
end Go.Proofs.YtbaajjkopdjbgaaGreat
/-
  Kessels: leaving, by the program.
-/
namespace Go.Proofs.YtbaajjkopdjbgaaGreat
open Go.RowKit Kv
theorem kbit_p' (x : Int) (w : World) : Calls Tryz.prog 294 #[.int .i64 x] w fun e w' => e = .returned (.int .i64 (bitM x)) ∧ w = w' := by
  unfold bitM
  by_cases h : x = 0
  · rw [if_pos h]
    go_enter Tryz.func294, Tryz.ntmps294
    go_wp2_with fail
    go_ret
    exact ⟨rfl, rfl⟩
  · rw [if_neg h]
    have hb : (x != 0) = true := by rw [bne_iff_ne]; exact h
    go_enter Tryz.func294, Tryz.ntmps294
    go_wp2_with fail
    go_ret
    exact ⟨rfl, rfl⟩
theorem kes_leave_p (B p : Nat) (S : TS) (q0 q1 r0 r1 : Reg) (side me : Int) (b c : Nat) (w : World) (h : Plays B w p S) (hl : RegsAt [2, 3, 4] w p b [q0, q1, r0, r1]) (hq0 : q0.ok) (hq1 : q1.ok)
    (hm0 : 0 ≤ me) (hm1 : me < q0.n) (hm2 : me < q1.n) :
    Calls Tryz.prog 234 #[.pointer (some ⟨p, 0, none⟩), .slice (some ⟨b, 0, none⟩) 4 c, .int .i64 side, .int .i64 me] w (Post encU B p w ((regW (if bitM side = 1 then q1 else q0) me 0).run S)) := by
  have hb := kbit_p' side w
  obtain ⟨⟨a0, a1, a2, a3, a4, a5, a6⟩, ⟨e0, e1, e2, e3, e4, e5, e6⟩, -, -⟩ := hl.four
  have hs : bitM side = 0 ∨ bitM side = 1 := by unfold bitM; split <;> simp
  rcases hs with hs | hs
  · rw [hs] at hb ⊢
    rw [if_neg (by omega)]
    generalize hR : Post encU B p w ((regW q0 me 0).run S) = R
    have hO : Owes R encU B p w ((regW q0 me 0).run S) := hR ▸ owes _ _ _ _ _
    clear hR
    go_enter Tryz.func234, Tryz.ntmps234
    go_wp2_with fail
    refine hb.mono ?_
    rintro e w' ⟨rfl, rfl⟩
    go_wp2_with fail
    clear a0 a1 a2 a3 a4 a5 a6 e0 e1 e2 e3 e4 e5 e6 hl hb
    refine tlast hO (Keep.refl _ _ _ _) (reg_write_p B p S q0 me 0 _ h hq0 ⟨hm0, hm1⟩) (fun _ h => ⟨rfl, h⟩) ?_
    intro v S1 w1 hr hP1 hk1 hK1 hO1
    have hf := hO1.done hP1 hK1
    clear hO1 hP1 hK1 hr hk1 hO h
    go_wp2_with fail
    first | exact hf | (refine bodyPost_ret (results_none rfl _ _ _) rfl ?_; exact hf)
  · rw [hs] at hb ⊢
    rw [if_pos rfl]
    generalize hR : Post encU B p w ((regW q1 me 0).run S) = R
    have hO : Owes R encU B p w ((regW q1 me 0).run S) := hR ▸ owes _ _ _ _ _
    clear hR
    go_enter Tryz.func234, Tryz.ntmps234
    go_wp2_with fail
    refine hb.mono ?_
    rintro e w' ⟨rfl, rfl⟩
    go_wp2_with fail
    clear a0 a1 a2 a3 a4 a5 a6 e0 e1 e2 e3 e4 e5 e6 hl hb
    refine tlast hO (Keep.refl _ _ _ _) (reg_write_p B p S q1 me 0 _ h hq1 ⟨hm0, hm2⟩) (fun _ h => ⟨rfl, h⟩) ?_
    intro v S1 w1 hr hP1 hk1 hK1 hO1
    have hf := hO1.done hP1 hK1
    clear hO1 hP1 hK1 hr hk1 hO h
    go_wp2_with fail
    first | exact hf | (refine bodyPost_ret (results_none rfl _ _ _) rfl ?_; exact hf)
end Go.Proofs.YtbaajjkopdjbgaaGreat
/-
  Kessels: entering, by the document.
-/
namespace Go.Proofs.YtbaajjkopdjbgaaGreat
open Go.RowKit Kv
set_option maxRecDepth 100000 in
set_option maxHeartbeats 1000000 in
theorem kes_zero_r (B p N : Nat) (o : Bool) (S : TS) (q0 q1 r0 r1 : Reg) (me : Int) (b c : Nat) (w : World) (h : RAt B w p o S) (hl : RegsAt [3, 4, 5] w p b [q0, q1, r0, r1]) (hq0 : q0.ok) (hq1 : q1.ok) (hr0 : r0.ok) (hr1 : r1.ok)
    (hm0 : 0 ≤ me) (hm1 : me < q0.n) (hm2 : me < q1.n) (hm3 : me < r0.n) (hm4 : me < r1.n) (ht1 : q1.told me) (_ht2 : r1.told me) (hN : S.left < N) :
    Calls Tryz.prog 309 #[.pointer (some ⟨p, 0, none⟩), .slice (some ⟨b, 0, none⟩) 4 c, .int .i64 me] w (RPost encU B p w (kesEnter N q0 q1 r0 r1 0 me) o S) := by
  generalize hR : RPost encU B p w (kesEnter N q0 q1 r0 r1 0 me) o S = R
  have hO : ROwes R encU B p w (kesEnter N q0 q1 r0 r1 0 me) o S := hR ▸ rowes _ _ _ _ _ _ _
  clear hR
  have hK := Keep.refl [3, 4, 5] B p w
  have hP := h
  clear h
  unfold kesEnter at hO
  obtain ⟨⟨a0, a1, a2, a3, a4, a5, a6⟩, ⟨e0, e1, e2, e3, e4, e5, e6⟩, ⟨f0, f1, f2, f3, f4, f5, f6⟩, ⟨g0, g1, g2, g3, g4, g5, g6⟩⟩ := hl.four
  go_enter Tryz.func309, Tryz.ntmps309
  go_wp2_with fail
  refine rstepL hO hK (reg_write_r B p o S q0 me 1 _ hP hq0 ⟨hm0, by omega⟩) ?_
  clear hO hK hP
  intro u o S w1 hlf _ hP hk hK hO
  replace hN := Nat.lt_of_le_of_lt hlf hN
  replace hl := hl.keep hk
  clear a0 a1 a2 a3 a4 a5 a6 e0 e1 e2 e3 e4 e5 e6 f0 f1 f2 f3 f4 f5 f6 g0 g1 g2 g3 g4 g5 g6 hk hlf
  obtain ⟨⟨a0, a1, a2, a3, a4, a5, a6⟩, ⟨e0, e1, e2, e3, e4, e5, e6⟩, ⟨f0, f1, f2, f3, f4, f5, f6⟩, ⟨g0, g1, g2, g3, g4, g5, g6⟩⟩ := hl.four
  obtain ⟨_, _, _, _, _, hcc⟩ := hP.cell
  cases o with
  | true =>
    have hf : R (.returned (encU ())) w1 := hO.over () hP hK
    clear hO hP hK hl
    go_wp2_with fail
    first | exact hf | (refine bodyPost_ret (results_none rfl _ _ _) rfl ?_; exact hf)
  | false =>
    go_wp2_with fail
    clear hcc
    refine rstepL hO hK (reg_read_r B p false S r1 me _ hP hr1 ⟨hm0, by omega⟩) ?_
    clear hO hK hP
    intro x o S w2 hlf _ hP hk hK hO
    replace hN := Nat.lt_of_le_of_lt hlf hN
    replace hl := hl.keep hk
    clear a0 a1 a2 a3 a4 a5 a6 e0 e1 e2 e3 e4 e5 e6 f0 f1 f2 f3 f4 f5 f6 g0 g1 g2 g3 g4 g5 g6 hk hlf
    obtain ⟨⟨a0, a1, a2, a3, a4, a5, a6⟩, ⟨e0, e1, e2, e3, e4, e5, e6⟩, ⟨f0, f1, f2, f3, f4, f5, f6⟩, ⟨g0, g1, g2, g3, g4, g5, g6⟩⟩ := hl.four
    have hbx : 0 ≤ bitM x ∧ bitM x ≤ 1 := by unfold bitM; split <;> omega
    have hwx := w64 (1 - bitM x) (by omega) (by omega)
    go_wp2_with fail
    refine (bit_r x _).mono ?_
    rintro e w' ⟨rfl, rfl⟩
    rw [show kesT 0 x = (bitM x) from rfl] at hO
    obtain ⟨_, _, _, _, _, hcc⟩ := hP.cell
    generalize htx : (bitM x) = t at hO ⊢
    go_upto_if 28 with fail
    go_cut [6] (fun s6 wx => s6 = .int .i64 t ∧ ∃ o1 S1, RAt B wx p o1 S1 ∧ KeepR B p w wx ∧ RegsAt [3, 4, 5] wx p b [q0, q1, r0, r1] ∧ Hid (ROwes R encU B p w (kesSpin q1 r1 0 t me N) o1 S1) ∧ S1.left < N)
    case first =>
      clear hcc
      cases o with
      | true =>
        clear a0 a1 a2 a3 a4 a5 a6 e0 e1 e2 e3 e4 e5 e6 f0 f1 f2 f3 f4 f5 f6 g0 g1 g2 g3 g4 g5 g6
        go_wp2_with fail
        go_meet
        exact ⟨rfl, true, S, hP, hK, hl, hO.any _, hN⟩
      | false =>
        go_wp2_with fail
        refine rstepL hO hK (reg_write_r B p false S r0 me t _ hP hr0 ⟨hm0, by omega⟩) ?_
        clear hO hK hP
        intro u o S3 w3 hlf _ hP hk hK hO
        replace hl := hl.keep hk
        clear a0 a1 a2 a3 a4 a5 a6 e0 e1 e2 e3 e4 e5 e6 f0 f1 f2 f3 f4 f5 f6 g0 g1 g2 g3 g4 g5 g6 hk
        go_wp2_with fail
        go_meet
        exact ⟨rfl, o, S3, hP, hK, hl, hO, by omega⟩
    case rest =>
      clear a0 a1 a2 a3 a4 a5 a6 e0 e1 e2 e3 e4 e5 e6 f0 f1 f2 f3 f4 f5 f6 g0 g1 g2 g3 g4 g5 g6 hP hK hl hO hN hcc
      obtain ⟨rfl, o1, S1, hP, hK, hl, hO, hN⟩ := hcut
      go_wp2_with fail
      go_loopw [] (fun wr => ∃ (n : Nat) (o2 : Bool) (S2 : TS), RAt B wr p o2 S2 ∧ KeepR B p w wr ∧ RegsAt [3, 4, 5] wr p b [q0, q1, r0, r1] ∧ Hid (ROwes R encU B p w (kesSpin q1 r1 0 t me n) o2 S2) ∧ (o2 = false → S2.left < n)) (fun wr => leftR wr p)
      case atStart => exact ⟨N, o1, S1, hP, hK, hl, hO, fun _ => hN⟩
      case round =>
        clear hP hK hl hO hN
        obtain ⟨n, o2, S2, hP, hK, hl, hO, hN⟩ := hrel
        have hO := hO.out
        have hlw := Lib.hid hP.leftR
        obtain ⟨_, _, _, _, _, hcc⟩ := hP.cell
        cases o2 with
        | true =>
          have hf : R (.returned (encU ())) wr := hO.over () hP hK
          clear hO hP hK hl hN
          go_wp2_with fail
          first | exact hf | (refine bodyPost_ret (results_none rfl _ _ _) rfl ?_; exact hf)
        | false =>
          have hN := hN rfl
          cases n with
          | zero => omega
          | succ n =>
            unfold kesSpin at hO
            obtain ⟨⟨a0, a1, a2, a3, a4, a5, a6⟩, ⟨e0, e1, e2, e3, e4, e5, e6⟩, ⟨f0, f1, f2, f3, f4, f5, f6⟩, ⟨g0, g1, g2, g3, g4, g5, g6⟩⟩ := hl.four
            go_wp2_with fail
            clear hcc
            refine rstepL hO hK (reg_read_r B p false S2 q1 me _ hP hq1 ⟨hm0, by omega⟩) ?_
            clear hO hK hP
            intro v o3 S3 w4 hlf hlt hP hk hK hO
            replace hl := hl.keep hk
            clear a0 a1 a2 a3 a4 a5 a6 e0 e1 e2 e3 e4 e5 e6 f0 f1 f2 f3 f4 f5 f6 g0 g1 g2 g3 g4 g5 g6 hk
            obtain ⟨_, _, _, _, _, hcc⟩ := hP.cell
            by_cases hv : v = 0
            · rw [if_pos hv] at hO
              subst hv
              have hf : R (.returned (encU ())) w4 := hO.ret hP hK
              clear hO hP hK hl hcc
              go_wp2_with fail
              first | exact hf | (refine bodyPost_ret (results_none rfl _ _ _) rfl ?_; exact hf)
            · rw [if_neg hv] at hO
              have hv2 : (v == 0) = false := by rw [beq_eq_false_iff_ne]; exact hv
              clear hv
              cases o3 with
              | true =>
                have hlw2 := Lib.hid hP.leftR
                have hOh := Lib.hid hO
                clear hO
                go_wp2_with fail
                refine ⟨⟨n, true, S3, hP, hK, hl, hOh.out.any _, fun h => by cases h⟩, ?_⟩
                rw [hlw.out, hlw2.out]
                simp
                omega
              | false =>
                replace hlt := (hlt rfl).2 (asks_regR _ _ ht1)
                obtain ⟨⟨a0, a1, a2, a3, a4, a5, a6⟩, ⟨e0, e1, e2, e3, e4, e5, e6⟩, ⟨f0, f1, f2, f3, f4, f5, f6⟩, ⟨g0, g1, g2, g3, g4, g5, g6⟩⟩ := hl.four
                go_wp2_with fail
                clear hcc
                refine rstepL hO hK (reg_read_r B p false S3 r1 me _ hP hr1 ⟨hm0, by omega⟩) ?_
                clear hO hK hP
                intro y o4 S4 w5 hlf4 _ hP hk hK hO
                replace hl := hl.keep hk
                clear a0 a1 a2 a3 a4 a5 a6 e0 e1 e2 e3 e4 e5 e6 f0 f1 f2 f3 f4 f5 f6 g0 g1 g2 g3 g4 g5 g6 hk
                go_wp2_with fail
                refine (bit_r y _).mono ?_
                rintro e w' ⟨rfl, rfl⟩
                by_cases hy : kesFree 0 t y = true
                · rw [if_pos hy] at hO
                  have hy2 : (bitM y != t) = true := by unfold kesFree at hy; simpa using hy
                  have hf : R (.returned (encU ())) w5 := hO.ret hP hK
                  clear hO hP hK hl hy
                  go_wp2_with fail
                  first | exact hf | (refine bodyPost_ret (results_none rfl _ _ _) rfl ?_; exact hf)
                · rw [if_neg hy] at hO
                  have hy2 : (bitM y != t) = false := by unfold kesFree at hy; simpa using hy
                  have hlw2 := Lib.hid hP.leftR
                  have hOh := Lib.hid hO
                  clear hO hy
                  go_wp2_with fail
                  refine ⟨⟨n, o4, S4, hP, hK, hl, hOh, fun _ => by omega⟩, ?_⟩
                  rw [hlw.out, hlw2.out]
                  simp only [Bool.false_eq_true, if_false]
                  split <;> omega
set_option maxRecDepth 100000 in
set_option maxHeartbeats 1000000 in
theorem kes_one_r (B p N : Nat) (o : Bool) (S : TS) (q0 q1 r0 r1 : Reg) (me : Int) (b c : Nat) (w : World) (h : RAt B w p o S) (hl : RegsAt [3, 4, 5] w p b [q0, q1, r0, r1]) (hq0 : q0.ok) (hq1 : q1.ok) (hr0 : r0.ok) (hr1 : r1.ok)
    (hm0 : 0 ≤ me) (hm1 : me < q0.n) (hm2 : me < q1.n) (hm3 : me < r0.n) (hm4 : me < r1.n) (ht1 : q0.told me) (_ht2 : r0.told me) (hN : S.left < N) :
    Calls Tryz.prog 310 #[.pointer (some ⟨p, 0, none⟩), .slice (some ⟨b, 0, none⟩) 4 c, .int .i64 me] w (RPost encU B p w (kesEnter N q1 q0 r1 r0 1 me) o S) := by
  generalize hR : RPost encU B p w (kesEnter N q1 q0 r1 r0 1 me) o S = R
  have hO : ROwes R encU B p w (kesEnter N q1 q0 r1 r0 1 me) o S := hR ▸ rowes _ _ _ _ _ _ _
  clear hR
  have hK := Keep.refl [3, 4, 5] B p w
  have hP := h
  clear h
  unfold kesEnter at hO
  obtain ⟨⟨a0, a1, a2, a3, a4, a5, a6⟩, ⟨e0, e1, e2, e3, e4, e5, e6⟩, ⟨f0, f1, f2, f3, f4, f5, f6⟩, ⟨g0, g1, g2, g3, g4, g5, g6⟩⟩ := hl.four
  go_enter Tryz.func310, Tryz.ntmps310
  go_wp2_with fail
  refine rstepL hO hK (reg_write_r B p o S q1 me 1 _ hP hq1 ⟨hm0, by omega⟩) ?_
  clear hO hK hP
  intro u o S w1 hlf _ hP hk hK hO
  replace hN := Nat.lt_of_le_of_lt hlf hN
  replace hl := hl.keep hk
  clear a0 a1 a2 a3 a4 a5 a6 e0 e1 e2 e3 e4 e5 e6 f0 f1 f2 f3 f4 f5 f6 g0 g1 g2 g3 g4 g5 g6 hk hlf
  obtain ⟨⟨a0, a1, a2, a3, a4, a5, a6⟩, ⟨e0, e1, e2, e3, e4, e5, e6⟩, ⟨f0, f1, f2, f3, f4, f5, f6⟩, ⟨g0, g1, g2, g3, g4, g5, g6⟩⟩ := hl.four
  obtain ⟨_, _, _, _, _, hcc⟩ := hP.cell
  cases o with
  | true =>
    have hf : R (.returned (encU ())) w1 := hO.over () hP hK
    clear hO hP hK hl
    go_wp2_with fail
    first | exact hf | (refine bodyPost_ret (results_none rfl _ _ _) rfl ?_; exact hf)
  | false =>
    go_wp2_with fail
    clear hcc
    refine rstepL hO hK (reg_read_r B p false S r0 me _ hP hr0 ⟨hm0, by omega⟩) ?_
    clear hO hK hP
    intro x o S w2 hlf _ hP hk hK hO
    replace hN := Nat.lt_of_le_of_lt hlf hN
    replace hl := hl.keep hk
    clear a0 a1 a2 a3 a4 a5 a6 e0 e1 e2 e3 e4 e5 e6 f0 f1 f2 f3 f4 f5 f6 g0 g1 g2 g3 g4 g5 g6 hk hlf
    obtain ⟨⟨a0, a1, a2, a3, a4, a5, a6⟩, ⟨e0, e1, e2, e3, e4, e5, e6⟩, ⟨f0, f1, f2, f3, f4, f5, f6⟩, ⟨g0, g1, g2, g3, g4, g5, g6⟩⟩ := hl.four
    have hbx : 0 ≤ bitM x ∧ bitM x ≤ 1 := by unfold bitM; split <;> omega
    have hwx := w64 (1 - bitM x) (by omega) (by omega)
    go_wp2_with fail
    refine (bit_r x _).mono ?_
    rintro e w' ⟨rfl, rfl⟩
    rw [show kesT 1 x = (1 - bitM x) from rfl] at hO
    obtain ⟨_, _, _, _, _, hcc⟩ := hP.cell
    generalize htx : (1 - bitM x) = t at hO ⊢
    go_upto_if 29 with fail
    go_cut [6] (fun s6 wx => s6 = .int .i64 t ∧ ∃ o1 S1, RAt B wx p o1 S1 ∧ KeepR B p w wx ∧ RegsAt [3, 4, 5] wx p b [q0, q1, r0, r1] ∧ Hid (ROwes R encU B p w (kesSpin q0 r0 1 t me N) o1 S1) ∧ S1.left < N)
    case first =>
      clear hcc
      cases o with
      | true =>
        clear a0 a1 a2 a3 a4 a5 a6 e0 e1 e2 e3 e4 e5 e6 f0 f1 f2 f3 f4 f5 f6 g0 g1 g2 g3 g4 g5 g6
        go_wp2_with fail
        go_meet
        exact ⟨rfl, true, S, hP, hK, hl, hO.any _, hN⟩
      | false =>
        go_wp2_with fail
        refine rstepL hO hK (reg_write_r B p false S r1 me t _ hP hr1 ⟨hm0, by omega⟩) ?_
        clear hO hK hP
        intro u o S3 w3 hlf _ hP hk hK hO
        replace hl := hl.keep hk
        clear a0 a1 a2 a3 a4 a5 a6 e0 e1 e2 e3 e4 e5 e6 f0 f1 f2 f3 f4 f5 f6 g0 g1 g2 g3 g4 g5 g6 hk
        go_wp2_with fail
        go_meet
        exact ⟨rfl, o, S3, hP, hK, hl, hO, by omega⟩
    case rest =>
      clear a0 a1 a2 a3 a4 a5 a6 e0 e1 e2 e3 e4 e5 e6 f0 f1 f2 f3 f4 f5 f6 g0 g1 g2 g3 g4 g5 g6 hP hK hl hO hN hcc
      obtain ⟨rfl, o1, S1, hP, hK, hl, hO, hN⟩ := hcut
      go_wp2_with fail
      go_loopw [] (fun wr => ∃ (n : Nat) (o2 : Bool) (S2 : TS), RAt B wr p o2 S2 ∧ KeepR B p w wr ∧ RegsAt [3, 4, 5] wr p b [q0, q1, r0, r1] ∧ Hid (ROwes R encU B p w (kesSpin q0 r0 1 t me n) o2 S2) ∧ (o2 = false → S2.left < n)) (fun wr => leftR wr p)
      case atStart => exact ⟨N, o1, S1, hP, hK, hl, hO, fun _ => hN⟩
      case round =>
        clear hP hK hl hO hN
        obtain ⟨n, o2, S2, hP, hK, hl, hO, hN⟩ := hrel
        have hO := hO.out
        have hlw := Lib.hid hP.leftR
        obtain ⟨_, _, _, _, _, hcc⟩ := hP.cell
        cases o2 with
        | true =>
          have hf : R (.returned (encU ())) wr := hO.over () hP hK
          clear hO hP hK hl hN
          go_wp2_with fail
          first | exact hf | (refine bodyPost_ret (results_none rfl _ _ _) rfl ?_; exact hf)
        | false =>
          have hN := hN rfl
          cases n with
          | zero => omega
          | succ n =>
            unfold kesSpin at hO
            obtain ⟨⟨a0, a1, a2, a3, a4, a5, a6⟩, ⟨e0, e1, e2, e3, e4, e5, e6⟩, ⟨f0, f1, f2, f3, f4, f5, f6⟩, ⟨g0, g1, g2, g3, g4, g5, g6⟩⟩ := hl.four
            go_wp2_with fail
            clear hcc
            refine rstepL hO hK (reg_read_r B p false S2 q0 me _ hP hq0 ⟨hm0, by omega⟩) ?_
            clear hO hK hP
            intro v o3 S3 w4 hlf hlt hP hk hK hO
            replace hl := hl.keep hk
            clear a0 a1 a2 a3 a4 a5 a6 e0 e1 e2 e3 e4 e5 e6 f0 f1 f2 f3 f4 f5 f6 g0 g1 g2 g3 g4 g5 g6 hk
            obtain ⟨_, _, _, _, _, hcc⟩ := hP.cell
            by_cases hv : v = 0
            · rw [if_pos hv] at hO
              subst hv
              have hf : R (.returned (encU ())) w4 := hO.ret hP hK
              clear hO hP hK hl hcc
              go_wp2_with fail
              first | exact hf | (refine bodyPost_ret (results_none rfl _ _ _) rfl ?_; exact hf)
            · rw [if_neg hv] at hO
              have hv2 : (v == 0) = false := by rw [beq_eq_false_iff_ne]; exact hv
              clear hv
              cases o3 with
              | true =>
                have hlw2 := Lib.hid hP.leftR
                have hOh := Lib.hid hO
                clear hO
                go_wp2_with fail
                refine ⟨⟨n, true, S3, hP, hK, hl, hOh.out.any _, fun h => by cases h⟩, ?_⟩
                rw [hlw.out, hlw2.out]
                simp
                omega
              | false =>
                replace hlt := (hlt rfl).2 (asks_regR _ _ ht1)
                obtain ⟨⟨a0, a1, a2, a3, a4, a5, a6⟩, ⟨e0, e1, e2, e3, e4, e5, e6⟩, ⟨f0, f1, f2, f3, f4, f5, f6⟩, ⟨g0, g1, g2, g3, g4, g5, g6⟩⟩ := hl.four
                go_wp2_with fail
                clear hcc
                refine rstepL hO hK (reg_read_r B p false S3 r0 me _ hP hr0 ⟨hm0, by omega⟩) ?_
                clear hO hK hP
                intro y o4 S4 w5 hlf4 _ hP hk hK hO
                replace hl := hl.keep hk
                clear a0 a1 a2 a3 a4 a5 a6 e0 e1 e2 e3 e4 e5 e6 f0 f1 f2 f3 f4 f5 f6 g0 g1 g2 g3 g4 g5 g6 hk
                go_wp2_with fail
                refine (bit_r y _).mono ?_
                rintro e w' ⟨rfl, rfl⟩
                by_cases hy : kesFree 1 t y = true
                · rw [if_pos hy] at hO
                  have hy2 : (bitM y == t) = true := by unfold kesFree at hy; simpa using hy
                  have hf : R (.returned (encU ())) w5 := hO.ret hP hK
                  clear hO hP hK hl hy
                  go_wp2_with fail
                  first | exact hf | (refine bodyPost_ret (results_none rfl _ _ _) rfl ?_; exact hf)
                · rw [if_neg hy] at hO
                  have hy2 : (bitM y == t) = false := by unfold kesFree at hy; simpa using hy
                  have hlw2 := Lib.hid hP.leftR
                  have hOh := Lib.hid hO
                  clear hO hy
                  go_wp2_with fail
                  refine ⟨⟨n, o4, S4, hP, hK, hl, hOh, fun _ => by omega⟩, ?_⟩
                  rw [hlw.out, hlw2.out]
                  simp only [Bool.false_eq_true, if_false]
                  split <;> omega
end Go.Proofs.YtbaajjkopdjbgaaGreat
/-
  Kessels: entering and leaving, both sides.
-/
namespace Kv
/-- Entering on a side, and leaving. -/
def kesM (n : Nat) (q0 q1 r0 r1 : Reg) (side me : Int) : Prog Unit := if bitM side = 1 then kesEnter n q1 q0 r1 r0 1 me else kesEnter n q0 q1 r0 r1 0 me
def kesL (q0 q1 : Reg) (side me : Int) : Prog Unit := regW (if bitM side = 1 then q1 else q0) me 0
theorem bitM_or (x : Int) : bitM x = 0 ∨ bitM x = 1 := by unfold bitM; split <;> simp
end Kv
namespace Go.Proofs.YtbaajjkopdjbgaaGreat
open Go.RowKit Kv
theorem kes_enter_p (B p N : Nat) (S : TS) (q0 q1 r0 r1 : Reg) (side me : Int) (b c : Nat) (w : World) (h : Plays B w p S) (hl : RegsAt [2, 3, 4] w p b [q0, q1, r0, r1]) (hq0 : q0.ok) (hq1 : q1.ok) (hr0 : r0.ok) (hr1 : r1.ok)
    (hm0 : 0 ≤ me) (hm1 : me < q0.n) (hm2 : me < q1.n) (hm3 : me < r0.n) (hm4 : me < r1.n) (ht1 : q0.told me) (ht2 : q1.told me) (ht3 : r0.told me) (ht4 : r1.told me) (hN : S.left < N) (hc4 : 4 ≤ c) (hc5 : c ≤ 9223372036854775807) :
    Calls Tryz.prog 233 #[.pointer (some ⟨p, 0, none⟩), .slice (some ⟨b, 0, none⟩) 4 c, .int .i64 side, .int .i64 me] w (Post encU B p w ((kesM N q0 q1 r0 r1 side me).run S)) := by
  unfold kesM
  rcases bitM_or side with hs | hs
  · rw [if_neg (by omega)]
    exact kes_enter_p0 B p N S q0 q1 r0 r1 side me b c w h hl hq0 hq1 hr0 hr1 hm0 hm1 hm2 hm3 hm4 ht2 ht4 hN hs hc4 hc5
  · rw [if_pos hs]
    exact kes_enter_p1 B p N S q0 q1 r0 r1 side me b c w h hl hq0 hq1 hr0 hr1 hm0 hm1 hm2 hm3 hm4 ht1 ht3 hN hs hc4 hc5
theorem kes_enter_r (B p N : Nat) (o : Bool) (S : TS) (q0 q1 r0 r1 : Reg) (side me : Int) (b c : Nat) (w : World) (h : RAt B w p o S) (hl : RegsAt [3, 4, 5] w p b [q0, q1, r0, r1]) (hq0 : q0.ok) (hq1 : q1.ok) (hr0 : r0.ok) (hr1 : r1.ok)
    (hm0 : 0 ≤ me) (hm1 : me < q0.n) (hm2 : me < q1.n) (hm3 : me < r0.n) (hm4 : me < r1.n) (ht1 : q0.told me) (ht2 : q1.told me) (ht3 : r0.told me) (ht4 : r1.told me) (hN : S.left < N) :
    Calls Tryz.prog 265 #[.pointer (some ⟨p, 0, none⟩), .slice (some ⟨b, 0, none⟩) 4 c, .int .i64 side, .int .i64 me] w (RPost encU B p w (kesM N q0 q1 r0 r1 side me) o S) := by
  unfold kesM
  by_cases hs : side = 0
  · have hb : bitM side = 0 := by unfold bitM; rw [if_pos hs]
    rw [if_neg (by omega)]
    have hz := kes_zero_r B p N o S q0 q1 r0 r1 me b c w h hl hq0 hq1 hr0 hr1 hm0 hm1 hm2 hm3 hm4 ht2 ht4 hN
    generalize hR : RPost encU B p w (kesEnter N q0 q1 r0 r1 0 me) o S = R
    have hO : ROwes R encU B p w (kesEnter N q0 q1 r0 r1 0 me) o S := hR ▸ rowes _ _ _ _ _ _ _
    clear hR
    clear hb
    go_enter Tryz.func265, Tryz.ntmps265
    go_wp2_with fail
    refine hz.mono fun e w' hp => ?_
    have hf := hO e w' hp
    obtain ⟨a, o', S', rfl, _⟩ := hp
    clear hO hz h hl
    go_wp2_with fail
    first | exact hf | (refine bodyPost_ret (results_none rfl _ _ _) rfl ?_; exact hf)
  · have hb : bitM side = 1 := by unfold bitM; rw [if_neg hs]
    have hs2 : (side == 0) = false := by rw [beq_eq_false_iff_ne]; exact hs
    rw [if_pos hb]
    have hz := kes_one_r B p N o S q0 q1 r0 r1 me b c w h hl hq0 hq1 hr0 hr1 hm0 hm1 hm2 hm3 hm4 ht1 ht3 hN
    generalize hR : RPost encU B p w (kesEnter N q1 q0 r1 r0 1 me) o S = R
    have hO : ROwes R encU B p w (kesEnter N q1 q0 r1 r0 1 me) o S := hR ▸ rowes _ _ _ _ _ _ _
    clear hR
    clear hb hs
    go_enter Tryz.func265, Tryz.ntmps265
    go_wp2_with fail
    refine hz.mono fun e w' hp => ?_
    have hf := hO e w' hp
    obtain ⟨a, o', S', rfl, _⟩ := hp
    clear hO hz h hl
    go_wp2_with fail
    first | exact hf | (refine bodyPost_ret (results_none rfl _ _ _) rfl ?_; exact hf)
theorem kes_leave_r (B p : Nat) (o : Bool) (S : TS) (q0 q1 r0 r1 : Reg) (side me : Int) (b c : Nat) (w : World) (h : RAt B w p o S) (hl : RegsAt [3, 4, 5] w p b [q0, q1, r0, r1]) (hq0 : q0.ok) (hq1 : q1.ok)
    (hm0 : 0 ≤ me) (hm1 : me < q0.n) (hm2 : me < q1.n) :
    Calls Tryz.prog 271 #[.pointer (some ⟨p, 0, none⟩), .slice (some ⟨b, 0, none⟩) 4 c, .int .i64 side, .int .i64 me] w (RPost encU B p w (kesL q0 q1 side me) o S) := by
  have hb := bit_r side w
  unfold kesL
  obtain ⟨⟨a0, a1, a2, a3, a4, a5, a6⟩, ⟨e0, e1, e2, e3, e4, e5, e6⟩, -, -⟩ := hl.four
  rcases bitM_or side with hs | hs
  · rw [hs] at hb ⊢
    rw [if_neg (by omega)]
    have hz := reg_write_r B p o S q0 me 0 w h hq0 ⟨hm0, hm1⟩
    generalize hR : RPost encU B p w (regW q0 me 0) o S = R
    have hO : ROwes R encU B p w (regW q0 me 0) o S := hR ▸ rowes _ _ _ _ _ _ _
    clear hR
    go_enter Tryz.func271, Tryz.ntmps271
    go_wp2_with fail
    refine hb.mono ?_
    rintro e w' ⟨rfl, rfl⟩
    go_wp2_with fail
    clear a0 a1 a2 a3 a4 a5 a6 e0 e1 e2 e3 e4 e5 e6 hl hb
    refine hz.mono fun e w' hp => ?_
    have hf := hO e w' hp
    obtain ⟨a, o', S', rfl, _⟩ := hp
    clear hO hz h
    go_wp2_with fail
    first | exact hf | (refine bodyPost_ret (results_none rfl _ _ _) rfl ?_; exact hf)
  · rw [hs] at hb ⊢
    rw [if_pos rfl]
    have hz := reg_write_r B p o S q1 me 0 w h hq1 ⟨hm0, hm2⟩
    generalize hR : RPost encU B p w (regW q1 me 0) o S = R
    have hO : ROwes R encU B p w (regW q1 me 0) o S := hR ▸ rowes _ _ _ _ _ _ _
    clear hR
    go_enter Tryz.func271, Tryz.ntmps271
    go_wp2_with fail
    refine hb.mono ?_
    rintro e w' ⟨rfl, rfl⟩
    go_wp2_with fail
    clear a0 a1 a2 a3 a4 a5 a6 e0 e1 e2 e3 e4 e5 e6 hl hb
    refine hz.mono fun e w' hp => ?_
    have hf := hO e w' hp
    obtain ⟨a, o', S', rfl, _⟩ := hp
    clear hO hz h
    go_wp2_with fail
    first | exact hf | (refine bodyPost_ret (results_none rfl _ _ _) rfl ?_; exact hf)
end Go.Proofs.YtbaajjkopdjbgaaGreat
/-
  Peterson's lock of two sides: entering and leaving, by the program.
-/
namespace Kv
/-- Spinning, so many rounds at most. -/
def arbSpin (qo rt : Reg) (s me : Int) : Nat → Prog Unit
  | 0 => .ret ()
  | n + 1 => (regR qo me).bind fun x => if x = 0 then .ret () else (regR rt me).bind fun y => if y = s then arbSpin qo rt s me n else .ret ()
def arbEnter (n : Nat) (qs qo rt : Reg) (s me : Int) : Prog Unit := (regW qs me 1).bind fun _ => (regW rt me s).bind fun _ => arbSpin qo rt s me n
def arbM (n : Nat) (q0 q1 rt : Reg) (side me : Int) : Prog Unit := if bitM side = 1 then arbEnter n q1 q0 rt 1 me else arbEnter n q0 q1 rt 0 me
theorem arbSpin_succ (qo rt : Reg) (s me : Int) (n : Nat) : arbSpin qo rt s me (n + 1) = (regR qo me).bind fun x => if x = 0 then .ret () else (regR rt me).bind fun y => if y = s then arbSpin qo rt s me n else .ret () := rfl
end Kv
namespace Go.Proofs.YtbaajjkopdjbgaaGreat
open Go.RowKit Kv
theorem RegsAt.three {ix : List Nat} {p b : Nat} {w : World} {x y z : Reg} (h : RegsAt ix w p b [x, y, z]) : RegCells w b 0 x ∧ RegCells w b 7 y ∧ RegCells w b 14 z :=
  ⟨⟨h.cells 0 _ rfl, h.cells 1 _ rfl, h.cells 2 _ rfl, h.cells 3 _ rfl, h.cells 4 _ rfl, h.cells 5 _ rfl, h.cells 6 _ rfl⟩, ⟨h.cells 7 _ rfl, h.cells 8 _ rfl, h.cells 9 _ rfl, h.cells 10 _ rfl, h.cells 11 _ rfl, h.cells 12 _ rfl, h.cells 13 _ rfl⟩,
    ⟨h.cells 14 _ rfl, h.cells 15 _ rfl, h.cells 16 _ rfl, h.cells 17 _ rfl, h.cells 18 _ rfl, h.cells 19 _ rfl, h.cells 20 _ rfl⟩⟩
theorem abit_p (x : Int) (w : World) : Calls Tryz.prog 297 #[.int .i64 x] w fun e w' => e = .returned (.int .i64 (bitM x)) ∧ w = w' := by
  unfold bitM
  by_cases h : x = 0
  · rw [if_pos h]
    go_enter Tryz.func297, Tryz.ntmps297
    go_wp2_with fail
    go_ret
    exact ⟨rfl, rfl⟩
  · rw [if_neg h]
    have hb : (x != 0) = true := by rw [bne_iff_ne]; exact h
    go_enter Tryz.func297, Tryz.ntmps297
    go_wp2_with fail
    go_ret
    exact ⟨rfl, rfl⟩
theorem two_held {B p b : Nat} {w : World} {S : TS} {rs : List Reg} (h : Plays B w p S) (hl : RegsAt [2, 3, 4] w p b rs) (o1 o2 : Obj) :
    HeldP ((w.alloc o1).alloc o2).drew p w.heap.size o1 ∧ HeldP ((w.alloc o1).alloc o2).drew p (w.heap.size + 1) o2 ∧ Plays B ((w.alloc o1).alloc o2).drew p S ∧ KeepP B p w ((w.alloc o1).alloc o2).drew ∧ RegsAt [2, 3, 4] ((w.alloc o1).alloc o2).drew p b rs := by
  have h2 := (h.alloc o1).held o2
  rw [World.size_alloc] at h2
  exact ⟨((h.held o1).alloc o2 (h.alloc o1).lt).drew, h2.drew, ((h.alloc o1).alloc o2).drew, ((Keep.alloc o1 h.lt h.le).trans (Keep.alloc o2 (h.alloc o1).lt (h.alloc o1).le)).drew, hl.extL ((((Ext.refl w).alloc o1).alloc o2).drew) h.lt⟩
set_option maxRecDepth 100000 in
set_option maxHeartbeats 1000000 in
theorem arb_enter_p0 (B p N : Nat) (S : TS) (q0 q1 rt : Reg) (side me : Int) (b c : Nat) (w : World) (h : Plays B w p S) (hl : RegsAt [2, 3, 4] w p b [q0, q1, rt]) (hq0 : q0.ok) (hq1 : q1.ok) (hrt : rt.ok)
    (hm0 : 0 ≤ me) (hm1 : me < q0.n) (hm2 : me < q1.n) (hm3 : me < rt.n) (ht1 : q1.told me) (hN : S.left < N) (hs : bitM side = 0) :
    Calls Tryz.prog 236 #[.pointer (some ⟨p, 0, none⟩), .slice (some ⟨b, 0, none⟩) 3 c, .int .i64 side, .int .i64 me] w (Post encU B p w ((arbEnter N q0 q1 rt 0 me).run S)) := by
  generalize hR : Post encU B p w ((arbEnter N q0 q1 rt 0 me).run S) = R
  have hO : Owes R encU B p w ((arbEnter N q0 q1 rt 0 me).run S) := hR ▸ owes _ _ _ _ _
  clear hR
  have hP := h
  clear h
  unfold arbEnter at hO
  have hb := abit_p side
  rw [hs] at hb
  clear hs
  have hS : ∀ w', RegsAt [2, 3, 4] w' p b [q0, q1, rt] → ((w'.cell? ⟨b, 0, none⟩ = some (.int .i64 q0.kind) ∧ w'.cell? ⟨b, 1, none⟩ = some (.int .i64 q0.base) ∧ w'.cell? ⟨b, 2, none⟩ = some (.int .i64 q0.loc) ∧ w'.cell? ⟨b, 3, none⟩ = some (.int .i64 q0.n) ∧ w'.cell? ⟨b, 4, none⟩ = some (.int .i64 q0.wr) ∧ w'.cell? ⟨b, 5, none⟩ = some (.int .i64 q0.rd) ∧ w'.cell? ⟨b, 6, none⟩ = some (.int .i64 q0.top)) ∧ (w'.cell? ⟨b, 7, none⟩ = some (.int .i64 q1.kind) ∧ w'.cell? ⟨b, 8, none⟩ = some (.int .i64 q1.base) ∧ w'.cell? ⟨b, 9, none⟩ = some (.int .i64 q1.loc) ∧ w'.cell? ⟨b, 10, none⟩ = some (.int .i64 q1.n) ∧ w'.cell? ⟨b, 11, none⟩ = some (.int .i64 q1.wr) ∧ w'.cell? ⟨b, 12, none⟩ = some (.int .i64 q1.rd) ∧ w'.cell? ⟨b, 13, none⟩ = some (.int .i64 q1.top)) ∧ (w'.cell? ⟨b, 14, none⟩ = some (.int .i64 rt.kind) ∧ w'.cell? ⟨b, 15, none⟩ = some (.int .i64 rt.base) ∧ w'.cell? ⟨b, 16, none⟩ = some (.int .i64 rt.loc) ∧ w'.cell? ⟨b, 17, none⟩ = some (.int .i64 rt.n) ∧ w'.cell? ⟨b, 18, none⟩ = some (.int .i64 rt.wr) ∧ w'.cell? ⟨b, 19, none⟩ = some (.int .i64 rt.rd) ∧ w'.cell? ⟨b, 20, none⟩ = some (.int .i64 rt.top))) := fun w' y => by
    obtain ⟨⟨a0, a1, a2, a3, a4, a5, a6⟩, ⟨e0, e1, e2, e3, e4, e5, e6⟩, ⟨f0, f1, f2, f3, f4, f5, f6⟩⟩ := y.three
    exact ⟨⟨a0, a1, a2, a3, a4, a5, a6⟩, ⟨e0, e1, e2, e3, e4, e5, e6⟩, ⟨f0, f1, f2, f3, f4, f5, f6⟩⟩
  go_enter Tryz.func236, Tryz.ntmps236
  go_wp2_with fail
  have hOh := Lib.hid hO
  have hbh := Lib.hid hb
  clear hO hb
  go_upto_region 1 with fail
  go_cut [8, 9] (fun s8 s9 wx => ∃ (x y : Nat), s8 = .pointer (some ⟨x, 0, none⟩) ∧ s9 = .pointer (some ⟨y, 0, none⟩) ∧ HeldP wx p x (.cells #[.int .i64 q0.kind, .int .i64 q0.base, .int .i64 q0.loc, .int .i64 q0.n, .int .i64 q0.wr, .int .i64 q0.rd, .int .i64 q0.top, .int .i64 q1.kind, .int .i64 q1.base, .int .i64 q1.loc, .int .i64 q1.n, .int .i64 q1.wr, .int .i64 q1.rd, .int .i64 q1.top] 211) ∧ HeldP wx p y (.cells #[.int .i64 rt.kind, .int .i64 rt.base, .int .i64 rt.loc, .int .i64 rt.n, .int .i64 rt.wr, .int .i64 rt.rd, .int .i64 rt.top] 67) ∧ Plays B wx p S ∧ KeepP B p w wx ∧ RegsAt [2, 3, 4] wx p b [q0, q1, rt])
  case first =>
    have hl2 := hl.extL (Ext.refl w).drew hP.lt
    obtain ⟨⟨a0, a1, a2, a3, a4, a5, a6⟩, ⟨e0, e1, e2, e3, e4, e5, e6⟩, ⟨f0, f1, f2, f3, f4, f5, f6⟩⟩ := hl.three
    go_region_held2 (fun w' => ((w'.cell? ⟨b, 0, none⟩ = some (.int .i64 q0.kind) ∧ w'.cell? ⟨b, 1, none⟩ = some (.int .i64 q0.base) ∧ w'.cell? ⟨b, 2, none⟩ = some (.int .i64 q0.loc) ∧ w'.cell? ⟨b, 3, none⟩ = some (.int .i64 q0.n) ∧ w'.cell? ⟨b, 4, none⟩ = some (.int .i64 q0.wr) ∧ w'.cell? ⟨b, 5, none⟩ = some (.int .i64 q0.rd) ∧ w'.cell? ⟨b, 6, none⟩ = some (.int .i64 q0.top)) ∧ (w'.cell? ⟨b, 7, none⟩ = some (.int .i64 q1.kind) ∧ w'.cell? ⟨b, 8, none⟩ = some (.int .i64 q1.base) ∧ w'.cell? ⟨b, 9, none⟩ = some (.int .i64 q1.loc) ∧ w'.cell? ⟨b, 10, none⟩ = some (.int .i64 q1.n) ∧ w'.cell? ⟨b, 11, none⟩ = some (.int .i64 q1.wr) ∧ w'.cell? ⟨b, 12, none⟩ = some (.int .i64 q1.rd) ∧ w'.cell? ⟨b, 13, none⟩ = some (.int .i64 q1.top)) ∧ (w'.cell? ⟨b, 14, none⟩ = some (.int .i64 rt.kind) ∧ w'.cell? ⟨b, 15, none⟩ = some (.int .i64 rt.base) ∧ w'.cell? ⟨b, 16, none⟩ = some (.int .i64 rt.loc) ∧ w'.cell? ⟨b, 17, none⟩ = some (.int .i64 rt.n) ∧ w'.cell? ⟨b, 18, none⟩ = some (.int .i64 rt.wr) ∧ w'.cell? ⟨b, 19, none⟩ = some (.int .i64 rt.rd) ∧ w'.cell? ⟨b, 20, none⟩ = some (.int .i64 rt.top)))) (first | with_reducible exact hS _ hl2 | go_keep) (fail)
    · rename_i hh
      clear hh
      obtain ⟨b1, b2, hP2, hK2, hl3⟩ := two_held hP hl (.cells #[.int .i64 q0.kind, .int .i64 q0.base, .int .i64 q0.loc, .int .i64 q0.n, .int .i64 q0.wr, .int .i64 q0.rd, .int .i64 q0.top, .int .i64 q1.kind, .int .i64 q1.base, .int .i64 q1.loc, .int .i64 q1.n, .int .i64 q1.wr, .int .i64 q1.rd, .int .i64 q1.top] 211) (.cells #[.int .i64 rt.kind, .int .i64 rt.base, .int .i64 rt.loc, .int .i64 rt.n, .int .i64 rt.wr, .int .i64 rt.rd, .int .i64 rt.top] 67)
      clear hS hl2 hl hP a0 a1 a2 a3 a4 a5 a6 e0 e1 e2 e3 e4 e5 e6 f0 f1 f2 f3 f4 f5 f6
      go_wp2_with fail
      go_meet
      exact ⟨_, _, rfl, rfl, b1, b2, hP2, hK2, hl3⟩
    · rename_i hh
      clear hh
      obtain ⟨b2, b1, hP2, hK2, hl3⟩ := two_held hP hl (.cells #[.int .i64 rt.kind, .int .i64 rt.base, .int .i64 rt.loc, .int .i64 rt.n, .int .i64 rt.wr, .int .i64 rt.rd, .int .i64 rt.top] 67) (.cells #[.int .i64 q0.kind, .int .i64 q0.base, .int .i64 q0.loc, .int .i64 q0.n, .int .i64 q0.wr, .int .i64 q0.rd, .int .i64 q0.top, .int .i64 q1.kind, .int .i64 q1.base, .int .i64 q1.loc, .int .i64 q1.n, .int .i64 q1.wr, .int .i64 q1.rd, .int .i64 q1.top] 211)
      clear hS hl2 hl hP a0 a1 a2 a3 a4 a5 a6 e0 e1 e2 e3 e4 e5 e6 f0 f1 f2 f3 f4 f5 f6
      go_wp2_with fail
      go_meet
      exact ⟨_, _, rfl, rfl, b1, b2, hP2, hK2, hl3⟩
  case rest =>
    clear hS hl hP
    obtain ⟨x, y, rfl, rfl, bx, bt, hP, hK, -⟩ := hcut
    go_wp2_with fail
    refine (hbh.out _).mono ?_
    rintro e w' ⟨rfl, rfl⟩
    have c_bx := bx.cells
    clear hbh
    have hPo := hP
    have bn := hP.held (.cells #[.int .i64 q1.kind, .int .i64 q1.base, .int .i64 q1.loc, .int .i64 q1.n, .int .i64 q1.wr, .int .i64 q1.rd, .int .i64 q1.top] 67)
    have hKn := hK.trans (Keep.alloc (.cells #[.int .i64 q1.kind, .int .i64 q1.base, .int .i64 q1.loc, .int .i64 q1.n, .int .i64 q1.wr, .int .i64 q1.rd, .int .i64 q1.top] 67) hP.lt hP.le)
    have hPn := hP.alloc (.cells #[.int .i64 q1.kind, .int .i64 q1.base, .int .i64 q1.loc, .int .i64 q1.n, .int .i64 q1.wr, .int .i64 q1.rd, .int .i64 q1.top] 67)
    have bxn := bx.alloc (.cells #[.int .i64 q1.kind, .int .i64 q1.base, .int .i64 q1.loc, .int .i64 q1.n, .int .i64 q1.wr, .int .i64 q1.rd, .int .i64 q1.top] 67) hP.lt
    have btn := bt.alloc (.cells #[.int .i64 q1.kind, .int .i64 q1.base, .int .i64 q1.loc, .int .i64 q1.n, .int .i64 q1.wr, .int .i64 q1.rd, .int .i64 q1.top] 67) hP.lt
    clear hP hK bx bt hPo
    have c_bxn := bxn.cells
    go_wp2_with fail
    clear c_bx c_bxn
    generalize hzn : wc.heap.size = z at *
    generalize wc.alloc _ = W at *
    clear hzn
    have hP := hPn
    have hK := hKn
    have bx := bxn
    have bt := btn
    clear hPn hKn bxn btn
    replace hO := hOh.out
    clear hOh
    refine tstepL hO hK (reg_write_p B p S q0 me 1 _ hP hq0 ⟨hm0, by omega⟩) (fun _ h => ⟨rfl, h⟩) ?_
    clear hO hK hP
    intro u S2 w2 hlf _ hP hk hK hO
    replace hN := Nat.lt_of_le_of_lt hlf hN
    replace bn := bn.keep hk
    replace bt := bt.keep hk
    have c_bt := bt.cells
    have hOh := Lib.hid hO
    clear hk hlf bx hO
    go_wp2_with fail
    replace hO := hOh.out
    clear hOh c_bt
    refine tstepL hO hK (reg_write_p B p S2 rt me 0 _ hP hrt ⟨hm0, hm3⟩) (fun _ h => ⟨rfl, h⟩) ?_
    clear hO hK hP
    intro u S3 w3 hlf _ hP hk hK hO
    replace hN := Nat.lt_of_le_of_lt hlf hN
    replace bn := bn.keep hk
    replace bt := bt.keep hk
    have hOh := Lib.hid hO
    clear hk hlf hO
    go_wp2_with fail
    go_loopw [] (fun wr => ∃ (n : Nat) (S4 : TS), Plays B wr p S4 ∧ KeepP B p w wr ∧ HeldP wr p z (.cells #[.int .i64 q1.kind, .int .i64 q1.base, .int .i64 q1.loc, .int .i64 q1.n, .int .i64 q1.wr, .int .i64 q1.rd, .int .i64 q1.top] 67) ∧ HeldP wr p y (.cells #[.int .i64 rt.kind, .int .i64 rt.base, .int .i64 rt.loc, .int .i64 rt.n, .int .i64 rt.wr, .int .i64 rt.rd, .int .i64 rt.top] 67) ∧ Hid (Owes R encU B p w ((arbSpin q1 rt 0 me n).run S4)) ∧ S4.left < n) (fun wr => leftW 1 3 wr p)
    case atStart => exact ⟨N, S3, hP, hK, bn, bt, hOh, hN⟩
    case round =>
      clear hP hK bn bt hOh hN
      obtain ⟨n, S4, hP, hK, bn, bt, hO, hN⟩ := hrel
      replace hO := hO.out
      have hlw := Lib.hid hP.left
      cases n with
      | zero => omega
      | succ n =>
        rw [arbSpin_succ] at hO
        have c_bn := bn.cells
        have hOh := Lib.hid hO
        clear hO
        go_wp2_with fail
        replace hO := hOh.out
        clear hOh c_bn
        refine tstepL hO hK (reg_read_p B p S4 q1 me _ hP hq1 ⟨hm0, by omega⟩) (fun _ h => ⟨rfl, h⟩) ?_
        clear hO hK hP
        intro v S5 w4 _ hlf hP hk hK hO
        replace hlf := hlf (asks_regR _ _ ht1)
        replace bn := bn.keep hk
        replace bt := bt.keep hk
        clear hk
        by_cases hv : v = 0
        · rw [if_pos hv] at hO
          subst hv
          have hf : R (.returned (encU ())) w4 := hO.done hP hK
          clear hO hP hK bn bt
          go_wp2_with fail
          first | exact hf | (refine bodyPost_ret (results_none rfl _ _ _) rfl ?_; exact hf)
        · rw [if_neg hv] at hO
          have hv2 : (v == 0) = false := by rw [beq_eq_false_iff_ne]; exact hv
          have c_bt := bt.cells
          have hOh := Lib.hid hO
          clear hv hO
          go_wp2_with fail
          replace hO := hOh.out
          clear hOh c_bt
          refine tstepL hO hK (reg_read_p B p S5 rt me _ hP hrt ⟨hm0, hm3⟩) (fun _ h => ⟨rfl, h⟩) ?_
          clear hO hK hP
          intro y0 S6 w5 hlf2 _ hP hk hK hO
          replace bn := bn.keep hk
          replace bt := bt.keep hk
          clear hk
          by_cases hy : y0 = 0
          · rw [if_pos hy] at hO
            have hy2 : (y0 != 0) = false := by simpa using hy
            have c_bn := bn.cells
            have hOh := Lib.hid hO
            clear hy hO
            go_wp2_with fail
            refine (cells_pm q1 me _ hq1 ht1 ⟨hm0, by omega⟩).mono ?_
            rintro e w6 ⟨cc, rfl, hcc, hx⟩
            replace bn := bn.ext hx hP.lt
            replace bt := bt.ext hx hP.lt
            replace hK := hK.trans (Keep.of_ext hx hP.lt hP.le)
            replace hP := hP.ext hx
            clear hx c_bn
            have hlw2 := Lib.hid hP.left
            go_wp2_with fail
            refine ⟨⟨n, S6, hP, hK, bn, bt, hOh, by omega⟩, ?_⟩
            rw [hlw.out, hlw2.out]
            omega
          · rw [if_neg hy] at hO
            have hy2 : (y0 != 0) = true := by simpa using hy
            have hf : R (.returned (encU ())) w5 := hO.done hP hK
            clear hO hP hK bn bt hy
            go_wp2_with fail
            first | exact hf | (refine bodyPost_ret (results_none rfl _ _ _) rfl ?_; exact hf)
set_option maxRecDepth 100000 in
set_option maxHeartbeats 1000000 in
theorem arb_enter_p1 (B p N : Nat) (S : TS) (q0 q1 rt : Reg) (side me : Int) (b c : Nat) (w : World) (h : Plays B w p S) (hl : RegsAt [2, 3, 4] w p b [q0, q1, rt]) (hq0 : q0.ok) (hq1 : q1.ok) (hrt : rt.ok)
    (hm0 : 0 ≤ me) (hm1 : me < q0.n) (hm2 : me < q1.n) (hm3 : me < rt.n) (ht1 : q0.told me) (hN : S.left < N) (hs : bitM side = 1) :
    Calls Tryz.prog 236 #[.pointer (some ⟨p, 0, none⟩), .slice (some ⟨b, 0, none⟩) 3 c, .int .i64 side, .int .i64 me] w (Post encU B p w ((arbEnter N q1 q0 rt 1 me).run S)) := by
  generalize hR : Post encU B p w ((arbEnter N q1 q0 rt 1 me).run S) = R
  have hO : Owes R encU B p w ((arbEnter N q1 q0 rt 1 me).run S) := hR ▸ owes _ _ _ _ _
  clear hR
  have hP := h
  clear h
  unfold arbEnter at hO
  have hb := abit_p side
  rw [hs] at hb
  clear hs
  have hS : ∀ w', RegsAt [2, 3, 4] w' p b [q0, q1, rt] → ((w'.cell? ⟨b, 0, none⟩ = some (.int .i64 q0.kind) ∧ w'.cell? ⟨b, 1, none⟩ = some (.int .i64 q0.base) ∧ w'.cell? ⟨b, 2, none⟩ = some (.int .i64 q0.loc) ∧ w'.cell? ⟨b, 3, none⟩ = some (.int .i64 q0.n) ∧ w'.cell? ⟨b, 4, none⟩ = some (.int .i64 q0.wr) ∧ w'.cell? ⟨b, 5, none⟩ = some (.int .i64 q0.rd) ∧ w'.cell? ⟨b, 6, none⟩ = some (.int .i64 q0.top)) ∧ (w'.cell? ⟨b, 7, none⟩ = some (.int .i64 q1.kind) ∧ w'.cell? ⟨b, 8, none⟩ = some (.int .i64 q1.base) ∧ w'.cell? ⟨b, 9, none⟩ = some (.int .i64 q1.loc) ∧ w'.cell? ⟨b, 10, none⟩ = some (.int .i64 q1.n) ∧ w'.cell? ⟨b, 11, none⟩ = some (.int .i64 q1.wr) ∧ w'.cell? ⟨b, 12, none⟩ = some (.int .i64 q1.rd) ∧ w'.cell? ⟨b, 13, none⟩ = some (.int .i64 q1.top)) ∧ (w'.cell? ⟨b, 14, none⟩ = some (.int .i64 rt.kind) ∧ w'.cell? ⟨b, 15, none⟩ = some (.int .i64 rt.base) ∧ w'.cell? ⟨b, 16, none⟩ = some (.int .i64 rt.loc) ∧ w'.cell? ⟨b, 17, none⟩ = some (.int .i64 rt.n) ∧ w'.cell? ⟨b, 18, none⟩ = some (.int .i64 rt.wr) ∧ w'.cell? ⟨b, 19, none⟩ = some (.int .i64 rt.rd) ∧ w'.cell? ⟨b, 20, none⟩ = some (.int .i64 rt.top))) := fun w' y => by
    obtain ⟨⟨a0, a1, a2, a3, a4, a5, a6⟩, ⟨e0, e1, e2, e3, e4, e5, e6⟩, ⟨f0, f1, f2, f3, f4, f5, f6⟩⟩ := y.three
    exact ⟨⟨a0, a1, a2, a3, a4, a5, a6⟩, ⟨e0, e1, e2, e3, e4, e5, e6⟩, ⟨f0, f1, f2, f3, f4, f5, f6⟩⟩
  go_enter Tryz.func236, Tryz.ntmps236
  go_wp2_with fail
  have hOh := Lib.hid hO
  have hbh := Lib.hid hb
  clear hO hb
  go_upto_region 1 with fail
  go_cut [8, 9] (fun s8 s9 wx => ∃ (x y : Nat), s8 = .pointer (some ⟨x, 0, none⟩) ∧ s9 = .pointer (some ⟨y, 0, none⟩) ∧ HeldP wx p x (.cells #[.int .i64 q0.kind, .int .i64 q0.base, .int .i64 q0.loc, .int .i64 q0.n, .int .i64 q0.wr, .int .i64 q0.rd, .int .i64 q0.top, .int .i64 q1.kind, .int .i64 q1.base, .int .i64 q1.loc, .int .i64 q1.n, .int .i64 q1.wr, .int .i64 q1.rd, .int .i64 q1.top] 211) ∧ HeldP wx p y (.cells #[.int .i64 rt.kind, .int .i64 rt.base, .int .i64 rt.loc, .int .i64 rt.n, .int .i64 rt.wr, .int .i64 rt.rd, .int .i64 rt.top] 67) ∧ Plays B wx p S ∧ KeepP B p w wx ∧ RegsAt [2, 3, 4] wx p b [q0, q1, rt])
  case first =>
    have hl2 := hl.extL (Ext.refl w).drew hP.lt
    obtain ⟨⟨a0, a1, a2, a3, a4, a5, a6⟩, ⟨e0, e1, e2, e3, e4, e5, e6⟩, ⟨f0, f1, f2, f3, f4, f5, f6⟩⟩ := hl.three
    go_region_held2 (fun w' => ((w'.cell? ⟨b, 0, none⟩ = some (.int .i64 q0.kind) ∧ w'.cell? ⟨b, 1, none⟩ = some (.int .i64 q0.base) ∧ w'.cell? ⟨b, 2, none⟩ = some (.int .i64 q0.loc) ∧ w'.cell? ⟨b, 3, none⟩ = some (.int .i64 q0.n) ∧ w'.cell? ⟨b, 4, none⟩ = some (.int .i64 q0.wr) ∧ w'.cell? ⟨b, 5, none⟩ = some (.int .i64 q0.rd) ∧ w'.cell? ⟨b, 6, none⟩ = some (.int .i64 q0.top)) ∧ (w'.cell? ⟨b, 7, none⟩ = some (.int .i64 q1.kind) ∧ w'.cell? ⟨b, 8, none⟩ = some (.int .i64 q1.base) ∧ w'.cell? ⟨b, 9, none⟩ = some (.int .i64 q1.loc) ∧ w'.cell? ⟨b, 10, none⟩ = some (.int .i64 q1.n) ∧ w'.cell? ⟨b, 11, none⟩ = some (.int .i64 q1.wr) ∧ w'.cell? ⟨b, 12, none⟩ = some (.int .i64 q1.rd) ∧ w'.cell? ⟨b, 13, none⟩ = some (.int .i64 q1.top)) ∧ (w'.cell? ⟨b, 14, none⟩ = some (.int .i64 rt.kind) ∧ w'.cell? ⟨b, 15, none⟩ = some (.int .i64 rt.base) ∧ w'.cell? ⟨b, 16, none⟩ = some (.int .i64 rt.loc) ∧ w'.cell? ⟨b, 17, none⟩ = some (.int .i64 rt.n) ∧ w'.cell? ⟨b, 18, none⟩ = some (.int .i64 rt.wr) ∧ w'.cell? ⟨b, 19, none⟩ = some (.int .i64 rt.rd) ∧ w'.cell? ⟨b, 20, none⟩ = some (.int .i64 rt.top)))) (first | with_reducible exact hS _ hl2 | go_keep) (fail)
    · rename_i hh
      clear hh
      obtain ⟨b1, b2, hP2, hK2, hl3⟩ := two_held hP hl (.cells #[.int .i64 q0.kind, .int .i64 q0.base, .int .i64 q0.loc, .int .i64 q0.n, .int .i64 q0.wr, .int .i64 q0.rd, .int .i64 q0.top, .int .i64 q1.kind, .int .i64 q1.base, .int .i64 q1.loc, .int .i64 q1.n, .int .i64 q1.wr, .int .i64 q1.rd, .int .i64 q1.top] 211) (.cells #[.int .i64 rt.kind, .int .i64 rt.base, .int .i64 rt.loc, .int .i64 rt.n, .int .i64 rt.wr, .int .i64 rt.rd, .int .i64 rt.top] 67)
      clear hS hl2 hl hP a0 a1 a2 a3 a4 a5 a6 e0 e1 e2 e3 e4 e5 e6 f0 f1 f2 f3 f4 f5 f6
      go_wp2_with fail
      go_meet
      exact ⟨_, _, rfl, rfl, b1, b2, hP2, hK2, hl3⟩
    · rename_i hh
      clear hh
      obtain ⟨b2, b1, hP2, hK2, hl3⟩ := two_held hP hl (.cells #[.int .i64 rt.kind, .int .i64 rt.base, .int .i64 rt.loc, .int .i64 rt.n, .int .i64 rt.wr, .int .i64 rt.rd, .int .i64 rt.top] 67) (.cells #[.int .i64 q0.kind, .int .i64 q0.base, .int .i64 q0.loc, .int .i64 q0.n, .int .i64 q0.wr, .int .i64 q0.rd, .int .i64 q0.top, .int .i64 q1.kind, .int .i64 q1.base, .int .i64 q1.loc, .int .i64 q1.n, .int .i64 q1.wr, .int .i64 q1.rd, .int .i64 q1.top] 211)
      clear hS hl2 hl hP a0 a1 a2 a3 a4 a5 a6 e0 e1 e2 e3 e4 e5 e6 f0 f1 f2 f3 f4 f5 f6
      go_wp2_with fail
      go_meet
      exact ⟨_, _, rfl, rfl, b1, b2, hP2, hK2, hl3⟩
  case rest =>
    clear hS hl hP
    obtain ⟨x, y, rfl, rfl, bx, bt, hP, hK, -⟩ := hcut
    go_wp2_with fail
    refine (hbh.out _).mono ?_
    rintro e w' ⟨rfl, rfl⟩
    have c_bx := bx.cells
    clear hbh
    have hPo := hP
    have bn := hP.held (.cells #[.int .i64 q0.kind, .int .i64 q0.base, .int .i64 q0.loc, .int .i64 q0.n, .int .i64 q0.wr, .int .i64 q0.rd, .int .i64 q0.top] 67)
    have hKn := hK.trans (Keep.alloc (.cells #[.int .i64 q0.kind, .int .i64 q0.base, .int .i64 q0.loc, .int .i64 q0.n, .int .i64 q0.wr, .int .i64 q0.rd, .int .i64 q0.top] 67) hP.lt hP.le)
    have hPn := hP.alloc (.cells #[.int .i64 q0.kind, .int .i64 q0.base, .int .i64 q0.loc, .int .i64 q0.n, .int .i64 q0.wr, .int .i64 q0.rd, .int .i64 q0.top] 67)
    have bxn := bx.alloc (.cells #[.int .i64 q0.kind, .int .i64 q0.base, .int .i64 q0.loc, .int .i64 q0.n, .int .i64 q0.wr, .int .i64 q0.rd, .int .i64 q0.top] 67) hP.lt
    have btn := bt.alloc (.cells #[.int .i64 q0.kind, .int .i64 q0.base, .int .i64 q0.loc, .int .i64 q0.n, .int .i64 q0.wr, .int .i64 q0.rd, .int .i64 q0.top] 67) hP.lt
    clear hP hK bx bt hPo
    have c_bxn := bxn.cells
    go_wp2_with fail
    clear c_bx c_bxn
    generalize hzn : wc.heap.size = z at *
    generalize wc.alloc _ = W at *
    clear hzn
    have hP := hPn
    have hK := hKn
    have bx := bxn
    have bt := btn
    clear hPn hKn bxn btn
    replace hO := hOh.out
    clear hOh
    refine tstepL hO hK (reg_write_p B p S q1 me 1 _ hP hq1 ⟨hm0, by omega⟩) (fun _ h => ⟨rfl, h⟩) ?_
    clear hO hK hP
    intro u S2 w2 hlf _ hP hk hK hO
    replace hN := Nat.lt_of_le_of_lt hlf hN
    replace bn := bn.keep hk
    replace bt := bt.keep hk
    have c_bt := bt.cells
    have hOh := Lib.hid hO
    clear hk hlf bx hO
    go_wp2_with fail
    replace hO := hOh.out
    clear hOh c_bt
    refine tstepL hO hK (reg_write_p B p S2 rt me 1 _ hP hrt ⟨hm0, hm3⟩) (fun _ h => ⟨rfl, h⟩) ?_
    clear hO hK hP
    intro u S3 w3 hlf _ hP hk hK hO
    replace hN := Nat.lt_of_le_of_lt hlf hN
    replace bn := bn.keep hk
    replace bt := bt.keep hk
    have hOh := Lib.hid hO
    clear hk hlf hO
    go_wp2_with fail
    go_loopw [] (fun wr => ∃ (n : Nat) (S4 : TS), Plays B wr p S4 ∧ KeepP B p w wr ∧ HeldP wr p z (.cells #[.int .i64 q0.kind, .int .i64 q0.base, .int .i64 q0.loc, .int .i64 q0.n, .int .i64 q0.wr, .int .i64 q0.rd, .int .i64 q0.top] 67) ∧ HeldP wr p y (.cells #[.int .i64 rt.kind, .int .i64 rt.base, .int .i64 rt.loc, .int .i64 rt.n, .int .i64 rt.wr, .int .i64 rt.rd, .int .i64 rt.top] 67) ∧ Hid (Owes R encU B p w ((arbSpin q0 rt 1 me n).run S4)) ∧ S4.left < n) (fun wr => leftW 1 3 wr p)
    case atStart => exact ⟨N, S3, hP, hK, bn, bt, hOh, hN⟩
    case round =>
      clear hP hK bn bt hOh hN
      obtain ⟨n, S4, hP, hK, bn, bt, hO, hN⟩ := hrel
      replace hO := hO.out
      have hlw := Lib.hid hP.left
      cases n with
      | zero => omega
      | succ n =>
        rw [arbSpin_succ] at hO
        have c_bn := bn.cells
        have hOh := Lib.hid hO
        clear hO
        go_wp2_with fail
        replace hO := hOh.out
        clear hOh c_bn
        refine tstepL hO hK (reg_read_p B p S4 q0 me _ hP hq0 ⟨hm0, by omega⟩) (fun _ h => ⟨rfl, h⟩) ?_
        clear hO hK hP
        intro v S5 w4 _ hlf hP hk hK hO
        replace hlf := hlf (asks_regR _ _ ht1)
        replace bn := bn.keep hk
        replace bt := bt.keep hk
        clear hk
        by_cases hv : v = 0
        · rw [if_pos hv] at hO
          subst hv
          have hf : R (.returned (encU ())) w4 := hO.done hP hK
          clear hO hP hK bn bt
          go_wp2_with fail
          first | exact hf | (refine bodyPost_ret (results_none rfl _ _ _) rfl ?_; exact hf)
        · rw [if_neg hv] at hO
          have hv2 : (v == 0) = false := by rw [beq_eq_false_iff_ne]; exact hv
          have c_bt := bt.cells
          have hOh := Lib.hid hO
          clear hv hO
          go_wp2_with fail
          replace hO := hOh.out
          clear hOh c_bt
          refine tstepL hO hK (reg_read_p B p S5 rt me _ hP hrt ⟨hm0, hm3⟩) (fun _ h => ⟨rfl, h⟩) ?_
          clear hO hK hP
          intro y0 S6 w5 hlf2 _ hP hk hK hO
          replace bn := bn.keep hk
          replace bt := bt.keep hk
          clear hk
          by_cases hy : y0 = 1
          · rw [if_pos hy] at hO
            have hy2 : (y0 != 1) = false := by simpa using hy
            have c_bn := bn.cells
            have hOh := Lib.hid hO
            clear hy hO
            go_wp2_with fail
            refine (cells_pm q0 me _ hq0 ht1 ⟨hm0, by omega⟩).mono ?_
            rintro e w6 ⟨cc, rfl, hcc, hx⟩
            replace bn := bn.ext hx hP.lt
            replace bt := bt.ext hx hP.lt
            replace hK := hK.trans (Keep.of_ext hx hP.lt hP.le)
            replace hP := hP.ext hx
            clear hx c_bn
            have hlw2 := Lib.hid hP.left
            go_wp2_with fail
            refine ⟨⟨n, S6, hP, hK, bn, bt, hOh, by omega⟩, ?_⟩
            rw [hlw.out, hlw2.out]
            omega
          · rw [if_neg hy] at hO
            have hy2 : (y0 != 1) = true := by simpa using hy
            have hf : R (.returned (encU ())) w5 := hO.done hP hK
            clear hO hP hK bn bt hy
            go_wp2_with fail
            first | exact hf | (refine bodyPost_ret (results_none rfl _ _ _) rfl ?_; exact hf)
set_option maxRecDepth 100000 in
theorem arb_leave_p0 (B p : Nat) (S : TS) (q0 q1 rt : Reg) (side me : Int) (b c : Nat) (w : World) (h : Plays B w p S) (hl : RegsAt [2, 3, 4] w p b [q0, q1, rt]) (hq : q0.ok)
    (hm0 : 0 ≤ me) (hm1 : me < q0.n) (hs : bitM side = 0) :
    Calls Tryz.prog 237 #[.pointer (some ⟨p, 0, none⟩), .slice (some ⟨b, 0, none⟩) 3 c, .int .i64 side, .int .i64 me] w (Post encU B p w ((regW q0 me 0).run S)) := by
  generalize hR : Post encU B p w ((regW q0 me 0).run S) = R
  have hO : Owes R encU B p w ((regW q0 me 0).run S) := hR ▸ owes _ _ _ _ _
  clear hR
  have hK := Keep.refl [2, 3, 4] B p w
  have hP := h
  clear h
  have hb := abit_p side
  rw [hs] at hb
  clear hs
  have hS : ∀ w', RegsAt [2, 3, 4] w' p b [q0, q1, rt] → ((w'.cell? ⟨b, 0, none⟩ = some (.int .i64 q0.kind) ∧ w'.cell? ⟨b, 1, none⟩ = some (.int .i64 q0.base) ∧ w'.cell? ⟨b, 2, none⟩ = some (.int .i64 q0.loc) ∧ w'.cell? ⟨b, 3, none⟩ = some (.int .i64 q0.n) ∧ w'.cell? ⟨b, 4, none⟩ = some (.int .i64 q0.wr) ∧ w'.cell? ⟨b, 5, none⟩ = some (.int .i64 q0.rd) ∧ w'.cell? ⟨b, 6, none⟩ = some (.int .i64 q0.top)) ∧ (w'.cell? ⟨b, 7, none⟩ = some (.int .i64 q1.kind) ∧ w'.cell? ⟨b, 8, none⟩ = some (.int .i64 q1.base) ∧ w'.cell? ⟨b, 9, none⟩ = some (.int .i64 q1.loc) ∧ w'.cell? ⟨b, 10, none⟩ = some (.int .i64 q1.n) ∧ w'.cell? ⟨b, 11, none⟩ = some (.int .i64 q1.wr) ∧ w'.cell? ⟨b, 12, none⟩ = some (.int .i64 q1.rd) ∧ w'.cell? ⟨b, 13, none⟩ = some (.int .i64 q1.top)) ∧ (w'.cell? ⟨b, 14, none⟩ = some (.int .i64 rt.kind) ∧ w'.cell? ⟨b, 15, none⟩ = some (.int .i64 rt.base) ∧ w'.cell? ⟨b, 16, none⟩ = some (.int .i64 rt.loc) ∧ w'.cell? ⟨b, 17, none⟩ = some (.int .i64 rt.n) ∧ w'.cell? ⟨b, 18, none⟩ = some (.int .i64 rt.wr) ∧ w'.cell? ⟨b, 19, none⟩ = some (.int .i64 rt.rd) ∧ w'.cell? ⟨b, 20, none⟩ = some (.int .i64 rt.top))) := fun w' y => by
    obtain ⟨⟨a0, a1, a2, a3, a4, a5, a6⟩, ⟨e0, e1, e2, e3, e4, e5, e6⟩, ⟨f0, f1, f2, f3, f4, f5, f6⟩⟩ := y.three
    exact ⟨⟨a0, a1, a2, a3, a4, a5, a6⟩, ⟨e0, e1, e2, e3, e4, e5, e6⟩, ⟨f0, f1, f2, f3, f4, f5, f6⟩⟩
  go_enter Tryz.func237, Tryz.ntmps237
  go_wp2_with fail
  have hOh := Lib.hid hO
  have hbh := Lib.hid hb
  clear hO hb
  have hl2 := hl.extL (Ext.refl w).drew hP.lt
  obtain ⟨⟨a0, a1, a2, a3, a4, a5, a6⟩, ⟨e0, e1, e2, e3, e4, e5, e6⟩, ⟨f0, f1, f2, f3, f4, f5, f6⟩⟩ := hl.three
  go_region_held2 (fun w' => ((w'.cell? ⟨b, 0, none⟩ = some (.int .i64 q0.kind) ∧ w'.cell? ⟨b, 1, none⟩ = some (.int .i64 q0.base) ∧ w'.cell? ⟨b, 2, none⟩ = some (.int .i64 q0.loc) ∧ w'.cell? ⟨b, 3, none⟩ = some (.int .i64 q0.n) ∧ w'.cell? ⟨b, 4, none⟩ = some (.int .i64 q0.wr) ∧ w'.cell? ⟨b, 5, none⟩ = some (.int .i64 q0.rd) ∧ w'.cell? ⟨b, 6, none⟩ = some (.int .i64 q0.top)) ∧ (w'.cell? ⟨b, 7, none⟩ = some (.int .i64 q1.kind) ∧ w'.cell? ⟨b, 8, none⟩ = some (.int .i64 q1.base) ∧ w'.cell? ⟨b, 9, none⟩ = some (.int .i64 q1.loc) ∧ w'.cell? ⟨b, 10, none⟩ = some (.int .i64 q1.n) ∧ w'.cell? ⟨b, 11, none⟩ = some (.int .i64 q1.wr) ∧ w'.cell? ⟨b, 12, none⟩ = some (.int .i64 q1.rd) ∧ w'.cell? ⟨b, 13, none⟩ = some (.int .i64 q1.top)) ∧ (w'.cell? ⟨b, 14, none⟩ = some (.int .i64 rt.kind) ∧ w'.cell? ⟨b, 15, none⟩ = some (.int .i64 rt.base) ∧ w'.cell? ⟨b, 16, none⟩ = some (.int .i64 rt.loc) ∧ w'.cell? ⟨b, 17, none⟩ = some (.int .i64 rt.n) ∧ w'.cell? ⟨b, 18, none⟩ = some (.int .i64 rt.wr) ∧ w'.cell? ⟨b, 19, none⟩ = some (.int .i64 rt.rd) ∧ w'.cell? ⟨b, 20, none⟩ = some (.int .i64 rt.top)))) (first | with_reducible exact hS _ hl2 | go_keep) (fail)
  rename_i hh
  clear hh
  have bx := (hP.held (.cells #[.int .i64 q0.kind, .int .i64 q0.base, .int .i64 q0.loc, .int .i64 q0.n, .int .i64 q0.wr, .int .i64 q0.rd, .int .i64 q0.top, .int .i64 q1.kind, .int .i64 q1.base, .int .i64 q1.loc, .int .i64 q1.n, .int .i64 q1.wr, .int .i64 q1.rd, .int .i64 q1.top] 211)).drew
  replace hK := (hK.trans (Keep.alloc (.cells #[.int .i64 q0.kind, .int .i64 q0.base, .int .i64 q0.loc, .int .i64 q0.n, .int .i64 q0.wr, .int .i64 q0.rd, .int .i64 q0.top, .int .i64 q1.kind, .int .i64 q1.base, .int .i64 q1.loc, .int .i64 q1.n, .int .i64 q1.wr, .int .i64 q1.rd, .int .i64 q1.top] 211) hP.lt hP.le)).drew
  replace hP := (hP.alloc (.cells #[.int .i64 q0.kind, .int .i64 q0.base, .int .i64 q0.loc, .int .i64 q0.n, .int .i64 q0.wr, .int .i64 q0.rd, .int .i64 q0.top, .int .i64 q1.kind, .int .i64 q1.base, .int .i64 q1.loc, .int .i64 q1.n, .int .i64 q1.wr, .int .i64 q1.rd, .int .i64 q1.top] 211)).drew
  clear hS hl2 hl a0 a1 a2 a3 a4 a5 a6 e0 e1 e2 e3 e4 e5 e6 f0 f1 f2 f3 f4 f5 f6
  have c_bx := bx.cells
  go_wp2_with fail
  refine (hbh.out _).mono ?_
  rintro e w' ⟨rfl, rfl⟩
  go_wp2_with fail
  replace hO := hOh.out
  clear hOh c_bx bx
  refine tlast hO hK (reg_write_p B p S q0 me 0 _ hP hq ⟨hm0, hm1⟩) (fun _ h => ⟨rfl, h⟩) ?_
  clear hO hK hP
  intro u S2 w3 hr hP hk hK hO
  have hf := hO.done hP hK
  clear hO hP hK hr hk
  go_wp2_with fail
  first | exact hf | (refine bodyPost_ret (results_none rfl _ _ _) rfl ?_; exact hf)
set_option maxRecDepth 100000 in
theorem arb_leave_p1 (B p : Nat) (S : TS) (q0 q1 rt : Reg) (side me : Int) (b c : Nat) (w : World) (h : Plays B w p S) (hl : RegsAt [2, 3, 4] w p b [q0, q1, rt]) (hq : q1.ok)
    (hm0 : 0 ≤ me) (hm1 : me < q1.n) (hs : bitM side = 1) :
    Calls Tryz.prog 237 #[.pointer (some ⟨p, 0, none⟩), .slice (some ⟨b, 0, none⟩) 3 c, .int .i64 side, .int .i64 me] w (Post encU B p w ((regW q1 me 0).run S)) := by
  generalize hR : Post encU B p w ((regW q1 me 0).run S) = R
  have hO : Owes R encU B p w ((regW q1 me 0).run S) := hR ▸ owes _ _ _ _ _
  clear hR
  have hK := Keep.refl [2, 3, 4] B p w
  have hP := h
  clear h
  have hb := abit_p side
  rw [hs] at hb
  clear hs
  have hS : ∀ w', RegsAt [2, 3, 4] w' p b [q0, q1, rt] → ((w'.cell? ⟨b, 0, none⟩ = some (.int .i64 q0.kind) ∧ w'.cell? ⟨b, 1, none⟩ = some (.int .i64 q0.base) ∧ w'.cell? ⟨b, 2, none⟩ = some (.int .i64 q0.loc) ∧ w'.cell? ⟨b, 3, none⟩ = some (.int .i64 q0.n) ∧ w'.cell? ⟨b, 4, none⟩ = some (.int .i64 q0.wr) ∧ w'.cell? ⟨b, 5, none⟩ = some (.int .i64 q0.rd) ∧ w'.cell? ⟨b, 6, none⟩ = some (.int .i64 q0.top)) ∧ (w'.cell? ⟨b, 7, none⟩ = some (.int .i64 q1.kind) ∧ w'.cell? ⟨b, 8, none⟩ = some (.int .i64 q1.base) ∧ w'.cell? ⟨b, 9, none⟩ = some (.int .i64 q1.loc) ∧ w'.cell? ⟨b, 10, none⟩ = some (.int .i64 q1.n) ∧ w'.cell? ⟨b, 11, none⟩ = some (.int .i64 q1.wr) ∧ w'.cell? ⟨b, 12, none⟩ = some (.int .i64 q1.rd) ∧ w'.cell? ⟨b, 13, none⟩ = some (.int .i64 q1.top)) ∧ (w'.cell? ⟨b, 14, none⟩ = some (.int .i64 rt.kind) ∧ w'.cell? ⟨b, 15, none⟩ = some (.int .i64 rt.base) ∧ w'.cell? ⟨b, 16, none⟩ = some (.int .i64 rt.loc) ∧ w'.cell? ⟨b, 17, none⟩ = some (.int .i64 rt.n) ∧ w'.cell? ⟨b, 18, none⟩ = some (.int .i64 rt.wr) ∧ w'.cell? ⟨b, 19, none⟩ = some (.int .i64 rt.rd) ∧ w'.cell? ⟨b, 20, none⟩ = some (.int .i64 rt.top))) := fun w' y => by
    obtain ⟨⟨a0, a1, a2, a3, a4, a5, a6⟩, ⟨e0, e1, e2, e3, e4, e5, e6⟩, ⟨f0, f1, f2, f3, f4, f5, f6⟩⟩ := y.three
    exact ⟨⟨a0, a1, a2, a3, a4, a5, a6⟩, ⟨e0, e1, e2, e3, e4, e5, e6⟩, ⟨f0, f1, f2, f3, f4, f5, f6⟩⟩
  go_enter Tryz.func237, Tryz.ntmps237
  go_wp2_with fail
  have hOh := Lib.hid hO
  have hbh := Lib.hid hb
  clear hO hb
  have hl2 := hl.extL (Ext.refl w).drew hP.lt
  obtain ⟨⟨a0, a1, a2, a3, a4, a5, a6⟩, ⟨e0, e1, e2, e3, e4, e5, e6⟩, ⟨f0, f1, f2, f3, f4, f5, f6⟩⟩ := hl.three
  go_region_held2 (fun w' => ((w'.cell? ⟨b, 0, none⟩ = some (.int .i64 q0.kind) ∧ w'.cell? ⟨b, 1, none⟩ = some (.int .i64 q0.base) ∧ w'.cell? ⟨b, 2, none⟩ = some (.int .i64 q0.loc) ∧ w'.cell? ⟨b, 3, none⟩ = some (.int .i64 q0.n) ∧ w'.cell? ⟨b, 4, none⟩ = some (.int .i64 q0.wr) ∧ w'.cell? ⟨b, 5, none⟩ = some (.int .i64 q0.rd) ∧ w'.cell? ⟨b, 6, none⟩ = some (.int .i64 q0.top)) ∧ (w'.cell? ⟨b, 7, none⟩ = some (.int .i64 q1.kind) ∧ w'.cell? ⟨b, 8, none⟩ = some (.int .i64 q1.base) ∧ w'.cell? ⟨b, 9, none⟩ = some (.int .i64 q1.loc) ∧ w'.cell? ⟨b, 10, none⟩ = some (.int .i64 q1.n) ∧ w'.cell? ⟨b, 11, none⟩ = some (.int .i64 q1.wr) ∧ w'.cell? ⟨b, 12, none⟩ = some (.int .i64 q1.rd) ∧ w'.cell? ⟨b, 13, none⟩ = some (.int .i64 q1.top)) ∧ (w'.cell? ⟨b, 14, none⟩ = some (.int .i64 rt.kind) ∧ w'.cell? ⟨b, 15, none⟩ = some (.int .i64 rt.base) ∧ w'.cell? ⟨b, 16, none⟩ = some (.int .i64 rt.loc) ∧ w'.cell? ⟨b, 17, none⟩ = some (.int .i64 rt.n) ∧ w'.cell? ⟨b, 18, none⟩ = some (.int .i64 rt.wr) ∧ w'.cell? ⟨b, 19, none⟩ = some (.int .i64 rt.rd) ∧ w'.cell? ⟨b, 20, none⟩ = some (.int .i64 rt.top)))) (first | with_reducible exact hS _ hl2 | go_keep) (fail)
  rename_i hh
  clear hh
  have bx := (hP.held (.cells #[.int .i64 q0.kind, .int .i64 q0.base, .int .i64 q0.loc, .int .i64 q0.n, .int .i64 q0.wr, .int .i64 q0.rd, .int .i64 q0.top, .int .i64 q1.kind, .int .i64 q1.base, .int .i64 q1.loc, .int .i64 q1.n, .int .i64 q1.wr, .int .i64 q1.rd, .int .i64 q1.top] 211)).drew
  replace hK := (hK.trans (Keep.alloc (.cells #[.int .i64 q0.kind, .int .i64 q0.base, .int .i64 q0.loc, .int .i64 q0.n, .int .i64 q0.wr, .int .i64 q0.rd, .int .i64 q0.top, .int .i64 q1.kind, .int .i64 q1.base, .int .i64 q1.loc, .int .i64 q1.n, .int .i64 q1.wr, .int .i64 q1.rd, .int .i64 q1.top] 211) hP.lt hP.le)).drew
  replace hP := (hP.alloc (.cells #[.int .i64 q0.kind, .int .i64 q0.base, .int .i64 q0.loc, .int .i64 q0.n, .int .i64 q0.wr, .int .i64 q0.rd, .int .i64 q0.top, .int .i64 q1.kind, .int .i64 q1.base, .int .i64 q1.loc, .int .i64 q1.n, .int .i64 q1.wr, .int .i64 q1.rd, .int .i64 q1.top] 211)).drew
  clear hS hl2 hl a0 a1 a2 a3 a4 a5 a6 e0 e1 e2 e3 e4 e5 e6 f0 f1 f2 f3 f4 f5 f6
  have c_bx := bx.cells
  go_wp2_with fail
  refine (hbh.out _).mono ?_
  rintro e w' ⟨rfl, rfl⟩
  go_wp2_with fail
  replace hO := hOh.out
  clear hOh c_bx bx
  refine tlast hO hK (reg_write_p B p S q1 me 0 _ hP hq ⟨hm0, hm1⟩) (fun _ h => ⟨rfl, h⟩) ?_
  clear hO hK hP
  intro u S2 w3 hr hP hk hK hO
  have hf := hO.done hP hK
  clear hO hP hK hr hk
  go_wp2_with fail
  first | exact hf | (refine bodyPost_ret (results_none rfl _ _ _) rfl ?_; exact hf)
theorem arb_enter_p (B p N : Nat) (S : TS) (q0 q1 rt : Reg) (side me : Int) (b c : Nat) (w : World) (h : Plays B w p S) (hl : RegsAt [2, 3, 4] w p b [q0, q1, rt]) (hq0 : q0.ok) (hq1 : q1.ok) (hrt : rt.ok)
    (hm0 : 0 ≤ me) (hm1 : me < q0.n) (hm2 : me < q1.n) (hm3 : me < rt.n) (ht0 : q0.told me) (ht1 : q1.told me) (hN : S.left < N) :
    Calls Tryz.prog 236 #[.pointer (some ⟨p, 0, none⟩), .slice (some ⟨b, 0, none⟩) 3 c, .int .i64 side, .int .i64 me] w (Post encU B p w ((arbM N q0 q1 rt side me).run S)) := by
  unfold arbM
  rcases bitM_or side with hs | hs
  · rw [if_neg (by omega)]
    exact arb_enter_p0 B p N S q0 q1 rt side me b c w h hl hq0 hq1 hrt hm0 hm1 hm2 hm3 ht1 hN hs
  · rw [if_pos hs]
    exact arb_enter_p1 B p N S q0 q1 rt side me b c w h hl hq0 hq1 hrt hm0 hm1 hm2 hm3 ht0 hN hs
theorem arb_leave_p (B p : Nat) (S : TS) (q0 q1 rt : Reg) (side me : Int) (b c : Nat) (w : World) (h : Plays B w p S) (hl : RegsAt [2, 3, 4] w p b [q0, q1, rt]) (hq0 : q0.ok) (hq1 : q1.ok)
    (hm0 : 0 ≤ me) (hm1 : me < q0.n) (hm2 : me < q1.n) :
    Calls Tryz.prog 237 #[.pointer (some ⟨p, 0, none⟩), .slice (some ⟨b, 0, none⟩) 3 c, .int .i64 side, .int .i64 me] w (Post encU B p w ((kesL q0 q1 side me).run S)) := by
  unfold kesL
  rcases bitM_or side with hs | hs
  · rw [hs, if_neg (by omega)]
    exact arb_leave_p0 B p S q0 q1 rt side me b c w h hl hq0 hm0 hm1 hs
  · rw [hs, if_pos rfl]
    exact arb_leave_p1 B p S q0 q1 rt side me b c w h hl hq1 hm0 hm2 hs
theorem awants_p (w : World) : Calls Tryz.prog 235 #[] w fun e w' => ∃ v, e = .returned v ∧ WantsAt w' v (List.replicate 3 ⟨-1, 1⟩) ∧ Ext w w' := by
  go_enter Tryz.func235, Tryz.ntmps235
  go_wp2_with fail
  go_loopw [1, 2] (fun v i wr => ∃ j : Nat, i = .int .i64 j ∧ j ≤ 3 ∧ wr.ownsRow w.heap.size 179 2 v j ((List.replicate j (⟨-1, 1⟩ : Want)).flatMap wantVals) ∧ Ext w wr) (fun _ i _ => 3 - (intOf i).toNat)
  case atStart => exact ⟨0, rfl, by omega, World.ownsRow_nil _ _ _ _, Ext.refl _⟩
  case round =>
    obtain ⟨j, rfl, hj, hown, hE⟩ := hrel
    by_cases hl : j < 3
    · go_wp2_with (at_builtin; refine append_rec info_want Tryz.underlying102 rfl (by decide) (by decide) rfl _ _ rfl _ j _ [.int .i64 (-1), .int .i64 1] hE hown rfl rfl rfl (by simp [Value.oneCell']) (by omega) ?_)
      intro v' w' ho hx _
      have hoh := Lib.hid ho
      clear hown ho
      go_wp2_with fail
      refine ⟨⟨j + 1, by go_num, by omega, ?_, hx⟩, ?_⟩
      · rw [List.replicate_succ', List.flatMap_append]; exact hoh.out
      · simp [intOf]; omega
    · obtain rfl : j = 3 := by omega
      have hownh := Lib.hid hown
      clear hown
      go_wp2_with fail
      go_ret
      exact ⟨_, rfl, Recs.of_row hownh.out, hE⟩
end Go.Proofs.YtbaajjkopdjbgaaGreat
