/-
  Kessels: entering, by the program.
-/
import Derived.Test.YtpcohbpeglledaaJFastAloneSaid0
import Derived.ScopeJumps
import Derived.WalkMore
import Derived.Deep.DeepCutAuto
/-
  Kessels: entering, by the program.
-/
namespace Go.Proofs.Ytpcohbpeglledaa
open Go.RowKit Kv
theorem kbit_p (x : Int) (w : World) : Calls Try.prog 42 #[.int .i64 x] w fun e w' => e = .returned (.int .i64 (bitM x)) ∧ w = w' := by
  unfold bitM
  by_cases h : x = 0
  · rw [if_pos h]
    go_enter Try.func42, Try.ntmps42
    go_wp2_with fail
    go_ret
    exact ⟨rfl, rfl⟩
  · rw [if_neg h]
    have hb : (x != 0) = true := by rw [bne_iff_ne]; exact h
    go_enter Try.func42, Try.ntmps42
    go_wp2_with fail
    go_ret
    exact ⟨rfl, rfl⟩
theorem kfree0_p (x t : Int) (b : Nat) (w : World) (h : w.cell? ⟨b, 0, none⟩ = some (.int .i64 t)) : Calls Try.prog 45 #[.int .i64 x, .pointer (some ⟨b, 0, none⟩)] w fun e w' => e = .returned (.bool (x != t)) ∧ w = w' := by
  go_enter Try.func45, Try.ntmps45
  go_wp2_with fail
  go_ret
  exact ⟨rfl, rfl⟩
theorem kfree1_p (x t : Int) (b : Nat) (w : World) (h : w.cell? ⟨b, 0, none⟩ = some (.int .i64 t)) : Calls Try.prog 46 #[.int .i64 x, .pointer (some ⟨b, 0, none⟩)] w fun e w' => e = .returned (.bool (x == t)) ∧ w = w' := by
  go_enter Try.func46, Try.ntmps46
  go_wp2_with fail
  go_ret
  exact ⟨rfl, rfl⟩
theorem cells_pm (r : Reg) (me : Int) (w : World) (ho : r.ok) (ht : r.told me) (hm : 0 ≤ me ∧ me < r.n) : Calls Try.prog 47 #[encR r] w fun e w' => ∃ c : Int, e = .returned (.int .i64 c) ∧ (c == 0) = false ∧ Ext w w' := by
  refine (cells_p r w (by rcases ht with h | ⟨h, _⟩ | ⟨h, h2⟩; exact .inl h; exact .inr (.inl h); exact .inr (.inr ⟨h, h2⟩)) ho.n (fun w => mthreads_p r.n w ho.n.1 ho.n.2)).mono fun e w' h => ⟨_, h.1, ?_, h.2⟩
  rw [beq_eq_false_iff_ne]
  have hn := ho.n
  have h2 : r.kind ≠ 1 → 2 ≤ r.n := fun h1 => by
    rcases ht with h | ⟨h, h3⟩ | ⟨h, h3⟩
    · exact absurd h h1
    · have := ho.wr h; omega
    · exact h3
  unfold cellsM
  split
  · decide
  · rename_i h1
    have h3 := h2 h1
    have p1 : 0 < 16 * (r.n - 1) * (r.n - 1) := Int.mul_pos (by omega) (by omega)
    split
    · omega
    · have p2 : 0 < 16 * (r.n - 1) * (r.n - 1) * r.n := Int.mul_pos p1 (by omega)
      omega
set_option maxRecDepth 100000 in
set_option maxHeartbeats 1000000 in
theorem kes_enter_p0 (B p N : Nat) (S : TS) (q0 q1 r0 r1 : Reg) (side me : Int) (b c : Nat) (w : World) (h : Plays B w p S) (hl : RegsAt [2, 3, 4] w p b [q0, q1, r0, r1]) (hq0 : q0.ok) (hq1 : q1.ok) (hr0 : r0.ok) (hr1 : r1.ok)
    (hm0 : 0 ≤ me) (hm1 : me < q0.n) (hm2 : me < q1.n) (hm3 : me < r0.n) (hm4 : me < r1.n) (ht1 : q1.told me) (_ht2 : r1.told me) (hN : S.left < N) (hs : bitM side = 0) (hc4 : 4 ≤ c) (hc5 : c ≤ 9223372036854775807) :
    Calls Try.prog 14 #[.pointer (some ⟨p, 0, none⟩), .slice (some ⟨b, 0, none⟩) 4 c, .int .i64 side, .int .i64 me] w (Post encU B p w ((kesEnter N q0 q1 r0 r1 0 me).run S)) := by
  generalize hR : Post encU B p w ((kesEnter N q0 q1 r0 r1 0 me).run S) = R
  have hO : Owes R encU B p w ((kesEnter N q0 q1 r0 r1 0 me).run S) := hR ▸ owes _ _ _ _ _
  clear hR
  have hmf : ∀ (fn : Fn) (first cap : Array Value) (w : World), (Instr.makeFunc fn first cap).run Try.prog w = .ok (.func fn first cap) w := fun _ _ _ _ => rfl
  have hK := Keep.refl [2, 3, 4] B p w
  have hP := h
  clear h
  unfold kesEnter at hO
  obtain ⟨⟨a0, a1, a2, a3, a4, a5, a6⟩, ⟨e0, e1, e2, e3, e4, e5, e6⟩, ⟨f0, f1, f2, f3, f4, f5, f6⟩, ⟨g0, g1, g2, g3, g4, g5, g6⟩⟩ := hl.four
  have hc6 : (2 : Int) ≤ (c : Int) := by omega
  have hc7 : (4 : Int) ≤ (c : Int) := by omega
  have hb := kbit_p side w
  rw [hs] at hb
  clear hs
  go_enter Try.func14, Try.ntmps14
  go_wp2_with fail
  refine hb.mono ?_
  rintro e w' ⟨rfl, rfl⟩
  clear hb
  go_wp2_with fail
  go_quiet (fail)
  have hx := (Ext.refl w).drewN nq
  replace hl := hl.extL hx hP.lt
  replace hK := hK.trans (Keep.of_ext hx hP.lt hP.le)
  replace hP := hP.ext hx
  clear a0 a1 a2 a3 a4 a5 a6 e0 e1 e2 e3 e4 e5 e6 f0 f1 f2 f3 f4 f5 f6 g0 g1 g2 g3 g4 g5 g6 hx
  generalize w.drewN nq = wz at *
  obtain ⟨⟨a0, a1, a2, a3, a4, a5, a6⟩, ⟨e0, e1, e2, e3, e4, e5, e6⟩, ⟨f0, f1, f2, f3, f4, f5, f6⟩, ⟨g0, g1, g2, g3, g4, g5, g6⟩⟩ := hl.four
  go_wp2_with fail
  refine tstepL hO hK (reg_write_p B p S q0 me 1 _ hP hq0 ⟨hm0, by omega⟩) (fun _ h => ⟨rfl, h⟩) ?_
  clear hO hK hP
  intro u S w1 hlf _ hP hk hK hO
  replace hN := Nat.lt_of_le_of_lt hlf hN
  replace hl := hl.keep hk
  clear a0 a1 a2 a3 a4 a5 a6 e0 e1 e2 e3 e4 e5 e6 f0 f1 f2 f3 f4 f5 f6 g0 g1 g2 g3 g4 g5 g6 hk hlf
  obtain ⟨⟨a0, a1, a2, a3, a4, a5, a6⟩, ⟨e0, e1, e2, e3, e4, e5, e6⟩, ⟨f0, f1, f2, f3, f4, f5, f6⟩, ⟨g0, g1, g2, g3, g4, g5, g6⟩⟩ := hl.four
  go_wp2_with fail
  refine tstepL hO hK (reg_read_p B p S r1 me _ hP hr1 ⟨hm0, by omega⟩) (fun _ h => ⟨rfl, h⟩) ?_
  clear hO hK hP
  intro x S w2 hlf _ hP hk hK hO
  replace hN := Nat.lt_of_le_of_lt hlf hN
  replace hl := hl.keep hk
  clear a0 a1 a2 a3 a4 a5 a6 e0 e1 e2 e3 e4 e5 e6 f0 f1 f2 f3 f4 f5 f6 g0 g1 g2 g3 g4 g5 g6 hk hlf
  obtain ⟨⟨a0, a1, a2, a3, a4, a5, a6⟩, ⟨e0, e1, e2, e3, e4, e5, e6⟩, ⟨f0, f1, f2, f3, f4, f5, f6⟩, ⟨g0, g1, g2, g3, g4, g5, g6⟩⟩ := hl.four
  go_wp2_with fail
  have hbx : 0 ≤ bitM x ∧ bitM x ≤ 1 := by unfold bitM; split <;> omega
  have hwx := w64 (1 - bitM x) (by omega) (by omega)
  refine (kbit_p x _).mono ?_
  rintro e w' ⟨rfl, rfl⟩
  go_wp2_with fail
  have hPo := hP
  have bT := hP.held (.cells #[.int .i64 (bitM x)] 3)
  replace hK := hK.trans (Keep.alloc (.cells #[.int .i64 (bitM x)] 3) hP.lt hP.le)
  replace hP := hP.alloc (.cells #[.int .i64 (bitM x)] 3)
  have c_bT := bT.cells
  replace hl := hl.extL ((Ext.refl _).alloc (.cells #[.int .i64 (bitM x)] 3)) hPo.lt
  clear hPo
  clear a0 a1 a2 a3 a4 a5 a6 e0 e1 e2 e3 e4 e5 e6 f0 f1 f2 f3 f4 f5 f6 g0 g1 g2 g3 g4 g5 g6
  rw [show kesT 0 x = (bitM x) from rfl] at hO
  replace hP := hP.drew
  replace hK := hK.drew
  replace bT := bT.drew
  replace hl := hl.extL (Ext.refl _).drew hP.lt
  have hS : ∀ w', RegsAt [2, 3, 4] w' p b [q0, q1, r0, r1] → HeldP w' p w2.heap.size (.cells #[.int .i64 (bitM x)] 3) → (w'.cell? ⟨b, 14, none⟩ = some (.int .i64 r0.kind) ∧ w'.cell? ⟨b, 15, none⟩ = some (.int .i64 r0.base) ∧ w'.cell? ⟨b, 16, none⟩ = some (.int .i64 r0.loc) ∧ w'.cell? ⟨b, 17, none⟩ = some (.int .i64 r0.n) ∧ w'.cell? ⟨b, 18, none⟩ = some (.int .i64 r0.wr) ∧ w'.cell? ⟨b, 19, none⟩ = some (.int .i64 r0.rd) ∧ w'.cell? ⟨b, 20, none⟩ = some (.int .i64 r0.top)) ∧ (∀ i, w'.cell? ⟨w2.heap.size, i, none⟩ = (#[.int .i64 (bitM x)] : Array Value)[i]?) := fun w' h1 h2 => by
    obtain ⟨y0, y1, y2, y3, y4, y5, y6⟩ := h1.four.2.2.1
    exact ⟨⟨y0, y1, y2, y3, y4, y5, y6⟩, h2.cells⟩
  go_region_held2 (fun w' => (w'.cell? ⟨b, 14, none⟩ = some (.int .i64 r0.kind) ∧ w'.cell? ⟨b, 15, none⟩ = some (.int .i64 r0.base) ∧ w'.cell? ⟨b, 16, none⟩ = some (.int .i64 r0.loc) ∧ w'.cell? ⟨b, 17, none⟩ = some (.int .i64 r0.n) ∧ w'.cell? ⟨b, 18, none⟩ = some (.int .i64 r0.wr) ∧ w'.cell? ⟨b, 19, none⟩ = some (.int .i64 r0.rd) ∧ w'.cell? ⟨b, 20, none⟩ = some (.int .i64 r0.top)) ∧ (∀ i, w'.cell? ⟨w2.heap.size, i, none⟩ = (#[.int .i64 (bitM x)] : Array Value)[i]?)) (exact hS _ hl bT)
    (first
      | (go_at_call 43
         refine tstepL hO hK (reg_write_p B p S r0 me (bitM x) _ hP hr0 ⟨hm0, by omega⟩) (fun _ h => ⟨rfl, h⟩) ?_
         clear hO hK hP
         intro u S w3 hlf _ hP hk hK hO
         replace hN := Nat.lt_of_le_of_lt hlf hN
         replace hl := hl.keep hk
         replace bT := bT.keep hk
         clear hk hlf))
  rename_i hh
  clear hh c_bT
  generalize htx : (bitM x) = t at *
  go_wp2_with fail
  go_loopw [] (fun wr => ∃ (n : Nat) (S1 : TS), Plays B wr p S1 ∧ KeepP B p w wr ∧ HeldP wr p w2.heap.size (.cells #[.int .i64 t] 3) ∧ RegsAt [2, 3, 4] wr p b [q0, q1, r0, r1] ∧ Hid (Owes R encU B p w ((kesSpin q1 r1 0 t me n).run S1)) ∧ S1.left < n) (fun wr => leftW 1 3 wr p)
  case atStart => exact ⟨N, S, hP, hK, bT, hl, hO, hN⟩
  case round =>
    clear hS hP hK bT hl hO hN
    obtain ⟨n, S1, hP, hK, bT, hl, hO, hN⟩ := hrel
    have hO := hO.out
    have hlw := Lib.hid hP.left
    cases n with
    | zero => omega
    | succ n =>
      unfold kesSpin at hO
      obtain ⟨⟨a0, a1, a2, a3, a4, a5, a6⟩, ⟨e0, e1, e2, e3, e4, e5, e6⟩, ⟨f0, f1, f2, f3, f4, f5, f6⟩, ⟨g0, g1, g2, g3, g4, g5, g6⟩⟩ := hl.four
      go_wp2_with fail
      refine tstepL hO hK (reg_read_p B p S1 q1 me _ hP hq1 ⟨hm0, by omega⟩) (fun _ h => ⟨rfl, h⟩) ?_
      clear hO hK hP
      intro v S2 w4 _ hlf hP hk hK hO
      replace hlf := hlf (asks_regR _ _ ht1)
      replace hl := hl.keep hk
      replace bT := bT.keep hk
      clear a0 a1 a2 a3 a4 a5 a6 e0 e1 e2 e3 e4 e5 e6 f0 f1 f2 f3 f4 f5 f6 g0 g1 g2 g3 g4 g5 g6 hk
      by_cases hv : v = 0
      · rw [if_pos hv] at hO
        subst hv
        have hf : R (.returned (encU ())) w4 := hO.done hP hK
        clear hO hP hK hl bT
        go_wp2_with fail
        first | exact hf | (refine bodyPost_ret (results_none rfl _ _ _) rfl ?_; exact hf)
      · rw [if_neg hv] at hO
        have hv2 : (v == 0) = false := by rw [beq_eq_false_iff_ne]; exact hv
        obtain ⟨⟨a0, a1, a2, a3, a4, a5, a6⟩, ⟨e0, e1, e2, e3, e4, e5, e6⟩, ⟨f0, f1, f2, f3, f4, f5, f6⟩, ⟨g0, g1, g2, g3, g4, g5, g6⟩⟩ := hl.four
        clear hv
        go_wp2_with fail
        refine tstepL hO hK (reg_read_p B p S2 r1 me _ hP hr1 ⟨hm0, by omega⟩) (fun _ h => ⟨rfl, h⟩) ?_
        clear hO hK hP
        intro y S3 w5 hlf2 _ hP hk hK hO
        replace hl := hl.keep hk
        replace bT := bT.keep hk
        clear a0 a1 a2 a3 a4 a5 a6 e0 e1 e2 e3 e4 e5 e6 f0 f1 f2 f3 f4 f5 f6 g0 g1 g2 g3 g4 g5 g6 hk
        have c_bT := bT.cells
        go_wp2_with fail
        refine (kbit_p y _).mono ?_
        rintro e w' ⟨rfl, rfl⟩
        go_wp2_with fail
        refine (kfree0_p (bitM y) t _ _ (c_bT 0)).mono ?_
        rintro e w' ⟨rfl, rfl⟩
        by_cases hy : kesFree 0 t y = true
        · rw [if_pos hy] at hO
          have hy2 : (bitM y != t) = true := by unfold kesFree at hy; simpa using hy
          have hf : R (.returned (encU ())) w5 := hO.done hP hK
          clear hO hP hK hl bT hy
          go_wp2_with fail
          first | exact hf | (refine bodyPost_ret (results_none rfl _ _ _) rfl ?_; exact hf)
        · rw [if_neg hy] at hO
          have hy2 : (bitM y != t) = false := by unfold kesFree at hy; simpa using hy
          obtain ⟨⟨a0, a1, a2, a3, a4, a5, a6⟩, ⟨e0, e1, e2, e3, e4, e5, e6⟩, ⟨f0, f1, f2, f3, f4, f5, f6⟩, ⟨g0, g1, g2, g3, g4, g5, g6⟩⟩ := hl.four
          clear hy c_bT
          go_wp2_with fail
          refine (cells_pm q1 me _ hq1 ht1 ⟨hm0, by omega⟩).mono ?_
          rintro e w6 ⟨cc, rfl, hcc, hx⟩
          replace hl := hl.extL hx hP.lt
          replace bT := bT.ext hx hP.lt
          replace hK := hK.trans (Keep.of_ext hx hP.lt hP.le)
          replace hP := hP.ext hx
          clear a0 a1 a2 a3 a4 a5 a6 e0 e1 e2 e3 e4 e5 e6 f0 f1 f2 f3 f4 f5 f6 g0 g1 g2 g3 g4 g5 g6 hx
          have hlw2 := Lib.hid hP.left
          have hOh := Lib.hid hO
          clear hO
          go_wp2_with fail
          refine ⟨⟨n, S3, hP, hK, bT, hl, hOh, by omega⟩, ?_⟩
          rw [hlw.out, hlw2.out]
          omega
set_option maxRecDepth 100000 in
set_option maxHeartbeats 1000000 in
theorem kes_enter_p1 (B p N : Nat) (S : TS) (q0 q1 r0 r1 : Reg) (side me : Int) (b c : Nat) (w : World) (h : Plays B w p S) (hl : RegsAt [2, 3, 4] w p b [q0, q1, r0, r1]) (hq0 : q0.ok) (hq1 : q1.ok) (hr0 : r0.ok) (hr1 : r1.ok)
    (hm0 : 0 ≤ me) (hm1 : me < q0.n) (hm2 : me < q1.n) (hm3 : me < r0.n) (hm4 : me < r1.n) (ht1 : q0.told me) (_ht2 : r0.told me) (hN : S.left < N) (hs : bitM side = 1) (hc4 : 4 ≤ c) (hc5 : c ≤ 9223372036854775807) :
    Calls Try.prog 14 #[.pointer (some ⟨p, 0, none⟩), .slice (some ⟨b, 0, none⟩) 4 c, .int .i64 side, .int .i64 me] w (Post encU B p w ((kesEnter N q1 q0 r1 r0 1 me).run S)) := by
  generalize hR : Post encU B p w ((kesEnter N q1 q0 r1 r0 1 me).run S) = R
  have hO : Owes R encU B p w ((kesEnter N q1 q0 r1 r0 1 me).run S) := hR ▸ owes _ _ _ _ _
  clear hR
  have hmf : ∀ (fn : Fn) (first cap : Array Value) (w : World), (Instr.makeFunc fn first cap).run Try.prog w = .ok (.func fn first cap) w := fun _ _ _ _ => rfl
  have hK := Keep.refl [2, 3, 4] B p w
  have hP := h
  clear h
  unfold kesEnter at hO
  obtain ⟨⟨a0, a1, a2, a3, a4, a5, a6⟩, ⟨e0, e1, e2, e3, e4, e5, e6⟩, ⟨f0, f1, f2, f3, f4, f5, f6⟩, ⟨g0, g1, g2, g3, g4, g5, g6⟩⟩ := hl.four
  have hc6 : (2 : Int) ≤ (c : Int) := by omega
  have hc7 : (4 : Int) ≤ (c : Int) := by omega
  have hb := kbit_p side w
  rw [hs] at hb
  clear hs
  go_enter Try.func14, Try.ntmps14
  go_wp2_with fail
  refine hb.mono ?_
  rintro e w' ⟨rfl, rfl⟩
  clear hb
  go_wp2_with fail
  go_quiet (fail)
  have hx := (Ext.refl w).drewN nq
  replace hl := hl.extL hx hP.lt
  replace hK := hK.trans (Keep.of_ext hx hP.lt hP.le)
  replace hP := hP.ext hx
  clear a0 a1 a2 a3 a4 a5 a6 e0 e1 e2 e3 e4 e5 e6 f0 f1 f2 f3 f4 f5 f6 g0 g1 g2 g3 g4 g5 g6 hx
  generalize w.drewN nq = wz at *
  obtain ⟨⟨a0, a1, a2, a3, a4, a5, a6⟩, ⟨e0, e1, e2, e3, e4, e5, e6⟩, ⟨f0, f1, f2, f3, f4, f5, f6⟩, ⟨g0, g1, g2, g3, g4, g5, g6⟩⟩ := hl.four
  go_wp2_with fail
  refine tstepL hO hK (reg_write_p B p S q1 me 1 _ hP hq1 ⟨hm0, by omega⟩) (fun _ h => ⟨rfl, h⟩) ?_
  clear hO hK hP
  intro u S w1 hlf _ hP hk hK hO
  replace hN := Nat.lt_of_le_of_lt hlf hN
  replace hl := hl.keep hk
  clear a0 a1 a2 a3 a4 a5 a6 e0 e1 e2 e3 e4 e5 e6 f0 f1 f2 f3 f4 f5 f6 g0 g1 g2 g3 g4 g5 g6 hk hlf
  obtain ⟨⟨a0, a1, a2, a3, a4, a5, a6⟩, ⟨e0, e1, e2, e3, e4, e5, e6⟩, ⟨f0, f1, f2, f3, f4, f5, f6⟩, ⟨g0, g1, g2, g3, g4, g5, g6⟩⟩ := hl.four
  go_wp2_with fail
  refine tstepL hO hK (reg_read_p B p S r0 me _ hP hr0 ⟨hm0, by omega⟩) (fun _ h => ⟨rfl, h⟩) ?_
  clear hO hK hP
  intro x S w2 hlf _ hP hk hK hO
  replace hN := Nat.lt_of_le_of_lt hlf hN
  replace hl := hl.keep hk
  clear a0 a1 a2 a3 a4 a5 a6 e0 e1 e2 e3 e4 e5 e6 f0 f1 f2 f3 f4 f5 f6 g0 g1 g2 g3 g4 g5 g6 hk hlf
  obtain ⟨⟨a0, a1, a2, a3, a4, a5, a6⟩, ⟨e0, e1, e2, e3, e4, e5, e6⟩, ⟨f0, f1, f2, f3, f4, f5, f6⟩, ⟨g0, g1, g2, g3, g4, g5, g6⟩⟩ := hl.four
  go_wp2_with fail
  have hbx : 0 ≤ bitM x ∧ bitM x ≤ 1 := by unfold bitM; split <;> omega
  have hwx := w64 (1 - bitM x) (by omega) (by omega)
  refine (kbit_p x _).mono ?_
  rintro e w' ⟨rfl, rfl⟩
  go_wp2_with fail
  have hPo := hP
  have bT := hP.held (.cells #[.int .i64 (1 - bitM x)] 3)
  replace hK := hK.trans (Keep.alloc (.cells #[.int .i64 (1 - bitM x)] 3) hP.lt hP.le)
  replace hP := hP.alloc (.cells #[.int .i64 (1 - bitM x)] 3)
  have c_bT := bT.cells
  replace hl := hl.extL ((Ext.refl _).alloc (.cells #[.int .i64 (1 - bitM x)] 3)) hPo.lt
  clear hPo
  clear a0 a1 a2 a3 a4 a5 a6 e0 e1 e2 e3 e4 e5 e6 f0 f1 f2 f3 f4 f5 f6 g0 g1 g2 g3 g4 g5 g6
  rw [show kesT 1 x = (1 - bitM x) from rfl] at hO
  replace hP := hP.drew
  replace hK := hK.drew
  replace bT := bT.drew
  replace hl := hl.extL (Ext.refl _).drew hP.lt
  have hS : ∀ w', RegsAt [2, 3, 4] w' p b [q0, q1, r0, r1] → HeldP w' p w2.heap.size (.cells #[.int .i64 (1 - bitM x)] 3) → (w'.cell? ⟨b, 21, none⟩ = some (.int .i64 r1.kind) ∧ w'.cell? ⟨b, 22, none⟩ = some (.int .i64 r1.base) ∧ w'.cell? ⟨b, 23, none⟩ = some (.int .i64 r1.loc) ∧ w'.cell? ⟨b, 24, none⟩ = some (.int .i64 r1.n) ∧ w'.cell? ⟨b, 25, none⟩ = some (.int .i64 r1.wr) ∧ w'.cell? ⟨b, 26, none⟩ = some (.int .i64 r1.rd) ∧ w'.cell? ⟨b, 27, none⟩ = some (.int .i64 r1.top)) ∧ (∀ i, w'.cell? ⟨w2.heap.size, i, none⟩ = (#[.int .i64 (1 - bitM x)] : Array Value)[i]?) := fun w' h1 h2 => by
    obtain ⟨y0, y1, y2, y3, y4, y5, y6⟩ := h1.four.2.2.2
    exact ⟨⟨y0, y1, y2, y3, y4, y5, y6⟩, h2.cells⟩
  go_region_held2 (fun w' => (w'.cell? ⟨b, 21, none⟩ = some (.int .i64 r1.kind) ∧ w'.cell? ⟨b, 22, none⟩ = some (.int .i64 r1.base) ∧ w'.cell? ⟨b, 23, none⟩ = some (.int .i64 r1.loc) ∧ w'.cell? ⟨b, 24, none⟩ = some (.int .i64 r1.n) ∧ w'.cell? ⟨b, 25, none⟩ = some (.int .i64 r1.wr) ∧ w'.cell? ⟨b, 26, none⟩ = some (.int .i64 r1.rd) ∧ w'.cell? ⟨b, 27, none⟩ = some (.int .i64 r1.top)) ∧ (∀ i, w'.cell? ⟨w2.heap.size, i, none⟩ = (#[.int .i64 (1 - bitM x)] : Array Value)[i]?)) (exact hS _ hl bT)
    (first
      | (go_at_call 43
         refine tstepL hO hK (reg_write_p B p S r1 me (1 - bitM x) _ hP hr1 ⟨hm0, by omega⟩) (fun _ h => ⟨rfl, h⟩) ?_
         clear hO hK hP
         intro u S w3 hlf _ hP hk hK hO
         replace hN := Nat.lt_of_le_of_lt hlf hN
         replace hl := hl.keep hk
         replace bT := bT.keep hk
         clear hk hlf))
  rename_i hh
  clear hh c_bT
  generalize htx : (1 - bitM x) = t at *
  go_wp2_with fail
  go_loopw [] (fun wr => ∃ (n : Nat) (S1 : TS), Plays B wr p S1 ∧ KeepP B p w wr ∧ HeldP wr p w2.heap.size (.cells #[.int .i64 t] 3) ∧ RegsAt [2, 3, 4] wr p b [q0, q1, r0, r1] ∧ Hid (Owes R encU B p w ((kesSpin q0 r0 1 t me n).run S1)) ∧ S1.left < n) (fun wr => leftW 1 3 wr p)
  case atStart => exact ⟨N, S, hP, hK, bT, hl, hO, hN⟩
  case round =>
    clear hS hP hK bT hl hO hN
    obtain ⟨n, S1, hP, hK, bT, hl, hO, hN⟩ := hrel
    have hO := hO.out
    have hlw := Lib.hid hP.left
    cases n with
    | zero => omega
    | succ n =>
      unfold kesSpin at hO
      obtain ⟨⟨a0, a1, a2, a3, a4, a5, a6⟩, ⟨e0, e1, e2, e3, e4, e5, e6⟩, ⟨f0, f1, f2, f3, f4, f5, f6⟩, ⟨g0, g1, g2, g3, g4, g5, g6⟩⟩ := hl.four
      go_wp2_with fail
      refine tstepL hO hK (reg_read_p B p S1 q0 me _ hP hq0 ⟨hm0, by omega⟩) (fun _ h => ⟨rfl, h⟩) ?_
      clear hO hK hP
      intro v S2 w4 _ hlf hP hk hK hO
      replace hlf := hlf (asks_regR _ _ ht1)
      replace hl := hl.keep hk
      replace bT := bT.keep hk
      clear a0 a1 a2 a3 a4 a5 a6 e0 e1 e2 e3 e4 e5 e6 f0 f1 f2 f3 f4 f5 f6 g0 g1 g2 g3 g4 g5 g6 hk
      by_cases hv : v = 0
      · rw [if_pos hv] at hO
        subst hv
        have hf : R (.returned (encU ())) w4 := hO.done hP hK
        clear hO hP hK hl bT
        go_wp2_with fail
        first | exact hf | (refine bodyPost_ret (results_none rfl _ _ _) rfl ?_; exact hf)
      · rw [if_neg hv] at hO
        have hv2 : (v == 0) = false := by rw [beq_eq_false_iff_ne]; exact hv
        obtain ⟨⟨a0, a1, a2, a3, a4, a5, a6⟩, ⟨e0, e1, e2, e3, e4, e5, e6⟩, ⟨f0, f1, f2, f3, f4, f5, f6⟩, ⟨g0, g1, g2, g3, g4, g5, g6⟩⟩ := hl.four
        clear hv
        go_wp2_with fail
        refine tstepL hO hK (reg_read_p B p S2 r0 me _ hP hr0 ⟨hm0, by omega⟩) (fun _ h => ⟨rfl, h⟩) ?_
        clear hO hK hP
        intro y S3 w5 hlf2 _ hP hk hK hO
        replace hl := hl.keep hk
        replace bT := bT.keep hk
        clear a0 a1 a2 a3 a4 a5 a6 e0 e1 e2 e3 e4 e5 e6 f0 f1 f2 f3 f4 f5 f6 g0 g1 g2 g3 g4 g5 g6 hk
        have c_bT := bT.cells
        go_wp2_with fail
        refine (kbit_p y _).mono ?_
        rintro e w' ⟨rfl, rfl⟩
        go_wp2_with fail
        refine (kfree1_p (bitM y) t _ _ (c_bT 0)).mono ?_
        rintro e w' ⟨rfl, rfl⟩
        by_cases hy : kesFree 1 t y = true
        · rw [if_pos hy] at hO
          have hy2 : (bitM y == t) = true := by unfold kesFree at hy; simpa using hy
          have hf : R (.returned (encU ())) w5 := hO.done hP hK
          clear hO hP hK hl bT hy
          go_wp2_with fail
          first | exact hf | (refine bodyPost_ret (results_none rfl _ _ _) rfl ?_; exact hf)
        · rw [if_neg hy] at hO
          have hy2 : (bitM y == t) = false := by unfold kesFree at hy; simpa using hy
          obtain ⟨⟨a0, a1, a2, a3, a4, a5, a6⟩, ⟨e0, e1, e2, e3, e4, e5, e6⟩, ⟨f0, f1, f2, f3, f4, f5, f6⟩, ⟨g0, g1, g2, g3, g4, g5, g6⟩⟩ := hl.four
          clear hy c_bT
          go_wp2_with fail
          refine (cells_pm q0 me _ hq0 ht1 ⟨hm0, by omega⟩).mono ?_
          rintro e w6 ⟨cc, rfl, hcc, hx⟩
          replace hl := hl.extL hx hP.lt
          replace bT := bT.ext hx hP.lt
          replace hK := hK.trans (Keep.of_ext hx hP.lt hP.le)
          replace hP := hP.ext hx
          clear a0 a1 a2 a3 a4 a5 a6 e0 e1 e2 e3 e4 e5 e6 f0 f1 f2 f3 f4 f5 f6 g0 g1 g2 g3 g4 g5 g6 hx
          have hlw2 := Lib.hid hP.left
          have hOh := Lib.hid hO
          clear hO
          go_wp2_with fail
          refine ⟨⟨n, S3, hP, hK, bT, hl, hOh, by omega⟩, ?_⟩
          rw [hlw.out, hlw2.out]
          omega
end Go.Proofs.Ytpcohbpeglledaa
/-
  The fast lock: reading a register till it tells 0, both sides; writing it unless it is over.
-/
namespace Kv
theorem zeroP_succ (r : Reg) (me : Int) (n : Nat) : zeroP r me (n + 1) = (regR r me).bind fun x => if x = 0 then .ret () else zeroP r me n := rfl
end Kv
namespace Go.Proofs.Ytpcohbpeglledaa
open Go.RowKit Kv
set_option maxRecDepth 100000 in
set_option maxHeartbeats 1000000 in
theorem fwait_p (B p D : Nat) (S : TS) (r : Reg) (me : Int) (w : World) (h : Plays B w p S) (hr : r.ok) (hm0 : 0 ≤ me) (hmr : me < r.n) (ht : r.told me) (hD : S.left < D) :
    Calls Try.prog 60 #[.pointer (some ⟨p, 0, none⟩), encR r, .int .i64 me] w (Post encB B p w (((zeroP r me D).bind fun _ => .ret true).run S)) := by
  generalize hR : Post encB B p w (((zeroP r me D).bind fun _ => .ret true).run S) = R
  have hO : Owes R encB B p w (((zeroP r me D).bind fun _ => .ret true).run S) := hR ▸ owes _ _ _ _ _
  clear hR
  have hCm := fun w => cells_pm r me w hr ht ⟨hm0, hmr⟩
  have hRd := fun S w (h : Plays B w p S) => reg_read_p B p S r me w h hr ⟨hm0, hmr⟩
  unfold encR at hCm hRd ⊢
  have hK := Keep.refl [2, 3, 4] B p w
  have hP := h
  have b1 := hP.held (.cells #[.int .i64 r.kind, .int .i64 r.base, .int .i64 r.loc, .int .i64 r.n, .int .i64 r.wr, .int .i64 r.rd, .int .i64 r.top] 41)
  replace hK := hK.trans (Keep.alloc (.cells #[.int .i64 r.kind, .int .i64 r.base, .int .i64 r.loc, .int .i64 r.n, .int .i64 r.wr, .int .i64 r.rd, .int .i64 r.top] 41) hP.lt hP.le)
  replace hP := hP.alloc (.cells #[.int .i64 r.kind, .int .i64 r.base, .int .i64 r.loc, .int .i64 r.n, .int .i64 r.wr, .int .i64 r.rd, .int .i64 r.top] 41)
  have c_b1 := b1.cells
  clear h
  have hRh := Lib.hid hRd
  clear hRd
  go_enter Try.func60, Try.ntmps60
  go_wp2_with fail
  clear c_b1
  generalize hbb : w.heap.size = b at *
  generalize World.alloc _ _ = W0 at *
  have hOh := Lib.hid hO
  clear hO hbb
  go_loopw [] (fun wr => ∃ (n : Nat) (S2 : TS), Plays B wr p S2 ∧ KeepP B p w wr ∧ HeldP wr p b (.cells #[.int .i64 r.kind, .int .i64 r.base, .int .i64 r.loc, .int .i64 r.n, .int .i64 r.wr, .int .i64 r.rd, .int .i64 r.top] 41) ∧ Hid (Owes R encB B p w (((zeroP r me n).bind fun _ => .ret true).run S2)) ∧ S2.left < n) (fun wr => leftW 1 3 wr p)
  case atStart => exact ⟨D, S, hP, hK, b1, hOh, hD⟩
  case round =>
    clear hP hK b1 hOh hD
    obtain ⟨n, S2, hP, hK, b1, hO, hD⟩ := hrel
    replace hO := hO.out
    have hlw := Lib.hid hP.left
    cases n with
    | zero => omega
    | succ n =>
      rw [zeroP_bind] at hO
      have c_b1 := b1.cells
      have hOh := Lib.hid hO
      clear hO
      go_wp2_with fail
      replace hO := hOh.out
      clear c_b1 hOh
      refine tstepL hO hK (hRh.out S2 _ hP) (fun _ h => ⟨rfl, h⟩) ?_
      clear hO hK hP
      intro x S3 w4 _ hlf hP hk hK hO
      replace hlf := hlf (asks_regR _ _ ht)
      replace b1 := b1.keep hk
      clear hk
      by_cases hx : x = 0
      · have dx : (x != 0) = false := by simpa using hx
        rw [if_pos hx] at hO
        have hf : R (.returned (encB true)) w4 := hO.done (v := true) hP hK
        clear hO hP hK hx b1
        go_wp2_with fail
        first | exact hf | (go_ret; exact hf)
      · have dx : (x != 0) = true := by simpa using hx
        rw [if_neg hx] at hO
        clear hx
        have c_b1 := b1.cells
        have hOh := Lib.hid hO
        clear hO
        go_wp2_with fail
        refine (hCm _).mono ?_
        rintro e w6 ⟨cc, rfl, hcc, hx⟩
        replace b1 := b1.ext hx hP.lt
        replace hK := hK.trans (Keep.of_ext hx hP.lt hP.le)
        replace hP := hP.ext hx
        clear hx c_b1
        have hlw2 := Lib.hid hP.left
        go_wp2_with fail
        refine ⟨⟨n, S3, hP, hK, b1, hOh, by omega⟩, ?_⟩
        rw [hlw.out, hlw2.out]
        omega
set_option maxRecDepth 100000 in
theorem fwait_z (B p D : Nat) (S : TS) (r : Reg) (me : Int) (w : World) (h : Plays B w p S) (hr : r.ok) (hm0 : 0 ≤ me) (hmr : me < r.n) (hz : (regR r me).run S = (some 0, S)) :
    Calls Try.prog 60 #[.pointer (some ⟨p, 0, none⟩), encR r, .int .i64 me] w (Post encB B p w (((zeroP r me (D + 1)).bind fun _ => .ret true).run S)) := by
  generalize hR : Post encB B p w (((zeroP r me (D + 1)).bind fun _ => .ret true).run S) = R
  have hO : Owes R encB B p w (((zeroP r me (D + 1)).bind fun _ => .ret true).run S) := hR ▸ owes _ _ _ _ _
  clear hR
  have hRd := fun S w (h : Plays B w p S) => reg_read_p B p S r me w h hr ⟨hm0, hmr⟩
  unfold encR at hRd ⊢
  have hK := Keep.refl [2, 3, 4] B p w
  have hP := h
  have b1 := hP.held (.cells #[.int .i64 r.kind, .int .i64 r.base, .int .i64 r.loc, .int .i64 r.n, .int .i64 r.wr, .int .i64 r.rd, .int .i64 r.top] 41)
  replace hK := hK.trans (Keep.alloc (.cells #[.int .i64 r.kind, .int .i64 r.base, .int .i64 r.loc, .int .i64 r.n, .int .i64 r.wr, .int .i64 r.rd, .int .i64 r.top] 41) hP.lt hP.le)
  replace hP := hP.alloc (.cells #[.int .i64 r.kind, .int .i64 r.base, .int .i64 r.loc, .int .i64 r.n, .int .i64 r.wr, .int .i64 r.rd, .int .i64 r.top] 41)
  have c_b1 := b1.cells
  clear h
  have hRh := Lib.hid hRd
  have hzh := Lib.hid hz
  clear hRd hz
  go_enter Try.func60, Try.ntmps60
  go_wp2_with fail
  clear c_b1
  generalize hbb : w.heap.size = b at *
  generalize World.alloc _ _ = W0 at *
  have hOh := Lib.hid hO
  clear hO hbb
  go_loopw [] (fun wr => W0 = wr) (fun _ => 0)
  case atStart => rfl
  case round =>
    subst hrel
    have hO := hOh.out
    rw [zeroP_bind] at hO
    have c_b1 := b1.cells
    have hOk := Lib.hid hO
    clear hO hOh
    go_wp2_with fail
    replace hO := hOk.out
    clear c_b1 hOk
    refine tstep hO hK (hRh.out S _ hP) (fun _ h => ⟨rfl, h⟩) ?_
    clear hO hK hP
    intro x S3 w4 hr3 hP hk hK hO
    rw [hzh.out] at hr3
    obtain ⟨rfl, rfl⟩ : 0 = x ∧ S = S3 := by simpa using hr3
    rw [if_pos rfl] at hO
    have hf : R (.returned (encB true)) w4 := hO.done (v := true) hP hK
    clear hO hP hK b1 hk hr3
    go_wp2_with fail
    first | exact hf | (go_ret; exact hf)
end Go.Proofs.Ytpcohbpeglledaa
/-
  The fast lock: releasing, both sides.
-/
namespace Go.Proofs.Ytpcohbpeglledaa
open Go.RowKit Kv
set_option maxRecDepth 100000 in
set_option maxHeartbeats 1000000 in
theorem fastrel_p (B p N : Nat) (S : TS) (alg mode base loc room : Int) (m : Nat) (rs : List Reg) (w : World) (h : Plays B w p S) (h1 : 1 ≤ N) (h2 : N ≤ 8) (hm1 : m < N) (hl : layM (fastWants N) N mode base loc = some rs)
    (hok : ∀ r ∈ rs, r.ok ∧ r.n = N) (hn0 : S.nts.length = 0) :
    Calls Try.prog 29 #[.pointer (some ⟨p, 0, none⟩), .agg #[.int .i64 alg, .int .i64 N, .int .i64 mode, .int .i64 base, .int .i64 loc, .int .i64 room], .int .i64 m] w (Post encU B p w ((fastR rs m).run S)) := by
  have hlen := layM_len hl
  rw [fastWants_len] at hlen
  generalize hR : Post encU B p w ((fastR rs m).run S) = R
  have hO : Owes R encU B p w ((fastR rs m).run S) := hR ▸ owes _ _ _ _ _
  clear hR
  have hK := Keep.refl [2, 3, 4] B p w
  have hP := h
  have b1 := hP.held (.cells #[.int .i64 alg, .int .i64 N, .int .i64 mode, .int .i64 base, .int .i64 loc, .int .i64 room] 44)
  replace hK := hK.trans (Keep.alloc (.cells #[.int .i64 alg, .int .i64 N, .int .i64 mode, .int .i64 base, .int .i64 loc, .int .i64 room] 44) hP.lt hP.le)
  replace hP := hP.alloc (.cells #[.int .i64 alg, .int .i64 N, .int .i64 mode, .int .i64 base, .int .i64 loc, .int .i64 room] 44)
  have c_b1 := b1.cells
  clear h
  unfold fastR at hO
  go_enter Try.func29, Try.ntmps29
  go_wp2_with fail
  refine (fastlay_p alg mode base loc room m N rs _ h1 h2 hl (by omega) (by omega)).mono ?_
  rintro e w1 ⟨b, c, rfl, hge, hb, hcells, q1, q2, hx⟩
  have hreg : RegsAt [2, 3, 4] w1 p b rs := ⟨hb, hP.fresh hx hge, hcells⟩
  replace hK := hK.trans (Keep.of_ext hx hP.lt hP.le)
  replace hP := hP.ext hx
  obtain ⟨r1, hr1⟩ : ∃ r, rs[1]? = some r := ⟨_, List.getElem?_eq_getElem (by omega)⟩
  obtain ⟨rm, hrm⟩ : ∃ r, rs[2 + m]? = some r := ⟨_, List.getElem?_eq_getElem (by omega)⟩
  have hok1 := (hok _ (List.mem_of_getElem? hr1)).1
  have hm1' : (m : Int) < r1.n := by rw [(hok _ (List.mem_of_getElem? hr1)).2]; omega
  have hokm := (hok _ (List.mem_of_getElem? hrm)).1
  have hmm : (m : Int) < rm.n := by rw [(hok _ (List.mem_of_getElem? hrm)).2]; omega
  rw [regAt_of (show (1 : Int) = ((1 : Nat) : Int) from rfl) hr1, regAt_of (show (2 : Int) + (m : Int) = ((2 + m : Nat) : Int) from by omega) hrm] at hO
  have hw1 := IntWalk.i64_in ((2 : Int) + (m : Int)) (by omega)
  have hi2 : (2 : Int) + (m : Int) < (rs.length : Int) := by omega
  have hi0 : 0 ≤ (2 : Int) + (m : Int) := by omega
  have hi1 : ((2 : Int) + (m : Int)).toNat = 2 + m := by omega
  have hj2 : (1 : Nat) < rs.length := by omega
  have hj3 : (1 : Int) < (rs.length : Int) := by omega
  have hrh := Lib.hid (And.intro hr1 hrm)
  clear hx hcells hge hb b1 c_b1 hlen hr1 hrm hl hok
  go_wp2_with fail
  refine tstepN (notes_nt 5) hO hK (noteO hP (by unfold maxAns; omega)) (fun _ h => ⟨rfl, h⟩) ?_
  clear hO hK hP
  intro u S1 w2 _ _ _ hP hk hK hO
  replace hreg := hreg.keep hk
  clear hk
  obtain ⟨a0, a1, a2, a3, a4, a5, a6⟩ := hreg.nth hrh.out.1
  go_wp2_with fail
  clear a0 a1 a2 a3 a4 a5 a6
  refine tstepN (notes_regW _ _ _) hO hK (reg_write_p B p S1 r1 m 0 _ hP hok1 ⟨by omega, hm1'⟩) (fun _ h => ⟨rfl, h⟩) ?_
  clear hO hK hP
  intro u S2 w3 _ _ _ hP hk hK hO
  replace hreg := hreg.keep hk
  clear hk
  obtain ⟨a0, a1, a2, a3, a4, a5, a6⟩ := hreg.nth hrh.out.2
  go_wp2_with fail
  clear a0 a1 a2 a3 a4 a5 a6 hrh hreg
  refine tlast hO hK (reg_write_p B p S2 rm m 0 _ hP hokm ⟨by omega, hmm⟩) (fun _ h => ⟨rfl, h⟩) ?_
  clear hO hK hP
  intro u S3 w4 hr hP hk hK hO
  have hf := hO.done hP hK
  clear hO hP hK hr hk
  go_wp2_with fail
  first | exact hf | (refine bodyPost_ret (results_none rfl _ _ _) rfl ?_; exact hf)
end Go.Proofs.Ytpcohbpeglledaa
/-
  A scope in which the run jumps to several labels.
-/
namespace Kv
open Go
/-- So many values, one behind the other. -/
def Fr : Nat → (List Value → Prop) → Prop
  | 0, G => G []
  | n + 1, G => ∀ u : Value, Fr n fun l => G (u :: l)
theorem fr_list : ∀ (n : Nat) (G : List Value → Prop), Fr n G → ∀ l : List Value, l.length = n → G l
  | 0, G, h, [], _ => h
  | n + 1, G, h, u :: l, hl => fr_list n (fun l => G (u :: l)) (h u) l (by simpa using hl)
/-- A frame of so many slots is its slots. -/
theorem fr_act (n : Nat) (G : Act → Prop) (h : Fr n fun l => G ⟨l.toArray, []⟩) (a : Act) (hd : a.defers = []) (hs : a.tmps.size = n) : G a := by
  obtain ⟨⟨l⟩, d⟩ := a
  obtain rfl : d = [] := hd
  exact fr_list n (fun l => G ⟨l.toArray, []⟩) h l (by simpa using hs)
/-- As Q; by a goto to label l: what J asks there. -/
def Jumps (J : Nat → Act → World → Prop) (Q : Exit → Act → World → Prop) : Exit → Act → World → Prop
  | .goto l, a, w => J l a w
  | e, a, w => Q e a w
section
variable {P : Program} {a : Act} {w : World} {J : Nat → Act → World → Prop} {Q : Exit → Act → World → Prop}
@[go_sem] theorem jumps_normal : Jumps J Q .normal a w = Q .normal a w := rfl
@[go_sem] theorem jumps_exit (id : Nat) : Jumps J Q (.exit id) a w = Q (.exit id) a w := rfl
@[go_sem] theorem jumps_ret : Jumps J Q .ret a w = Q .ret a w := rfl
@[go_sem] theorem jumps_panic (c : List PanicEntry) : Jumps J Q (.panic c) a w = Q (.panic c) a w := rfl
@[go_sem] theorem jumps_goto (l : Nat) : Jumps J Q (.goto l) a w = J l a w := rfl
/-- Each label with what holds where it is jumped to, and a measure that each pass lowers. -/
theorem wp_scope_labels {c : Code} (J : Nat → Act → World → Prop) (μ : Nat → Act → World → Nat) (first : c.wp P (Jumps J Q) a w)
    (pass : ∀ l a w, J l a w → ∃ rest, findLabel c l = some rest ∧ rest.wp P (Jumps (fun l' a' w' => J l' a' w' ∧ μ l' a' w' < μ l a w) Q) a w) : (Code.scope c).wp P Q a w := by
  intro b k cs
  have key : ∀ n l a w rest, findLabel c l = some rest → μ l a w = n → J l a w → ∃ e a' w', Q e a' w' ∧ Arrives P (lone (b.at a (.code rest :: .inScope c :: k)) cs w) b k cs e a' w' := by
    intro n
    induction n using Nat.strongRecOn with
    | _ n ih =>
      intro l a w rest hf hn hJ
      obtain ⟨rest', hf', hp⟩ := pass l a w hJ
      obtain rfl : rest = rest' := by rw [hf] at hf'; injection hf'
      obtain ⟨e, a₁, w₁, hq, harr⟩ := hp b (.inScope c :: k) cs
      cases e with
      | normal => exact ⟨.normal, a₁, w₁, hq, Steps.trans harr (.one step_inScope)⟩
      | exit id => exact ⟨.exit id, a₁, w₁, hq, fun k' hk => harr k' (by simp [exitTo, hk])⟩
      | goto l' =>
        obtain ⟨hJ', hlt⟩ := hq
        obtain ⟨rest2, hf2, _⟩ := pass l' a₁ w₁ hJ'
        have hg : gotoIn l' (.inScope c :: k) = some (.code rest2 :: .inScope c :: k) := by simp [gotoIn, hf2]
        obtain ⟨e₂, a₂, w₂, hq₂, harr₂⟩ := ih _ (by omega) l' a₁ w₁ rest2 hf2 rfl hJ'
        exact ⟨e₂, a₂, w₂, hq₂, .of_steps (harr _ hg) harr₂⟩
      | ret => exact ⟨_, a₁, w₁, hq, harr⟩
      | panic ch => exact ⟨_, a₁, w₁, hq, harr⟩
      | outgrown => exact ⟨_, a₁, w₁, hq, harr⟩
  obtain ⟨e, a₁, w₁, hq, harr⟩ := first b (.inScope c :: k) cs
  cases e with
  | normal => exact ⟨.normal, a₁, w₁, hq, .head step_scope (Steps.trans harr (.one step_inScope))⟩
  | exit id => exact ⟨.exit id, a₁, w₁, hq, fun k' hk => .head step_scope (harr k' (by simp [exitTo, hk]))⟩
  | goto l' =>
    obtain ⟨rest2, hf2, _⟩ := pass l' a₁ w₁ hq
    have hg : gotoIn l' (.inScope c :: k) = some (.code rest2 :: .inScope c :: k) := by simp [gotoIn, hf2]
    obtain ⟨e₂, a₂, w₂, hq₂, harr₂⟩ := key _ l' a₁ w₁ rest2 hf2 rfl hq
    exact ⟨e₂, a₂, w₂, hq₂, .of_steps (.head step_scope (harr _ hg)) harr₂⟩
  | ret => exact ⟨_, a₁, w₁, hq, .of_steps (.one step_scope) harr⟩
  | panic ch => exact ⟨_, a₁, w₁, hq, .of_steps (.one step_scope) harr⟩
  | outgrown => exact ⟨_, a₁, w₁, hq, .of_steps (.one step_scope) harr⟩
/-- As above; who runs into a label holds what holds where it is jumped to. -/
theorem wp_scope_fall {c : Code} (J : Nat → Act → World → Prop) (μ : Nat → Act → World → Nat)
    (pass : ∀ l a w, J l a w → ∃ rest, findLabel c l = some (.seq .skip rest) ∧ rest.wp P (Jumps (fun l' a' w' => J l' a' w' ∧ μ l' a' w' < μ l a w) Q) a w)
    (first : (∀ l rest a w, findLabel c l = some (.seq .skip rest) → J l a w → rest.wp P (Jumps J Q) a w) → c.wp P (Jumps J Q) a w) : (Code.scope c).wp P Q a w := by
  refine wp_scope_labels J μ (first fun l rest a w hf hJ => ?_) fun l a w hJ => ?_
  · obtain ⟨rest', hf', hp⟩ := pass l a w hJ
    obtain rfl : rest = rest' := by rw [hf] at hf'; simpa using hf'
    refine Code.wp_mono (fun e a2 w2 hq => ?_) hp
    cases e with
    | goto l' => exact hq.1
    | normal => exact hq
    | exit id => exact hq
    | ret => exact hq
    | panic ch => exact hq
    | outgrown => exact hq
  · obtain ⟨rest, hf, hp⟩ := pass l a w hJ
    exact ⟨_, hf, wp_seq (wp_skip hp)⟩
end
end Kv
/-
  The fast lock's tries, as the program walks them; steps that tell all.
-/
namespace Kv
theorem fastTry_bind {β : Type} (N : Nat) (l : List Reg) (n me : Int) (k : Nat) (f : Unit → Prog β) : (fastTry N l n me (k + 1)).bind f =
    (regW (regAt l (2 + me)) me 1).bind fun _ => (regW (regAt l 0) me (me + 1)).bind fun _ => (regR (regAt l 1) me).bind fun y =>
      if y = 0 then
        (regW (regAt l 1) me (me + 1)).bind fun _ => (regR (regAt l 0) me).bind fun x =>
          if x = me + 1 then f () else
            (regW (regAt l (2 + me)) me 0).bind fun _ => (forP (fun j _ => zeroP (regAt l (2 + j)) me N) (ranksFrom (-1) n.toNat 0) ()).bind fun _ =>
              (regR (regAt l 1) me).bind fun y => if y = me + 1 then f () else (zeroP (regAt l 1) me N).bind fun _ => (fastTry N l n me k).bind f
      else (regW (regAt l (2 + me)) me 0).bind fun _ => (zeroP (regAt l 1) me N).bind fun _ => (fastTry N l n me k).bind f := by
  simp only [fastTry, Prog.bind_assoc]
  congr 1; funext _; congr 1; funext _; congr 1; funext y
  by_cases hy : y = 0
  · simp only [if_pos hy, Prog.bind_assoc]
    congr 1; funext _; congr 1; funext x
    by_cases hx : x = me + 1
    · simp only [if_pos hx]; rfl
    · simp only [if_neg hx, Prog.bind_assoc]
      congr 1; funext _; congr 1; funext _; congr 1; funext z
      by_cases hz : z = me + 1
      · simp only [if_pos hz]; rfl
      · simp only [if_neg hz, Prog.bind_assoc]
  · simp only [if_neg hy, Prog.bind_assoc]
theorem zeroT_bind {β : Type} (r : Reg) (me : Int) (D : Nat) (f : Unit → Prog β) : (zeroP r me D).bind f = ((zeroP r me D).bind fun _ => Prog.ret true).bind fun _ => f () := by
  rw [Prog.bind_assoc]; rfl
theorem zeroT_run {r : Reg} {me : Int} {D : Nat} {S S1 : TS} {v : Bool} (h : ((zeroP r me D).bind fun _ => Prog.ret true).run S = (some v, S1)) : v = true ∧ (zeroP r me D).run S = (some (), S1) := by
  rw [Prog.run_bind] at h
  rcases hr : (zeroP r me D).run S with ⟨o, S2⟩
  rw [hr] at h
  cases o with
  | none => simp [thenR] at h
  | some u =>
    simp only [thenR, Prog.run, Prod.mk.injEq, Option.some.injEq] at h
    exact ⟨h.1.symm, by rw [← h.2]⟩
theorem notes_zeroT (r : Reg) (me : Int) (D : Nat) : ((zeroP r me D).bind fun _ => Prog.ret true).Notes 0 := (notes_zeroP r me D).bind0 fun _ => .ret _ _
end Kv
namespace Go.Proofs.Ytpcohbpeglledaa
open Go.RowKit Kv
/-- A step: what it told, what is left of the answers, how many notes there are. -/
theorem tstepA {α β : Type} {B p : Nat} {w0 w : World} {S : TS} {R : Ending → World → Prop} {P : Program} {f : FuncId} {args : Array Value} {K : Ending → World → Prop} {enc : α → Value} {enc' : β → Value} {T : Prog α} {g : α → Prog β} {k : Nat} (hN : T.Notes k)
    (hO : Owes R enc' B p w0 ((T.bind g).run S)) (hB : KeepP B p w0 w) (h : Calls P f args w (Post enc B p w (T.run S))) (hp : ∀ w', R (stopE p) w' → K (stopE p) w')
    (hk : ∀ v S1 w1, T.run S = (some v, S1) → S1.left ≤ S.left → (T.Asks → S1.left < S.left) → S1.nts.length ≤ S.nts.length + k → Plays B w1 p S1 → KeepP B p w w1 → KeepP B p w0 w1 → Owes R enc' B p w0 ((g v).run S1) → K (.returned (enc v)) w1) : Calls P f args w K := by
  refine tstep hO hB h hp fun v S1 w1 hr hP hk1 hk2 hO1 => hk v S1 w1 hr ?_ (fun ha => ha.left hr hP.1) ?_ hP hk1 hk2 hO1
  · have := Prog.run_left T S
    rw [hr] at this
    exact this
  · have := hN.run S
    rw [hr] at this
    exact this
/-- Two objects laid one behind the other. -/
theorem two_laid {B p b : Nat} {w : World} {S : TS} {rs : List Reg} (h : Plays B w p S) (hl : RegsAt [2, 3, 4] w p b rs) (o1 o2 : Obj) :
    HeldP ((w.alloc o1).alloc o2).drew p w.heap.size o1 ∧ HeldP ((w.alloc o1).alloc o2).drew p (w.heap.size + 1) o2 ∧ Plays B ((w.alloc o1).alloc o2).drew p S ∧ KeepP B p w ((w.alloc o1).alloc o2).drew ∧ RegsAt [2, 3, 4] ((w.alloc o1).alloc o2).drew p b rs := by
  have h2 := (h.alloc o1).held o2
  rw [World.size_alloc] at h2
  exact ⟨((h.held o1).alloc o2 (h.alloc o1).lt).drew, h2.drew, ((h.alloc o1).alloc o2).drew, ((Keep.alloc o1 h.lt h.le).trans (Keep.alloc o2 (h.alloc o1).lt (h.alloc o1).le)).drew, hl.extL ((((Ext.refl w).alloc o1).alloc o2).drew) h.lt⟩
end Go.Proofs.Ytpcohbpeglledaa
/-
  The fast lock, by the program: acquiring.
-/
namespace Go.Proofs.Ytpcohbpeglledaa
open Go.RowKit Kv
set_option maxRecDepth 100000 in
set_option maxHeartbeats 4000000 in
theorem fastacq_p (B p N D : Nat) (S : TS) (alg mode base loc room : Int) (m : Nat) (rs : List Reg) (w : World) (h : Plays B w p S) (h1 : 1 ≤ N) (h2 : N ≤ 8) (hm1 : m < N) (hl : layM (fastWants N) N mode base loc = some rs)
    (hok : ∀ r ∈ rs, r.ok ∧ r.n = N) (htold : ∀ (i : Nat) r, rs[i]? = some r → i ≠ 2 + m → r.told m) (hD : S.left < D) (hn0 : S.nts.length = 0)
    (Z : TS → Prop) (hzw : ∀ rm, rs[2 + m]? = some rm → ∀ S S', (regW rm m 0).run S = (some (), S') → Z S')
    (hzk : ∀ (j : Nat) r, rs[j]? = some r → ∀ S S', (zeroP r m D).run S = (some (), S') → Z S → Z S')
    (hzz : ∀ rm, rs[2 + m]? = some rm → ∀ S, Z S → rm.told m ∨ (regR rm m).run S = (some 0, S)) :
    Calls Try.prog 27 #[.pointer (some ⟨p, 0, none⟩), .agg #[.int .i64 alg, .int .i64 N, .int .i64 mode, .int .i64 base, .int .i64 loc, .int .i64 room], .int .i64 m] w (Post encI B p w ((fastA D rs N m).run S)) := by
  have hlen := layM_len hl
  rw [fastWants_len] at hlen
  generalize hR : Post encI B p w ((fastA D rs N m).run S) = R
  have hO : Owes R encI B p w ((fastA D rs N m).run S) := hR ▸ owes _ _ _ _ _
  clear hR
  have hK := Keep.refl [2, 3, 4] B p w
  have hP := h
  have b1 := hP.held (.cells #[.int .i64 alg, .int .i64 N, .int .i64 mode, .int .i64 base, .int .i64 loc, .int .i64 room] 44)
  replace hK := hK.trans (Keep.alloc (.cells #[.int .i64 alg, .int .i64 N, .int .i64 mode, .int .i64 base, .int .i64 loc, .int .i64 room] 44) hP.lt hP.le)
  replace hP := hP.alloc (.cells #[.int .i64 alg, .int .i64 N, .int .i64 mode, .int .i64 base, .int .i64 loc, .int .i64 room] 44)
  have c_b1 := b1.cells
  clear h
  unfold fastA at hO
  obtain ⟨r0, hr0⟩ : ∃ r, rs[0]? = some r := ⟨_, List.getElem?_eq_getElem (by omega)⟩
  obtain ⟨r1, hr1⟩ : ∃ r, rs[1]? = some r := ⟨_, List.getElem?_eq_getElem (by omega)⟩
  obtain ⟨rm, hrm⟩ : ∃ r, rs[2 + m]? = some r := ⟨_, List.getElem?_eq_getElem (by omega)⟩
  have hok0 := (hok _ (List.mem_of_getElem? hr0)).1
  have hm0' : (m : Int) < r0.n := by rw [(hok _ (List.mem_of_getElem? hr0)).2]; omega
  have ht0 := htold 0 r0 hr0 (by omega)
  have hok1 := (hok _ (List.mem_of_getElem? hr1)).1
  have hm1' : (m : Int) < r1.n := by rw [(hok _ (List.mem_of_getElem? hr1)).2]; omega
  have ht1 := htold 1 r1 hr1 (by omega)
  have hokm := (hok _ (List.mem_of_getElem? hrm)).1
  have hmm : (m : Int) < rm.n := by rw [(hok _ (List.mem_of_getElem? hrm)).2]; omega
  have hw2 := IntWalk.i64_in ((m : Int) + 1) (by omega)
  have hrh := Lib.hid (And.intro hr0 (And.intro hr1 hrm))
  have hokh := Lib.hid hok
  have htoldh := Lib.hid htold
  have hlenh := Lib.hid hlen
  have hzwh := Lib.hid (hzw rm hrm)
  have hzkh := Lib.hid hzk
  have hzzh := Lib.hid (hzz rm hrm)
  have hlh := Lib.hid hl
  clear hzw hzk hzz hlen hr0 hr1 hrm hok htold hl
  go_enter Try.func27, Try.ntmps27
  have hOh := Lib.hid hO
  clear hO
  go_wp2_with fail
  obtain ⟨J0, hJ0⟩ : ∃ J0 : Nat → Nat → Nat → Nat → World → Prop, ∀ x y b cc wr, J0 x y b cc wr ↔ ∃ (k : Nat) (S2 : TS), Plays B wr p S2 ∧ KeepP B p w wr ∧ HeldP wr p x (.cells #[.int .i64 r0.kind, .int .i64 r0.base, .int .i64 r0.loc, .int .i64 r0.n, .int .i64 r0.wr, .int .i64 r0.rd, .int .i64 r0.top] 41) ∧ HeldP wr p y (.cells #[.int .i64 r1.kind, .int .i64 r1.base, .int .i64 r1.loc, .int .i64 r1.n, .int .i64 r1.wr, .int .i64 r1.rd, .int .i64 r1.top] 41) ∧ RegsAt [2, 3, 4] wr p b rs ∧ S2.left < D ∧ S2.nts.length ≤ 1 ∧ S2.left < k ∧ Hid (Owes R encI B p w (((fastTry D rs N m k).bind fun _ => (nt 3).bind fun _ => .ret 0).run S2)) := ⟨_, fun _ _ _ _ _ => Iff.rfl⟩
  obtain ⟨J1, hJ1⟩ : ∃ J1 : World → Prop, ∀ wr, J1 wr ↔ ∃ S2 : TS, Plays B wr p S2 ∧ KeepP B p w wr ∧ S2.nts.length ≤ 1 ∧ Hid (Owes R encI B p w (((nt 3).bind fun _ => .ret (0 : Int)).run S2)) := ⟨_, fun _ => Iff.rfl⟩
  refine wp_scope_fall (fun l a wr => ∃ x y b cc : Nat, a.defers = [] ∧ a.tmps.size = 111 ∧ a.tmps[0]? = some (.pointer (some ⟨p, 0, none⟩)) ∧ a.tmps[2]? = some (.int .i64 m) ∧ a.tmps[9]? = some (.pointer (some ⟨x, 0, none⟩)) ∧ a.tmps[10]? = some (.pointer (some ⟨y, 0, none⟩)) ∧ a.tmps[11]? = some (.slice (some ⟨b, 14, none⟩) N cc) ∧ (l = 0 ∧ J0 x y b cc wr ∨ l = 1 ∧ J1 wr)) (fun l _ wr => if l = 0 then leftW 1 3 wr p + 1 else 0) ?pass ?first
  case pass =>
    clear hP hK b1 hOh hD hn0 c_b1
    rintro l a wq ⟨x, y, b, cc, ha, hs, f0, f2, f9, f10, f11, hrel⟩
    try dsimp only
    refine fr_act 111 (fun a' => a'.tmps[0]? = some (.pointer (some ⟨p, 0, none⟩)) → a'.tmps[2]? = some (.int .i64 m) → a'.tmps[9]? = some (.pointer (some ⟨x, 0, none⟩)) → a'.tmps[10]? = some (.pointer (some ⟨y, 0, none⟩)) → a'.tmps[11]? = some (.slice (some ⟨b, 14, none⟩) N cc) → ∃ rest, findLabel _ l = some (.seq .skip rest) ∧ rest.wp _ _ a' wq) ?_ a ha hs f0 f2 f9 f10 f11
    clear f0 f2 f9 f10 f11
    clear ha hs a
    dsimp only [Fr]
    intro u0 u1 u2 u3 u4 u5 u6 u7 u8 u9 u10 u11 u12 u13 u14 u15 u16 u17 u18 u19 u20 u21 u22 u23 u24 u25 u26 u27 u28 u29 u30 u31 u32 u33 u34 u35 u36 u37 u38 u39 u40 u41 u42 u43 u44 u45 u46 u47 u48 u49 u50 u51 u52 u53 u54 u55 u56 u57 u58 u59 u60 u61 u62 u63 u64 u65 u66 u67 u68 u69 u70 u71 u72 u73 u74 u75 u76 u77 u78 u79 u80 u81 u82 u83 u84 u85 u86 u87 u88 u89 u90 u91 u92 u93 u94 u95 u96 u97 u98 u99 u100 u101 u102 u103 u104 u105 u106 u107 u108 u109 u110 f0 f2 f9 f10 f11
    obtain rfl := Option.some.inj f0
    obtain rfl := Option.some.inj f2
    obtain rfl := Option.some.inj f9
    obtain rfl := Option.some.inj f10
    obtain rfl := Option.some.inj f11
    clear f0 f2 f9 f10 f11
    rcases hrel with ⟨rfl, hrel⟩ | ⟨rfl, hrel⟩
    · rw [hJ0] at hrel
      obtain ⟨k, S2, hP, hK, bx, by', hreg, hD, hn0, hkk, hOh⟩ := hrel
      cases k with
      | zero => omega
      | succ k =>
        replace hO := hOh.out
        clear hOh
        rw [fastTry_bind, regAt_of (show (0 : Int) = ((0 : Nat) : Int) from rfl) hrh.out.1, regAt_of (show (1 : Int) = ((1 : Nat) : Int) from rfl) hrh.out.2.1, regAt_of (show (2 : Int) + (m : Int) = ((2 + m : Nat) : Int) from by omega) hrh.out.2.2] at hO
        have hlw := Lib.hid hP.left
        have hsh : (2 + m) * 7 = 14 + m * 7 := by omega
        have hmN : (m : Int) < (N : Int) := by omega
        have hOh := Lib.hid hO
        clear hO
        refine ⟨_, rfl, ?_⟩
        obtain ⟨a0, a1, a2, a3, a4, a5, a6⟩ := hreg.nth hrh.out.2.2
        rw [hsh] at a0 a1 a2 a3 a4 a5 a6
        go_wp2_with fail
        replace hO := hOh.out
        clear hOh a0 a1 a2 a3 a4 a5 a6
        refine tstepA (notes_regW _ _ _) hO hK (reg_write_p B p S2 rm m 1 _ hP hokm ⟨by omega, hmm⟩) (fun _ h => ⟨rfl, h⟩) ?_
        clear hO hK hP
        intro u S3 w2 hrun hlf hla hnn hP hk hK hO
        replace hD := Nat.lt_of_le_of_lt hlf hD
        replace hn0 : S3.nts.length ≤ 1 := by omega
        replace hreg := hreg.keep hk
        replace bx := bx.keep hk
        replace by' := by'.keep hk
        clear hk
        have hOh := Lib.hid hO
        clear hO
        have c_bx := bx.cells
        go_wp2_with fail
        replace hO := hOh.out
        clear hOh c_bx
        refine tstepA (notes_regW _ _ _) hO hK (reg_write_p B p S3 r0 m _ _ hP hok0 ⟨by omega, hm0'⟩) (fun _ h => ⟨rfl, h⟩) ?_
        clear hO hK hP
        intro u S4 w2 hrun hlf hla hnn hP hk hK hO
        replace hD := Nat.lt_of_le_of_lt hlf hD
        replace hn0 : S4.nts.length ≤ 1 := by omega
        replace hreg := hreg.keep hk
        replace bx := bx.keep hk
        replace by' := by'.keep hk
        clear hk
        have hOh := Lib.hid hO
        clear hO
        have c_by := by'.cells
        go_wp2_with fail
        replace hO := hOh.out
        clear hOh c_by
        refine tstepA (notes_regR _ _) hO hK (reg_read_p B p S4 r1 m _ hP hok1 ⟨by omega, hm1'⟩) (fun _ h => ⟨rfl, h⟩) ?_
        clear hO hK hP
        intro y0 S5 w2 hrun hlf5 hla5 hnn hP hk hK hO
        have hlt5 := hla5 (asks_regR _ _ ht1)
        replace hD := Nat.lt_of_le_of_lt hlf5 hD
        replace hn0 : S5.nts.length ≤ 1 := by omega
        replace hreg := hreg.keep hk
        replace bx := bx.keep hk
        replace by' := by'.keep hk
        have hl5 : S5.left < S2.left := by omega
        clear hk
        clear hlt5 hla5 hlf5
        by_cases hy : y0 = 0
        · have dy : (y0 != 0) = false := by simpa using hy
          rw [if_pos hy] at hO
          clear hy
          have hOh := Lib.hid hO
          clear hO
          have c_by := by'.cells
          go_wp2_with fail
          replace hO := hOh.out
          clear hOh c_by
          refine tstepA (notes_regW _ _ _) hO hK (reg_write_p B p S5 r1 m _ _ hP hok1 ⟨by omega, hm1'⟩) (fun _ h => ⟨rfl, h⟩) ?_
          clear hO hK hP
          intro u S6 w2 hrun hlf hla hnn hP hk hK hO
          replace hD := Nat.lt_of_le_of_lt hlf hD
          replace hn0 : S6.nts.length ≤ 1 := by omega
          replace hreg := hreg.keep hk
          replace bx := bx.keep hk
          replace by' := by'.keep hk
          clear hk
          have hOh := Lib.hid hO
          clear hO
          have c_bx := bx.cells
          go_wp2_with fail
          replace hO := hOh.out
          clear hOh c_bx
          refine tstepA (notes_regR _ _) hO hK (reg_read_p B p S6 r0 m _ hP hok0 ⟨by omega, hm0'⟩) (fun _ h => ⟨rfl, h⟩) ?_
          clear hO hK hP
          intro u S7 w2 hrun hlf hla hnn hP hk hK hO
          replace hD := Nat.lt_of_le_of_lt hlf hD
          replace hn0 : S7.nts.length ≤ 1 := by omega
          replace hreg := hreg.keep hk
          replace bx := bx.keep hk
          replace by' := by'.keep hk
          clear hk
          have hOh := Lib.hid hO
          clear hO
          by_cases hx : u = (m : Int) + 1
          · have dx : (u == (m : Int) + 1) = true := by simpa using hx
            replace hO := hOh.out
            rw [if_pos hx] at hO
            clear hx hOh
            have hOh := Lib.hid hO
            clear hO
            go_wp2_with fail
            refine wp_goto ?_
            refine And.intro ⟨x, y, b, cc, rfl, rfl, rfl, rfl, rfl, rfl, rfl, .inr ⟨rfl, (hJ1 _).2 ⟨S7, hP, hK, hn0, hOh⟩⟩⟩ ?_
            show 0 < leftW 1 3 wq p + 1
            omega
          · have dx : (u == (m : Int) + 1) = false := by simpa using hx
            replace hO := hOh.out
            rw [if_neg hx] at hO
            clear hx hOh
            have hOh := Lib.hid hO
            clear hO
            obtain ⟨a0, a1, a2, a3, a4, a5, a6⟩ := hreg.nth hrh.out.2.2
            rw [hsh] at a0 a1 a2 a3 a4 a5 a6
            go_wp2_with fail
            replace hO := hOh.out
            clear hOh a0 a1 a2 a3 a4 a5 a6
            refine tstepA (notes_regW _ _ _) hO hK (reg_write_p B p S7 rm m 0 _ hP hokm ⟨by omega, hmm⟩) (fun _ h => ⟨rfl, h⟩) ?_
            clear hO hK hP
            intro u S8 w2 hrun hlf hla hnn hP hk hK hO
            replace hD := Nat.lt_of_le_of_lt hlf hD
            replace hn0 : S8.nts.length ≤ 1 := by omega
            replace hreg := hreg.keep hk
            replace bx := bx.keep hk
            replace by' := by'.keep hk
            clear hk
            have hOh := Lib.hid hO
            clear hO
            have hz := hzwh.out _ _ hrun
            replace hO := hOh.out
            rw [show (N : Int).toNat = N from by omega] at hO
            clear hOh hrun
            have hzh := Lib.hid hz
            have hOh := Lib.hid hO
            clear hO hz
            go_wp2_with fail
            have hl8 : S8.left < S2.left := by omega
            obtain ⟨F, hF⟩ : ∃ F : Unit → Prog Int, F = fun _ => (regR r1 m).bind fun y => if y = (m : Int) + 1 then (nt 3).bind fun _ => .ret 0 else (zeroP r1 m D).bind fun _ => (fastTry D rs N m k).bind fun _ => (nt 3).bind fun _ => .ret 0 := ⟨_, rfl⟩
            replace hO := hOh.out
            rw [← hF] at hO
            clear hOh
            have hOh := Lib.hid hO
            have hFh := Lib.hid hF
            clear hO hF
            go_loopw [89] (fun i wr => ∃ (q : Nat) (S9 : TS), i = .int .i64 q ∧ q ≤ N ∧ Plays B wr p S9 ∧ KeepP B p w wr ∧ HeldP wr p x (.cells #[.int .i64 r0.kind, .int .i64 r0.base, .int .i64 r0.loc, .int .i64 r0.n, .int .i64 r0.wr, .int .i64 r0.rd, .int .i64 r0.top] 41) ∧ HeldP wr p y (.cells #[.int .i64 r1.kind, .int .i64 r1.base, .int .i64 r1.loc, .int .i64 r1.n, .int .i64 r1.wr, .int .i64 r1.rd, .int .i64 r1.top] 41) ∧ RegsAt [2, 3, 4] wr p b rs ∧ S9.left < D ∧ S9.left < S2.left ∧ S9.nts.length ≤ 1 ∧ Hid (Z S9) ∧ Hid (Owes R encI B p w (((forP (fun j _ => zeroP (regAt rs (2 + j)) m D) (ranksFrom (-1) (N - q) q) ()).bind F).run S9))) (fun i _ => N - (intOf i).toNat)
            case atStart => exact ⟨0, S8, rfl, by omega, hP, hK, bx, by', hreg, hD, hl8, hn0, hzh, hOh⟩
            case round =>
              clear hP hK hreg bx by' hD hn0 hzh hOh hl8
              obtain ⟨q, S9, rfl, hq, hP, hK, bx, by', hreg, hD, hl9, hn0, hzh, hOh⟩ := hrel
              by_cases hlt : q < N
              · have dlt : decide ((q : Int) < (N : Int)) = true := by rw [decide_eq_true_eq]; omega
                obtain ⟨v, hv⟩ : ∃ v, N - q = v + 1 := ⟨N - q - 1, by omega⟩
                obtain ⟨rk, hrk⟩ : ∃ r, rs[2 + q]? = some r := ⟨_, List.getElem?_eq_getElem (by have := hlenh.out; omega)⟩
                replace hO := hOh.out
                rw [hv, ranks_cons _ _ _ (by omega), forP_consB, regAt_of (show (2 : Int) + (q : Int) = ((2 + q : Nat) : Int) from by omega) hrk, show v = N - (q + 1) from by omega, zeroT_bind] at hO
                have hokk := (hokh.out _ (List.mem_of_getElem? hrk)).1
                have hmk : (m : Int) < rk.n := by rw [(hokh.out _ (List.mem_of_getElem? hrk)).2]; omega
                have hcall : ∀ W, Plays B W p S9 → Calls Try.prog 60 #[.pointer (some ⟨p, 0, none⟩), encR rk, .int .i64 m] W (Post encB B p W (((zeroP rk m D).bind fun _ => .ret true).run S9)) := fun W hW => by
                  by_cases hkm : q = m
                  · subst hkm
                    obtain rfl : rm = rk := Option.some.inj (hrh.out.2.2.symm.trans hrk)
                    rcases hzzh.out _ hzh.out with ht | hz
                    · exact fwait_p B p D S9 rm q W hW hokk (by omega) hmk ht hD
                    · obtain ⟨E, rfl⟩ : ∃ E, D = E + 1 := ⟨D - 1, by omega⟩
                      exact fwait_z B p E S9 rm q W hW hokk (by omega) hmk hz
                  · exact fwait_p B p D S9 rk m W hW hokk (by omega) hmk (htoldh.out _ _ hrk (by omega)) hD
                have hch := Lib.hid hcall
                have hrkh := Lib.hid hrk
                have hsq : (2 + q) * 7 = 14 + q * 7 := by omega
                obtain ⟨a0, a1, a2, a3, a4, a5, a6⟩ := hreg.nth hrk
                rw [hsq] at a0 a1 a2 a3 a4 a5 a6
                have hOh := Lib.hid hO
                clear hO hcall hrk hv
                have bn := hP.held (.cells #[.int .i64 rk.kind, .int .i64 rk.base, .int .i64 rk.loc, .int .i64 rk.n, .int .i64 rk.wr, .int .i64 rk.rd, .int .i64 rk.top] 41)
                have hKn := hK.trans (Keep.alloc (.cells #[.int .i64 rk.kind, .int .i64 rk.base, .int .i64 rk.loc, .int .i64 rk.n, .int .i64 rk.wr, .int .i64 rk.rd, .int .i64 rk.top] 41) hP.lt hP.le)
                have hPn := hP.alloc (.cells #[.int .i64 rk.kind, .int .i64 rk.base, .int .i64 rk.loc, .int .i64 rk.n, .int .i64 rk.wr, .int .i64 rk.rd, .int .i64 rk.top] 41)
                have bxn := bx.alloc (.cells #[.int .i64 rk.kind, .int .i64 rk.base, .int .i64 rk.loc, .int .i64 rk.n, .int .i64 rk.wr, .int .i64 rk.rd, .int .i64 rk.top] 41) hP.lt
                have byn := by'.alloc (.cells #[.int .i64 rk.kind, .int .i64 rk.base, .int .i64 rk.loc, .int .i64 rk.n, .int .i64 rk.wr, .int .i64 rk.rd, .int .i64 rk.top] 41) hP.lt
                have hregn := hreg.extL ((Ext.refl wr).alloc (.cells #[.int .i64 rk.kind, .int .i64 rk.base, .int .i64 rk.loc, .int .i64 rk.n, .int .i64 rk.wr, .int .i64 rk.rd, .int .i64 rk.top] 41)) hP.lt
                have c_bn := bn.cells
                clear hK hP bx by' hreg
                go_wp2_with fail
                clear c_bn a0 a1 a2 a3 a4 a5 a6 bn
                have hP := hPn
                have hK := hKn
                have bx := bxn
                have by' := byn
                have hreg := hregn
                clear hPn hKn bxn byn hregn
                generalize wr.alloc _ = W at *
                replace hO := hOh.out
                clear hOh
                refine tstepA (notes_zeroT _ _ _) hO hK (hch.out _ hP) (fun _ h => ⟨rfl, h⟩) ?_
                clear hO hK hP
                intro vb S10 w2 hrun hlf hla hnn hP hk hK hO
                replace hD := Nat.lt_of_le_of_lt hlf hD
                replace hn0 : S10.nts.length ≤ 1 := by omega
                replace hreg := hreg.keep hk
                replace bx := bx.keep hk
                replace by' := by'.keep hk
                clear hk
                have hOh := Lib.hid hO
                clear hO
                obtain ⟨rfl, hzr⟩ := zeroT_run hrun
                have hz := hzkh.out _ _ hrkh.out _ _ hzr hzh.out
                clear hzh hrun hzr hch
                have hzh := Lib.hid hz
                clear hz
                go_wp2_with fail
                refine ⟨⟨q + 1, S10, by go_num, by omega, hP, hK, bx, by', hreg, hD, by omega, hn0, hzh, hOh⟩, ?_⟩
                simp [intOf]; omega
              · obtain rfl : q = N := by omega
                have dlt : decide ((q : Int) < (q : Int)) = false := by rw [decide_eq_false_iff_not]; omega
                replace hO := hOh.out
                rw [Nat.sub_self, ranks_zero, forP_nilB, hFh.out] at hO
                clear hOh hzh hlt hFh
                have hOh := Lib.hid hO
                clear hO
                have c_by := by'.cells
                go_wp2_with fail
                replace hO := hOh.out
                clear hOh c_by
                refine tstepA (notes_regR _ _) hO hK (reg_read_p B p S9 r1 m _ hP hok1 ⟨by omega, hm1'⟩) (fun _ h => ⟨rfl, h⟩) ?_
                clear hO hK hP
                intro y1 S10 w2 hrun hlf hla hnn hP hk hK hO
                replace hD := Nat.lt_of_le_of_lt hlf hD
                replace hn0 : S10.nts.length ≤ 1 := by omega
                replace hreg := hreg.keep hk
                replace bx := bx.keep hk
                replace by' := by'.keep hk
                clear hk
                have hOh := Lib.hid hO
                clear hO
                by_cases hx : y1 = (m : Int) + 1
                · have dx : (y1 == (m : Int) + 1) = true := by simpa using hx
                  replace hO := hOh.out
                  rw [if_pos hx] at hO
                  clear hx hOh
                  have hOh := Lib.hid hO
                  clear hO
                  go_wp2_with fail
                  refine wp_goto ?_
                  refine And.intro ⟨x, y, b, cc, rfl, rfl, rfl, rfl, rfl, rfl, rfl, .inr ⟨rfl, (hJ1 _).2 ⟨S10, hP, hK, hn0, hOh⟩⟩⟩ ?_
                  show 0 < leftW 1 3 wq p + 1
                  omega
                · have dx : (y1 == (m : Int) + 1) = false := by simpa using hx
                  replace hO := hOh.out
                  rw [if_neg hx, zeroT_bind] at hO
                  clear hx hOh
                  have hOh := Lib.hid hO
                  clear hO
                  have c_by := by'.cells
                  go_wp2_with fail
                  replace hO := hOh.out
                  clear hOh c_by
                  refine tstepA (notes_zeroT _ _ _) hO hK (fwait_p B p D S10 r1 m _ hP hok1 (by omega) hm1' ht1 hD) (fun _ h => ⟨rfl, h⟩) ?_
                  clear hO hK hP
                  intro vb S11 w2 hrun hlf hla hnn hP hk hK hO
                  replace hD := Nat.lt_of_le_of_lt hlf hD
                  replace hn0 : S11.nts.length ≤ 1 := by omega
                  replace hreg := hreg.keep hk
                  replace bx := bx.keep hk
                  replace by' := by'.keep hk
                  clear hk
                  have hOh := Lib.hid hO
                  clear hO
                  obtain ⟨rfl, -⟩ := zeroT_run hrun
                  go_wp2_with fail
                  have hlw2 := hP.left
                  refine wp_goto ?_
                  refine And.intro ⟨x, y, b, cc, rfl, rfl, rfl, rfl, rfl, rfl, rfl, .inl ⟨rfl, (hJ0 _ _ _ _ _).2 ⟨k, S11, hP, hK, bx, by', hreg, hD, hn0, by omega, hOh⟩⟩⟩ ?_
                  show leftW 1 3 _ p + 1 < leftW 1 3 wq p + 1
                  rw [hlw.out, hlw2]
                  omega
        · have dy : (y0 != 0) = true := by simpa using hy
          rw [if_neg hy] at hO
          clear hy
          have hOh := Lib.hid hO
          clear hO
          obtain ⟨a0, a1, a2, a3, a4, a5, a6⟩ := hreg.nth hrh.out.2.2
          rw [hsh] at a0 a1 a2 a3 a4 a5 a6
          go_wp2_with fail
          replace hO := hOh.out
          clear hOh a0 a1 a2 a3 a4 a5 a6
          refine tstepA (notes_regW _ _ _) hO hK (reg_write_p B p S5 rm m 0 _ hP hokm ⟨by omega, hmm⟩) (fun _ h => ⟨rfl, h⟩) ?_
          clear hO hK hP
          intro u S6 w2 hrun hlf hla hnn hP hk hK hO
          replace hD := Nat.lt_of_le_of_lt hlf hD
          replace hn0 : S6.nts.length ≤ 1 := by omega
          replace hreg := hreg.keep hk
          replace bx := bx.keep hk
          replace by' := by'.keep hk
          clear hk
          have hOh := Lib.hid hO
          clear hO
          replace hO := hOh.out
          rw [zeroT_bind] at hO
          clear hOh
          have hOh := Lib.hid hO
          clear hO
          have c_by := by'.cells
          go_wp2_with fail
          replace hO := hOh.out
          clear hOh c_by
          refine tstepA (notes_zeroT _ _ _) hO hK (fwait_p B p D S6 r1 m _ hP hok1 (by omega) hm1' ht1 hD) (fun _ h => ⟨rfl, h⟩) ?_
          clear hO hK hP
          intro vb S7 w2 hrun hlf hla hnn hP hk hK hO
          replace hD := Nat.lt_of_le_of_lt hlf hD
          replace hn0 : S7.nts.length ≤ 1 := by omega
          replace hreg := hreg.keep hk
          replace bx := bx.keep hk
          replace by' := by'.keep hk
          clear hk
          have hOh := Lib.hid hO
          clear hO
          obtain ⟨rfl, -⟩ := zeroT_run hrun
          go_wp2_with fail
          have hlw2 := hP.left
          refine wp_goto ?_
          refine And.intro ⟨x, y, b, cc, rfl, rfl, rfl, rfl, rfl, rfl, rfl, .inl ⟨rfl, (hJ0 _ _ _ _ _).2 ⟨k, S7, hP, hK, bx, by', hreg, hD, hn0, by omega, hOh⟩⟩⟩ ?_
          show leftW 1 3 _ p + 1 < leftW 1 3 wq p + 1
          rw [hlw.out, hlw2]
          omega
    · rw [hJ1] at hrel
      obtain ⟨S2, hP, hK, hn0, hOh⟩ := hrel
      clear hJ0 hJ1 hzzh hzkh hzwh
      refine ⟨_, rfl, ?_⟩
      go_wp2_with fail
      refine tstepN (notes_nt 3) hOh.out hK (noteO hP (by unfold maxAns; omega)) (fun _ h => ⟨rfl, h⟩) ?_
      clear hOh hK hP
      intro u S3 w3 _ _ _ hP _ hK hO
      have hf := hO.done (v := (0 : Int)) hP hK
      clear hO hP hK
      go_wp2_with fail
      first | exact hf | (go_ret; exact hf)
  case first =>
    intro hfall
    refine (fun (hfall : Hid _) => ?_) (Lib.hid hfall)
    clear hzwh hzkh hzzh htoldh hJ1
    go_wp2_with fail
    refine (fastlay_p alg mode base loc room m N rs _ h1 h2 hlh.out (by omega) (by omega)).mono ?_
    rintro e w1 ⟨b, c0, rfl, hge, hb, hcells, q1, q2, hx⟩
    obtain ⟨c, rfl⟩ : ∃ c, c0 = c + 3 := ⟨c0 - 3, by have := hlenh.out; omega⟩
    have hreg : RegsAt [2, 3, 4] w1 p b rs := ⟨hb, hP.fresh hx hge, hcells⟩
    replace hK := hK.trans (Keep.of_ext hx hP.lt hP.le)
    replace hP := hP.ext hx
    have hl2 : 2 ≤ rs.length := by have := hlenh.out; omega
    have hl3 : 1 < rs.length := by have := hlenh.out; omega
    have hl4 : 0 < rs.length := by have := hlenh.out; omega
    have hl5 : (2 : Int) ≤ (rs.length : Int) := by omega
    have hl6 : (1 : Int) < (rs.length : Int) := by omega
    have hl7 : (0 : Int) < (rs.length : Int) := by omega
    clear hx hcells hge hb b1 c_b1
    generalize w.alloc _ = W0 at *
    go_upto_region 4 with fail
    go_cut [9, 10, 11] (fun s9 s10 s11 wx => ∃ (x y : Nat), s9 = .pointer (some ⟨x, 0, none⟩) ∧ s10 = .pointer (some ⟨y, 0, none⟩) ∧ s11 = .slice (some ⟨b, 14, none⟩) (rs.length - 2) (c + 1) ∧ HeldP wx p x (.cells #[.int .i64 r0.kind, .int .i64 r0.base, .int .i64 r0.loc, .int .i64 r0.n, .int .i64 r0.wr, .int .i64 r0.rd, .int .i64 r0.top] 41) ∧ HeldP wx p y (.cells #[.int .i64 r1.kind, .int .i64 r1.base, .int .i64 r1.loc, .int .i64 r1.n, .int .i64 r1.wr, .int .i64 r1.rd, .int .i64 r1.top] 41) ∧ Plays B wx p S ∧ KeepP B p w wx ∧ RegsAt [2, 3, 4] wx p b rs)
    case first =>
      have hS : ∀ w', RegsAt [2, 3, 4] w' p b rs → ((w'.cell? ⟨b, 0, none⟩ = some (.int .i64 r0.kind) ∧ w'.cell? ⟨b, 1, none⟩ = some (.int .i64 r0.base) ∧ w'.cell? ⟨b, 2, none⟩ = some (.int .i64 r0.loc) ∧ w'.cell? ⟨b, 3, none⟩ = some (.int .i64 r0.n) ∧ w'.cell? ⟨b, 4, none⟩ = some (.int .i64 r0.wr) ∧ w'.cell? ⟨b, 5, none⟩ = some (.int .i64 r0.rd) ∧ w'.cell? ⟨b, 6, none⟩ = some (.int .i64 r0.top)) ∧ (w'.cell? ⟨b, 7, none⟩ = some (.int .i64 r1.kind) ∧ w'.cell? ⟨b, 8, none⟩ = some (.int .i64 r1.base) ∧ w'.cell? ⟨b, 9, none⟩ = some (.int .i64 r1.loc) ∧ w'.cell? ⟨b, 10, none⟩ = some (.int .i64 r1.n) ∧ w'.cell? ⟨b, 11, none⟩ = some (.int .i64 r1.wr) ∧ w'.cell? ⟨b, 12, none⟩ = some (.int .i64 r1.rd) ∧ w'.cell? ⟨b, 13, none⟩ = some (.int .i64 r1.top))) := fun w' y => by
        obtain ⟨a0, a1, a2, a3, a4, a5, a6⟩ := y.nth hrh.out.1
        obtain ⟨e0, e1, e2, e3, e4, e5, e6⟩ := y.nth hrh.out.2.1
        exact ⟨⟨a0, a1, a2, a3, a4, a5, a6⟩, ⟨e0, e1, e2, e3, e4, e5, e6⟩⟩
      have hrg2 := hreg.extL (Ext.refl w1).drew hP.lt
      obtain ⟨⟨a0, a1, a2, a3, a4, a5, a6⟩, ⟨e0, e1, e2, e3, e4, e5, e6⟩⟩ := hS _ hreg
      go_region_held2 (fun w' => (w'.cell? ⟨b, 0, none⟩ = some (.int .i64 r0.kind) ∧ w'.cell? ⟨b, 1, none⟩ = some (.int .i64 r0.base) ∧ w'.cell? ⟨b, 2, none⟩ = some (.int .i64 r0.loc) ∧ w'.cell? ⟨b, 3, none⟩ = some (.int .i64 r0.n) ∧ w'.cell? ⟨b, 4, none⟩ = some (.int .i64 r0.wr) ∧ w'.cell? ⟨b, 5, none⟩ = some (.int .i64 r0.rd) ∧ w'.cell? ⟨b, 6, none⟩ = some (.int .i64 r0.top)) ∧ (w'.cell? ⟨b, 7, none⟩ = some (.int .i64 r1.kind) ∧ w'.cell? ⟨b, 8, none⟩ = some (.int .i64 r1.base) ∧ w'.cell? ⟨b, 9, none⟩ = some (.int .i64 r1.loc) ∧ w'.cell? ⟨b, 10, none⟩ = some (.int .i64 r1.n) ∧ w'.cell? ⟨b, 11, none⟩ = some (.int .i64 r1.wr) ∧ w'.cell? ⟨b, 12, none⟩ = some (.int .i64 r1.rd) ∧ w'.cell? ⟨b, 13, none⟩ = some (.int .i64 r1.top))) (first | with_reducible exact hS _ hrg2 | go_keep) (fail)
      · rename_i hh
        clear hh
        obtain ⟨bx, by', hP2, hK2, hl9⟩ := two_laid hP hreg (.cells #[.int .i64 r0.kind, .int .i64 r0.base, .int .i64 r0.loc, .int .i64 r0.n, .int .i64 r0.wr, .int .i64 r0.rd, .int .i64 r0.top] 41) (.cells #[.int .i64 r1.kind, .int .i64 r1.base, .int .i64 r1.loc, .int .i64 r1.n, .int .i64 r1.wr, .int .i64 r1.rd, .int .i64 r1.top] 41)
        replace hK2 := hK.trans hK2
        clear hS hrg2 hreg hP hK a0 a1 a2 a3 a4 a5 a6 e0 e1 e2 e3 e4 e5 e6
        go_wp2_with fail
        go_meet
        exact ⟨_, _, rfl, rfl, rfl, bx, by', hP2, hK2, hl9⟩
      · rename_i hh
        clear hh
        obtain ⟨by', bx, hP2, hK2, hl9⟩ := two_laid hP hreg (.cells #[.int .i64 r1.kind, .int .i64 r1.base, .int .i64 r1.loc, .int .i64 r1.n, .int .i64 r1.wr, .int .i64 r1.rd, .int .i64 r1.top] 41) (.cells #[.int .i64 r0.kind, .int .i64 r0.base, .int .i64 r0.loc, .int .i64 r0.n, .int .i64 r0.wr, .int .i64 r0.rd, .int .i64 r0.top] 41)
        replace hK2 := hK.trans hK2
        clear hS hrg2 hreg hP hK a0 a1 a2 a3 a4 a5 a6 e0 e1 e2 e3 e4 e5 e6
        go_wp2_with fail
        go_meet
        exact ⟨_, _, rfl, rfl, rfl, bx, by', hP2, hK2, hl9⟩
    case rest =>
      clear hreg hP
      obtain ⟨x, y, rfl, rfl, hs11, bx, by', hP, hK, hreg⟩ := hcut
      rw [show rs.length - 2 = N from by have := hlenh.out; omega] at hs11
      generalize c + 1 = cc at hs11
      subst hs11
      go_wp2_with fail
      refine tstepN (notes_nt 1) hOh.out hK (noteO hP (by unfold maxAns; omega)) (fun _ h => ⟨rfl, h⟩) ?_
      clear hOh hK hP
      intro u S1 w2 hlf _ hnn hP hk hK hO
      replace hD := Nat.lt_of_le_of_lt hlf hD
      replace hn0 : S1.nts.length ≤ 1 := by omega
      replace hreg := hreg.keep hk
      replace bx := bx.keep hk
      replace by' := by'.keep hk
      have hOh := Lib.hid hO
      clear hO hk
      go_wp2_with fail
      refine wp_label ?_
      rename_i hKK
      replace hKK := Lib.hid hKK
      refine hKK.out _ _ ?_
      exact hfall.out 0 _ _ _ rfl ⟨x, y, b, cc, rfl, rfl, rfl, rfl, rfl, rfl, rfl, .inl ⟨rfl, (hJ0 _ _ _ _ _).2 ⟨D, S1, hP, hK, bx, by', hreg, hD, hn0, hD, hOh⟩⟩⟩
end Go.Proofs.Ytpcohbpeglledaa
/-
  Plain mathematics: which locals an operation sets.
-/
namespace Kv
/-- An operation that sets locals from lo on, below hi, alone. -/
inductive Prog.Sets {α : Type} (lo hi : Int) : Prog α → Prop
  | ret (a : α) : Sets lo hi (.ret a)
  | read (c : Int) {k : Int → Prog α} : (∀ x, Sets lo hi (k x)) → Sets lo hi (.read c k)
  | write (c v : Int) {k : Unit → Prog α} : Sets lo hi (k ()) → Sets lo hi (.write c v k)
  | get (i : Int) {k : Int → Prog α} : (∀ x, Sets lo hi (k x)) → Sets lo hi (.get i k)
  | set (i v : Int) {k : Unit → Prog α} : lo ≤ i → i < hi → Sets lo hi (k ()) → Sets lo hi (.set i v k)
  | note (m : Int) {k : Unit → Prog α} : Sets lo hi (k ()) → Sets lo hi (.note m k)
theorem Prog.Sets.bind {α β : Type} {lo hi : Int} {p : Prog α} {f : α → Prog β} (h : p.Sets lo hi) (hf : ∀ a, (f a).Sets lo hi) : (p.bind f).Sets lo hi := by
  induction h with
  | ret a => exact hf a
  | read c _ ih => exact .read c fun x => ih x
  | write c v _ ih => exact .write c v ih
  | get c _ ih => exact .get c fun x => ih x
  | set c v h1 h2 _ ih => exact .set c v h1 h2 ih
  | note m _ ih => exact .note m ih
theorem Prog.Sets.mono {α : Type} {lo hi lo' hi' : Int} {p : Prog α} (h : p.Sets lo hi) (h1 : lo' ≤ lo) (h2 : hi ≤ hi') : p.Sets lo' hi' := by
  induction h with
  | ret a => exact .ret a
  | read c _ ih => exact .read c fun x => ih x
  | write c v _ ih => exact .write c v ih
  | get c _ ih => exact .get c fun x => ih x
  | set c v h3 h4 _ ih => exact .set c v (by omega) (by omega) ih
  | note m _ ih => exact .note m ih
/-- All other locals stay. -/
theorem Prog.Sets.got {α : Type} {lo hi i : Int} {p : Prog α} (h : p.Sets lo hi) (hi2 : i < lo ∨ hi ≤ i) : ∀ S : TS, (p.run S).2.got i = S.got i := by
  induction h with
  | ret a => intro S; rfl
  | read c _ ih =>
    intro S
    simp only [Prog.run]
    cases S.next with
    | none => rfl
    | some v => exact (ih v _).trans rfl
  | write c v _ ih =>
    intro S
    simp only [Prog.run]
    cases S.next with
    | none => rfl
    | some _ => exact (ih _).trans rfl
  | get c _ ih => intro S; exact ih _ _
  | set j v h1 h2 _ ih =>
    intro S
    refine (ih (S.upd j v)).trans ?_
    unfold TS.got TS.upd
    split
    · rfl
    · split
      · simp only
        rw [if_neg (by omega)]
      · rfl
  | note m _ ih => intro S; exact (ih _).trans rfl
theorem sets_rd (lo hi c : Int) : (rd c).Sets lo hi := .read c fun x => .ret x
theorem sets_wr (lo hi c v : Int) : (wr c v).Sets lo hi := .write c v (.ret ())
theorem sets_gt (lo hi c : Int) : (gt c).Sets lo hi := .get c fun x => .ret x
theorem sets_st {lo hi c : Int} (v : Int) (h1 : lo ≤ c) (h2 : c < hi) : (st c v).Sets lo hi := .set c v h1 h2 (.ret ())
theorem sets_forP {σ : Type} {lo hi : Int} {T : Int → σ → Prog σ} : ∀ (l : List Int), (∀ a ∈ l, ∀ x, (T a x).Sets lo hi) → ∀ x : σ, (forP T l x).Sets lo hi
  | [], _, x => .ret x
  | a :: l, h, x => (h a (List.mem_cons_self ..) x).bind fun y => sets_forP l (fun b hb => h b (List.mem_cons_of_mem _ hb)) y
theorem ranks_mem {but : Int} : ∀ (n : Nat) (i : Int) {a : Int}, a ∈ ranksFrom but n i → i ≤ a ∧ a < i + n ∧ a ≠ but
  | 0, i, a, h => by cases h
  | n + 1, i, a, h => by
    unfold ranksFrom at h
    split at h
    · have := ranks_mem n (i + 1) h
      omega
    · rcases List.mem_cons.1 h with rfl | h
      · omega
      · have := ranks_mem n (i + 1) h
        omega
theorem otherM_bd (v : Int) : 0 ≤ otherM v ∧ otherM v ≤ 1 := by unfold otherM; split <;> omega
theorem bitM_bd (v : Int) : 0 ≤ bitM v ∧ bitM v ≤ 1 := by unfold bitM; split <;> omega
theorem sets_trompW (b l v : Int) : (trompW b l v).Sets l (l + 4) := by
  refine (sets_gt _ _ _).bind fun x => ?_
  split
  · exact .ret _
  · refine (sets_wr _ _ _ _).bind fun _ => (sets_st _ (by omega) (by omega)).bind fun _ => (sets_gt _ _ _).bind fun _ => (sets_rd _ _ _).bind fun _ => ?_
    split
    · exact (sets_wr _ _ _ _).bind fun _ => sets_st _ (by omega) (by omega)
    · exact .ret _
theorem sets_trompR3 (b l x : Int) : (trompR3 b l x).Sets l (l + 4) := by
  refine (sets_rd _ _ _).bind fun _ => (sets_st _ (by omega) (by omega)).bind fun _ => (sets_rd _ _ _).bind fun _ => (sets_gt _ _ _).bind fun _ => ?_
  split
  · exact sets_gt _ _ _
  · exact (sets_rd _ _ _).bind fun _ => (sets_st _ (by omega) (by omega)).bind fun _ => .ret _
theorem sets_trompR2 (b l x : Int) : (trompR2 b l x).Sets l (l + 4) := by
  refine (sets_rd _ _ _).bind fun _ => (sets_gt _ _ _).bind fun _ => ?_
  split
  · exact sets_trompR3 _ _ _
  · exact (sets_gt _ _ _).bind fun _ => (sets_wr _ _ _ _).bind fun _ => (sets_st _ (by omega) (by omega)).bind fun _ => sets_trompR3 _ _ _
theorem sets_trompR (b l : Int) : (trompR b l).Sets l (l + 4) := by
  refine (sets_rd _ _ _).bind fun _ => (sets_gt _ _ _).bind fun _ => ?_
  split
  · exact sets_gt _ _ _
  · exact (sets_rd _ _ _).bind fun _ => sets_trompR2 _ _ _
theorem sets_slotsW (b l v : Int) : (slotsW b l v).Sets l (l + 18) := by
  refine ((sets_trompR _ _).mono (by omega) (by omega)).bind fun y => (sets_gt _ _ _).bind fun z => (sets_wr _ _ _ _).bind fun _ => ?_
  have := otherM_bd y
  refine (sets_st _ (by omega) (by omega)).bind fun _ => ((sets_trompW _ _ _).mono (by omega) (by omega)).bind fun _ => (sets_trompW _ _ _).mono (by omega) (by omega)
theorem sets_slotsR (b l : Int) : (slotsR b l).Sets l (l + 18) := by
  refine ((sets_trompR _ _).mono (by omega) (by omega)).bind fun y => ((sets_trompW _ _ _).mono (by omega) (by omega)).bind fun _ => ?_
  have := bitM_bd y
  exact ((sets_trompR _ _).mono (by omega) (by omega)).bind fun _ => sets_rd _ _ _
/-- The numbers of a table's slots. -/
theorem tells_bd {k a b : Int} (ha : 0 ≤ a) (ha2 : a < k) (hb : 0 ≤ b) (hb2 : b < k) (hab : a ≠ b) : 0 ≤ tellsM k a b ∧ tellsM k a b < k * k := by
  unfold tellsM
  have h1 : a * (k - 1) ≤ (k - 1) * (k - 1) := Int.mul_le_mul_of_nonneg_right (by omega) (by omega)
  have h0 : 0 ≤ a * (k - 1) := Int.mul_nonneg ha (by omega)
  have h2 : (k - 1) * (k - 1) = k * k - 2 * k + 1 := by
    rw [Int.sub_mul, Int.mul_sub, Int.mul_one, Int.one_mul]; omega
  split
  · omega
  · rename_i h
    by_cases e : a = k - 1
    · omega
    · have h3 : a * (k - 1) ≤ (k - 2) * (k - 1) := Int.mul_le_mul_of_nonneg_right (by omega) (by omega)
      have h4 : (k - 2) * (k - 1) = k * k - 3 * k + 2 := by
        rw [Int.sub_mul, Int.mul_sub, Int.mul_one]; omega
      omega
theorem rankM_bd {n w me : Int} (hw : 0 ≤ w) (hw2 : w < n) (hm : 0 ≤ me) (hm2 : me < n) (h : me ≠ w) : 0 ≤ rankM w me ∧ rankM w me < n - 1 := by
  unfold rankM
  split <;> omega
theorem sets_tableR {b l n w top me : Int} (hw : 0 ≤ w) (hw2 : w < n) (hm : 0 ≤ me) (hm2 : me < n) : (tableR b l n w top me).Sets l (l + (2 + 18 * ((n - 1) * (n - 1)))) := by
  unfold tableR
  split
  · exact sets_gt _ _ _
  · rename_i h
    obtain ⟨r1, r2⟩ := rankM_bd hw hw2 hm hm2 h
    have hk : n - 1 ≤ (n - 1) * (n - 1) := by
      have := Int.mul_le_mul_of_nonneg_right (show 1 ≤ n - 1 by omega) (show 0 ≤ n - 1 by omega)
      omega
    refine ((sets_slotsR _ _).mono (by omega) (by omega)).bind fun x => (sets_forP _ (fun i hi y => ?_) _).bind fun x => (sets_forP _ (fun i hi y => ?_) _).bind fun _ => .ret _
    · obtain ⟨i1, i2, i3⟩ := ranks_mem _ _ hi
      obtain ⟨t1, t2⟩ := tells_bd (k := n - 1) (a := i) (b := rankM w me) i1 (by omega) r1 r2 i3
      exact ((sets_slotsR _ _).mono (by omega) (by omega)).bind fun _ => .ret _
    · obtain ⟨i1, i2, i3⟩ := ranks_mem _ _ hi
      obtain ⟨t1, t2⟩ := tells_bd (k := n - 1) (a := rankM w me) (b := i) r1 r2 i1 (by omega) (fun e => i3 e.symm)
      exact (sets_slotsW _ _ _).mono (by omega) (by omega)
end Kv
/-
  What the laws of locks share: whether registers can be laid, and a thread by any number.
-/
namespace Go.Proofs.Ytpcohbpeglledaa
open Go.RowKit Kv
theorem me_at (me : Int) (N : Nat) (h1 : 1 ≤ N) (h2 : N ≤ 8) : ∃ m : Nat, m < N ∧ wrapI me ((N : Int) - 1) = m := by
  have ht := wrapI_bd me ((N : Int) - 1)
  rw [show clamp ((N : Int) - 1) 1099511627776 = (N : Int) - 1 from by unfold clamp within; omega] at ht
  exact ⟨(wrapI me ((N : Int) - 1)).toNat, by omega, by omega⟩
theorem laid_all {l : List Want} {n mode b c : Int} {rs : List Reg} (h : layM l n mode b c = some rs) : ∀ r ∈ rs, r.ok ∧ r.n = n := by
  intro r hr
  obtain ⟨i, hi⟩ := List.getElem?_of_mem hr
  obtain ⟨⟨_, _, n1, n2, _, _⟩, hw, _⟩ := layM_args h
  have hil := (List.getElem?_eq_some_iff.1 hi).1
  rw [layM_len h] at hil
  obtain ⟨r', hr', hL⟩ := layM_at h (List.getElem?_eq_getElem hil)
  obtain rfl : r = r' := by rw [hi] at hr'; simpa using hr'
  obtain ⟨h1, h2, _⟩ := hL.ok ⟨n1, n2⟩ (hw _ (List.getElem_mem hil))
  exact ⟨h1, h2⟩
theorem laid_want {f : Nat → Want} {k : Nat} {n mode b c : Int} {rs : List Reg} (h : layM ((List.range k).map f) n mode b c = some rs) {i : Nat} {r : Reg} (hi : rs[i]? = some r) : Laid n mode (f i) r := by
  have hil := (List.getElem?_eq_some_iff.1 hi).1
  rw [layM_len h, List.length_map, List.length_range] at hil
  obtain ⟨r', hr', hL⟩ := layM_at h (i := i) (q := f i) (by rw [List.getElem?_map, List.getElem?_range hil]; rfl)
  obtain rfl : r = r' := by rw [hi] at hr'; simpa using hr'
  exact hL
/-- Told by accesses, but for its own writer. -/
theorem laid_told {n mode : Int} {q : Want} {r : Reg} (h : Laid n mode q r) (_hm : 1 ≤ mode ∧ mode ≤ 2) (hn : 2 ≤ n) (_hq : -1 ≤ q.wr) {me : Int} (hme : q.wr ≠ me) : r.told me := by
  obtain ⟨⟨b, c, rfl, _, _⟩, _⟩ := h
  by_cases h2 : mode = 2
  · by_cases h3 : 0 ≤ q.wr
    · refine .inr (.inl ⟨?_, fun h => hme h.symm⟩)
      show kindM mode q.wr = 6
      unfold kindM
      rw [if_pos h2, if_pos h3]
    · refine .inr (.inr ⟨?_, hn⟩)
      show kindM mode q.wr = 7
      unfold kindM
      rw [if_pos h2, if_neg h3]
  · refine .inl ?_
    show kindM mode q.wr = 1
    unfold kindM
    rw [if_neg h2]
theorem fil_told {N : Nat} {mode b c : Int} {rs : List Reg} {m : Nat} (h : layM (filWants N) N mode b c = some rs) : ∀ (i : Nat) r, rs[i]? = some r → i ≠ m → 2 ≤ N → r.told m := by
  intro i r hi hm hN
  obtain ⟨⟨h1, h2, _⟩, _⟩ := layM_args h
  refine laid_told (laid_want h hi) ⟨h1, h2⟩ (by omega) ?_ ?_
  · unfold filWant; split <;> simp <;> omega
  · unfold filWant; split <;> simp <;> omega
end Go.Proofs.Ytpcohbpeglledaa
/-
  Plain mathematics: which locals reads of registers set; what a thread reads of its own register behind a write of 0.
-/
namespace Kv
theorem sets_manyRs {b l n top me : Int} (hn : 1 ≤ n) (hm : 0 ≤ me) (hm2 : me < n) : ∀ (k : Nat) (j s v : Int), 0 ≤ j → j + k ≤ n → (manyRs b l n top me k j s v).Sets l (l + n * (2 + 18 * ((n - 1) * (n - 1))))
  | 0, j, s, v, _, _ => .ret _
  | k + 1, j, s, v, hj, hk => by
    have hq : 0 ≤ (n - 1) * (n - 1) := Int.mul_nonneg (by omega) (by omega)
    have hX : 0 ≤ 2 + 18 * ((n - 1) * (n - 1)) := by omega
    have e1 : manyL l n j = l + j * (2 + 18 * ((n - 1) * (n - 1))) := by unfold manyL; rw [Int.mul_assoc 18]
    have e2 : 0 ≤ j * (2 + 18 * ((n - 1) * (n - 1))) := Int.mul_nonneg hj hX
    have e3 : (j + 1) * (2 + 18 * ((n - 1) * (n - 1))) ≤ n * (2 + 18 * ((n - 1) * (n - 1))) := Int.mul_le_mul_of_nonneg_right (by omega) hX
    rw [Int.add_mul, Int.one_mul] at e3
    unfold manyRs
    refine ((sets_tableR hj (by omega) hm hm2).mono ?_ ?_).bind fun y => ?_
    · rw [e1]; omega
    · rw [e1]; omega
    · split <;> exact sets_manyRs hn hm hm2 k _ _ _ (by omega) (by omega)
theorem localsM_eq (r : Reg) : localsM r = if r.kind = 1 then 0 else if r.kind = 6 then 2 + 18 * ((r.n - 1) * (r.n - 1)) else r.n * (2 + 18 * ((r.n - 1) * (r.n - 1))) := by
  unfold localsM
  rw [Int.mul_assoc 18]
theorem sets_regR {r : Reg} (h : r.ok) {me : Int} (hm : 0 ≤ me) (hm2 : me < r.n) : (regR r me).Sets r.loc (r.loc + localsM r) := by
  rw [localsM_eq]
  unfold regR
  split
  · exact sets_rd _ _ _
  · split
    · rename_i h6
      exact sets_tableR (h.wr h6).1 (h.wr h6).2 hm hm2
    · unfold manyR
      exact (sets_manyRs h.n.1 hm hm2 _ _ _ _ (by omega) (by have := h.n.1; omega)).bind fun p => .ret _
theorem sets_zeroP {r : Reg} (h : r.ok) {me : Int} (hm : 0 ≤ me) (hm2 : me < r.n) : ∀ n : Nat, (zeroP r me n).Sets r.loc (r.loc + localsM r)
  | 0 => .ret _
  | n + 1 => (sets_regR h hm hm2).bind fun x => by
    split
    · exact .ret _
    · exact sets_zeroP h hm hm2 n
theorem Prog.bind_some {α β : Type} {p : Prog α} {f : α → Prog β} {S S' : TS} {b : β} (h : (p.bind f).run S = (some b, S')) : ∃ a S1, p.run S = (some a, S1) ∧ (f a).run S1 = (some b, S') := by
  rw [Prog.run_bind] at h
  rcases hr : p.run S with ⟨o, S1⟩
  rw [hr] at h
  cases o with
  | none => simp [thenR] at h
  | some a => exact ⟨a, S1, rfl, h⟩
theorem layFrom_from {n mode : Int} (hn : 1 ≤ n ∧ n ≤ 8) : ∀ (l : List Want) (b c : Int) (rs : List Reg), layFrom n mode l b c = some rs → ∀ (i : Nat) r, rs[i]? = some r → c ≤ r.loc
  | [], b, c, rs, h, i, r, hi => by
    obtain rfl : [] = rs := by simpa [layFrom] using h
    simp at hi
  | q :: l, b, c, rs, h, i, r, hi => by
    unfold layFrom at h
    split at h
    · have hz := cells_nat (regOf n mode b c q) hn
      cases hr : layFrom n mode l (b + cellsM (regOf n mode b c q)) (c + localsM (regOf n mode b c q)) with
      | none => rw [hr] at h; cases h
      | some rs' =>
        rw [hr] at h
        obtain rfl : regOf n mode b c q :: rs' = rs := by simpa using h
        cases i with
        | zero =>
          obtain rfl : regOf n mode b c q = r := by simpa using hi
          exact Int.le_refl _
        | succ i =>
          have := layFrom_from hn l _ _ rs' hr i r (by simpa using hi)
          omega
    · cases h
/-- Registers laid in a row have locals of their own. -/
theorem layFrom_apart {n mode : Int} (hn : 1 ≤ n ∧ n ≤ 8) : ∀ (l : List Want) (b c : Int) (rs : List Reg), layFrom n mode l b c = some rs → ∀ (i j : Nat) r s, i < j → rs[i]? = some r → rs[j]? = some s → r.loc + localsM r ≤ s.loc
  | [], b, c, rs, h, i, j, r, s, _, hi, _ => by
    obtain rfl : [] = rs := by simpa [layFrom] using h
    simp at hi
  | q :: l, b, c, rs, h, i, j, r, s, hij, hi, hj => by
    unfold layFrom at h
    split at h
    · cases hr : layFrom n mode l (b + cellsM (regOf n mode b c q)) (c + localsM (regOf n mode b c q)) with
      | none => rw [hr] at h; cases h
      | some rs' =>
        rw [hr] at h
        obtain rfl : regOf n mode b c q :: rs' = rs := by simpa using h
        cases j with
        | zero => omega
        | succ j =>
          have hj' : rs'[j]? = some s := by simpa using hj
          cases i with
          | zero =>
            obtain rfl : regOf n mode b c q = r := by simpa using hi
            exact layFrom_from hn l _ _ rs' hr j s hj'
          | succ i => exact layFrom_apart hn l _ _ rs' hr i j r s (by omega) (by simpa using hi) hj'
    · cases h
theorem layM_apart {l : List Want} {n mode b c : Int} {rs : List Reg} (h : layM l n mode b c = some rs) {i j : Nat} {r s : Reg} (hij : i < j) (hi : rs[i]? = some r) (hj : rs[j]? = some s) : r.loc + localsM r ≤ s.loc := by
  obtain ⟨⟨_, _, n1, n2, _, _⟩, _, hf⟩ := layM_args h
  exact layFrom_apart ⟨n1, n2⟩ l b c rs hf i j r s hij hi hj
theorem TS.got_upd {S : TS} {i v : Int} (h1 : 0 ≤ i) (h2 : i < 32768) : (S.upd i v).got i = v := by
  unfold TS.upd
  rw [if_pos ⟨h1, h2⟩]
  unfold TS.got
  rw [if_neg (by omega)]
  simp
/-- What a thread's own register of a fast lock tells it: 0. -/
def ownZ (r : Reg) (S : TS) : Prop := r.kind = 6 → S.got (r.loc + 1) = 0
theorem ownZ_wrote {r : Reg} {m : Int} (h0 : 0 ≤ r.loc) (hf : r.loc + localsM r ≤ 32768) (hn : 1 ≤ r.n) (hw : r.kind = 6 → r.wr = m) {S S' : TS} (h : (regW r m 0).run S = (some (), S')) : ownZ r S' := by
  intro h6
  rw [localsM_eq, if_neg (by omega), if_pos h6] at hf
  have hq : 0 ≤ (r.n - 1) * (r.n - 1) := Int.mul_nonneg (by omega) (by omega)
  unfold regW at h
  rw [if_neg (by omega), if_pos h6] at h
  unfold tableW at h
  rw [if_neg (by rw [hw h6]; simp)] at h
  obtain ⟨a1, S1, -, h⟩ := Prog.bind_some h
  obtain ⟨a2, S2, -, h⟩ := Prog.bind_some h
  obtain ⟨a3, S3, -, h⟩ := Prog.bind_some h
  have e : S3.upd (r.loc + 1) (clamp 0 (clamp r.top 1048576)) = S' := by
    have := h
    simp only [st, Prog.run, Prod.mk.injEq, true_and] at this
    exact this
  have hc : clamp 0 (clamp r.top 1048576) = 0 := by unfold clamp within; omega
  rw [← e, hc]
  exact TS.got_upd (by omega) (by omega)
theorem ownZ_kept {r s : Reg} {m : Int} (_h0 : 0 ≤ r.loc) (hn : 1 ≤ r.n) (hs : s.ok) (hm : 0 ≤ m) (hm2 : m < s.n) (ha : r.loc + localsM r ≤ s.loc ∨ s.loc + localsM s ≤ r.loc) {D : Nat} {S S' : TS} (h : (zeroP s m D).run S = (some (), S')) (hz : ownZ r S) : ownZ r S' := by
  intro h6
  have hq : 0 ≤ (r.n - 1) * (r.n - 1) := Int.mul_nonneg (by omega) (by omega)
  rw [localsM_eq r, if_neg (by omega), if_pos h6] at ha
  have e := (sets_zeroP hs hm hm2 D).got (i := r.loc + 1) (by omega) S
  rw [h] at e
  rw [← hz h6]
  exact e
theorem zeroP_own {r : Reg} {m : Int} (hk : r.kind = 6) (hw : r.wr = m) : ∀ (D : Nat) (S S' : TS), (zeroP r m D).run S = (some (), S') → S = S'
  | 0, S, S', h => by
    have := h
    simp only [zeroP, Prog.run, Prod.mk.injEq, true_and] at this
    exact this
  | D + 1, S, S', h => by
    rw [show zeroP r m (D + 1) = (regR r m).bind fun x => if x = 0 then .ret () else zeroP r m D from rfl] at h
    have e : regR r m = gt (r.loc + 1) := by
      unfold regR tableR
      rw [if_neg (by omega), if_pos hk, if_pos hw.symm]
    rw [e] at h
    have h : (if S.got (r.loc + 1) = 0 then Prog.ret () else zeroP r m D).run S = (some (), S') := h
    split at h
    · simp only [Prog.run, Prod.mk.injEq, true_and] at h
      exact h
    · exact zeroP_own hk hw D S S' h
theorem ownZ_read {r : Reg} {m : Int} (hk : r.kind = 6) (hw : r.wr = m) {S : TS} (hz : ownZ r S) : (regR r m).run S = (some 0, S) := by
  unfold regR tableR
  rw [if_neg (by omega), if_pos hk, if_pos hw.symm]
  show (some (S.got (r.loc + 1)), S) = _
  rw [hz hk]
end Kv
namespace Go.Proofs.Ytpcohbpeglledaa
open Kv
theorem fast_told {N : Nat} {mode b c : Int} {rs : List Reg} {m : Nat} (h : layM (fastWants N) N mode b c = some rs) (hN : ¬(N = 1 ∧ mode = 2)) : ∀ (i : Nat) r, rs[i]? = some r → i ≠ 2 + m → r.told m := by
  intro i r hi hm
  obtain ⟨⟨h1, h2, n1, _⟩, _⟩ := layM_args h
  have hL := laid_want h hi
  by_cases hm2 : mode = 2
  · refine laid_told hL ⟨h1, h2⟩ (by omega) ?_ ?_
    · unfold fastWant; split <;> simp <;> omega
    · unfold fastWant; split <;> simp <;> omega
  · obtain ⟨⟨b, c, rfl, _, _⟩, _⟩ := hL
    refine .inl ?_
    show kindM mode _ = 1
    unfold kindM
    rw [if_neg hm2]
/-- The own register of a fast lock: told by accesses, or by a local. -/
theorem fast_own {N : Nat} {mode b c : Int} {rs : List Reg} {m : Nat} {rm : Reg} (h : layM (fastWants N) N mode b c = some rs) (hr : rs[2 + m]? = some rm) : rm.kind = 1 ∨ rm.kind = 6 ∧ rm.wr = m := by
  obtain ⟨⟨h1, h2, n1, _⟩, _⟩ := layM_args h
  obtain ⟨⟨b, c, rfl, _, _⟩, _⟩ := laid_want h hr
  have e : (fastWant N (2 + m)).wr = m := by unfold fastWant; rw [if_neg (by omega)]; simp; omega
  show kindM mode _ = 1 ∨ kindM mode _ = 6 ∧ _ = _
  unfold kindM
  split
  · rw [e, if_pos (by omega)]
    exact .inr ⟨rfl, e⟩
  · exact .inl rfl
theorem laid_fine {l : List Want} {n mode b c : Int} {rs : List Reg} (h : layM l n mode b c = some rs) : ∀ r ∈ rs, fineM r = true := by
  intro r hr
  obtain ⟨i, hi⟩ := List.getElem?_of_mem hr
  have hil := (List.getElem?_eq_some_iff.1 hi).1
  rw [layM_len h] at hil
  obtain ⟨r', hr', hL⟩ := layM_at h (List.getElem?_eq_getElem hil)
  obtain rfl : r = r' := by rw [hi] at hr'; simpa using hr'
  exact hL.fine
theorem fast_hz {N : Nat} {mode b c : Int} {rs : List Reg} {m D : Nat} (h : layM (fastWants N) N mode b c = some rs) (hm : m < N) :
    ∃ Z : TS → Prop, (∀ rm, rs[2 + m]? = some rm → ∀ S S', (regW rm m 0).run S = (some (), S') → Z S') ∧
      (∀ (j : Nat) r, rs[j]? = some r → ∀ S S', (zeroP r m D).run S = (some (), S') → Z S → Z S') ∧
      (∀ rm, rs[2 + m]? = some rm → ∀ S, Z S → rm.told m ∨ (regR rm m).run S = (some 0, S)) := by
  have hlen := layM_len h
  rw [fastWants_len] at hlen
  obtain ⟨rm, hrm⟩ : ∃ r, rs[2 + m]? = some r := ⟨_, List.getElem?_eq_getElem (by omega)⟩
  obtain ⟨okm, nm⟩ := laid_all h rm (List.mem_of_getElem? hrm)
  have hown := fast_own h hrm
  refine ⟨ownZ rm, ?_, ?_, ?_⟩
  · intro r hr S S' hS
    obtain rfl : rm = r := by rw [hrm] at hr; simpa using hr
    refine ownZ_wrote okm.loc.1 ?_ (by have := okm.n; omega) (fun h6 => ?_) hS
    · have := laid_fine h rm (List.mem_of_getElem? hrm)
      unfold fineM at this
      simp only [Bool.and_eq_true, decide_eq_true_eq] at this
      exact this.2
    · rcases hown with h1 | h1
      · omega
      · exact h1.2
  · intro j r hr S S' hS hz
    obtain ⟨okr, nr⟩ := laid_all h r (List.mem_of_getElem? hr)
    by_cases hj : j = 2 + m
    · subst hj
      obtain rfl : rm = r := by rw [hrm] at hr; simpa using hr
      rcases hown with h1 | h1
      · intro h6; omega
      · rw [← zeroP_own h1.1 h1.2 D S S' hS]; exact hz
    · refine ownZ_kept okm.loc.1 (by have := okm.n; omega) okr (by omega) (by rw [nr]; omega) ?_ hS hz
      by_cases hlt : j < 2 + m
      · exact .inr (layM_apart h hlt hr hrm)
      · exact .inl (layM_apart h (by omega) hrm hr)
  · intro r hr S hz
    obtain rfl : rm = r := by rw [hrm] at hr; simpa using hr
    rcases hown with h1 | h1
    · exact .inl (.inl h1)
    · exact .inr (ownZ_read h1.1 h1.2 hz)
end Go.Proofs.Ytpcohbpeglledaa
/-
  The fast lock: the chapter's example.
-/
namespace Kv
def fb0 : Reg := ⟨1, 0, 0, 1, -1, -1, 1⟩
def fb1 : Reg := ⟨1, 1, 0, 1, -1, -1, 1⟩
def fb2 : Reg := ⟨1, 2, 0, 1, 0, -1, 1⟩
end Kv
namespace Go.Proofs.Ytpcohbpeglledaa
open Go.RowKit Kv
theorem fb_ok : ∀ r ∈ [fb0, fb1, fb2], r.ok ∧ r.n = 1 := by
  intro r hr
  simp only [List.mem_cons, List.not_mem_nil, or_false] at hr
  rcases hr with rfl | rfl | rfl <;> exact ⟨⟨.inl rfl, by decide, by decide, by decide, fun h => by cases h⟩, rfl⟩
theorem sal1 (B p : Nat) (S : TS) (bk : Nat) (w : World) (h : Plays B w p S) (hD : S.left < 6) (hn0 : S.nts.length = 0)
    (c1 : ∀ i, w.cell? ⟨bk, i, none⟩ = (#[.int .i64 5, .int .i64 1, .int .i64 1, .int .i64 0, .int .i64 0, .int .i64 0] : Array Value)[i]?) :
    Calls Try.prog 61 #[.pointer (some ⟨p, 0, none⟩), .pointer (some ⟨bk, 0, none⟩)] w (Post encI B p w ((fastA 6 [fb0, fb1, fb2] 1 0).run S)) := by
  have hl : layM (fastWants 1) 1 1 0 0 = some [fb0, fb1, fb2] := by rfl
  obtain ⟨Z, z1, z2, z3⟩ := fast_hz (m := 0) (D := 6) hl (by decide)
  have hq : Calls Try.prog 27 #[.pointer (some ⟨p, 0, none⟩), .agg #[.int .i64 5, .int .i64 1, .int .i64 1, .int .i64 0, .int .i64 0, .int .i64 0], .int .i64 0] w (Post encI B p w ((fastA 6 [fb0, fb1, fb2] 1 0).run S)) :=
    fastacq_p B p 1 6 S 5 1 0 0 0 0 [fb0, fb1, fb2] w h (by decide) (by decide) (by decide) hl fb_ok (fast_told hl (by decide)) hD hn0 Z z1 z2 z3
  generalize hR : Post encI B p w ((fastA 6 [fb0, fb1, fb2] 1 0).run S) = R
  have hO : Owes R encI B p w ((fastA 6 [fb0, fb1, fb2] 1 0).run S) := hR ▸ owes _ _ _ _ _
  clear hR
  have hK := Keep.refl [2, 3, 4] B p w
  clear z1 z2 z3 hl
  go_enter Try.func61, Try.ntmps61
  go_wp2_with fail
  clear c1
  refine tlast hO hK hq (fun _ h => ⟨rfl, h⟩) ?_
  intro v S1 w1 hr hP1 hk1 hK1 hO1
  have hf := hO1.done hP1 hK1
  clear hO1 hP1 hK1 hr hk1 hO h hK hq
  go_wp2_with fail
  first | exact hf | (go_ret; exact hf)
theorem sal2 (B p : Nat) (S : TS) (bk : Nat) (w : World) (h : Plays B w p S) (hn0 : S.nts.length = 0)
    (c1 : ∀ i, w.cell? ⟨bk, i, none⟩ = (#[.int .i64 5, .int .i64 1, .int .i64 1, .int .i64 0, .int .i64 0, .int .i64 0] : Array Value)[i]?) :
    Calls Try.prog 62 #[.pointer (some ⟨p, 0, none⟩), .pointer (some ⟨bk, 0, none⟩)] w (Post encI B p w (((fastR [fb0, fb1, fb2] 0).bind fun _ => .ret 0).run S)) := by
  have hq : Calls Try.prog 29 #[.pointer (some ⟨p, 0, none⟩), .agg #[.int .i64 5, .int .i64 1, .int .i64 1, .int .i64 0, .int .i64 0, .int .i64 0], .int .i64 0] w (Post encU B p w ((fastR [fb0, fb1, fb2] 0).run S)) :=
    fastrel_p B p 1 S 5 1 0 0 0 0 [fb0, fb1, fb2] w h (by decide) (by decide) (by decide) rfl fb_ok hn0
  generalize hR : Post encI B p w (((fastR [fb0, fb1, fb2] 0).bind fun _ => .ret 0).run S) = R
  have hO : Owes R encI B p w (((fastR [fb0, fb1, fb2] 0).bind fun _ => .ret 0).run S) := hR ▸ owes _ _ _ _ _
  clear hR
  have hK := Keep.refl [2, 3, 4] B p w
  go_enter Try.func62, Try.ntmps62
  go_wp2_with fail
  clear c1
  refine tstep hO hK hq (fun _ h => ⟨rfl, h⟩) ?_
  intro v S1 w1 hr hP1 hk1 hK1 hO1
  have hf := hO1.done (v := (0 : Int)) hP1 hK1
  clear hO1 hP1 hK1 hr hk1 hO h hK hq
  go_wp2_with fail
  first | exact hf | (go_ret; exact hf)
@[go_sem] theorem build_lock3 (a b c : Int) (w : World) : (Instr.build 44 #[(0, .int .i64 a), (1, .int .i64 b), (2, .int .i64 c)]).run Try.prog w = .ok (.agg #[.int .i64 a, .int .i64 b, .int .i64 c, .int .i64 0, .int .i64 0, .int .i64 0]) w := run_build w 44 _ _ (by kernel_rfl)
@[go_sem] theorem build_acc3 (a b c : Int) (w : World) : (Instr.build 39 #[(0, .int .i64 a), (1, .int .i64 b), (2, .int .i64 c)]).run Try.prog w = .ok (.agg #[.int .i64 a, .int .i64 b, .int .i64 c]) w := run_build w 39 _ _ (by kernel_rfl)
set_option maxRecDepth 100000 in
set_option maxHeartbeats 1000000 in
theorem alive27 (w : World) : Calls Try.prog 30 #[] w fun e w' => e = .returned (.bool true) ∧ Ext w w' := by
  have hmf : ∀ (fn : Fn) (first cap : Array Value) (w : World), (Instr.makeFunc fn first cap).run Try.prog w = .ok (.func fn first cap) w := fun _ _ _ _ => rfl
  go_enter Try.func30, Try.ntmps30
  go_wp2_with fail
  have b1 := Blk.new w (.cells #[.int .i64 5, .int .i64 1, .int .i64 1, .int .i64 0, .int .i64 0, .int .i64 0] 44)
  have hX := (Ext.refl w).alloc (.cells #[.int .i64 5, .int .i64 1, .int .i64 1, .int .i64 0, .int .i64 0, .int .i64 0] 44)
  have hA := ints_new (w.alloc (.cells #[.int .i64 5, .int .i64 1, .int .i64 1, .int .i64 0, .int .i64 0, .int .i64 0] 44)) [0, 0, 0, 0, 1] (by simp)
  replace b1 := b1.alloc (.cells (([0, 0, 0, 0, 1] : List Int).map (Value.int .i64)).toArray 3)
  replace hX := hX.alloc (.cells (([0, 0, 0, 0, 1] : List Int).map (Value.int .i64)).toArray 3)
  simp only [World.size_alloc, List.map_cons, List.map_nil, List.length_cons, List.length_nil] at b1 hA hX
  have hsz : w.heap.size + 1 < (World.alloc (World.alloc w (.cells #[.int .i64 5, .int .i64 1, .int .i64 1, .int .i64 0, .int .i64 0, .int .i64 0] 44)) (.cells #[.int .i64 0, .int .i64 0, .int .i64 0, .int .i64 0, .int .i64 1] 3)).heap.size := by simp
  generalize World.alloc (World.alloc w _) _ = V1 at *
  refine (play_err 61 #[.pointer (some ⟨w.heap.size, 0, none⟩)] (fastA 6 [fb0, fb1, fb2] 1 0) none 0 [] (some ⟨w.heap.size + 1, 0, none⟩) 5 [0, 0, 0, 0, 1] V1 (Ints.nil _) (by simp) hA (by decide) (fun k hk => by simp only [Value.ownBlock, Option.some.injEq] at hk; omega) (fun _ _ => rfl) (fun W p hxW hP => sal1 _ p _ w.heap.size W hP (by decide) rfl (b1.ext hxW).cells)).mono ?_
  rintro e y1 ⟨v1, rfl, hO, hx1⟩
  have e1 : ((fastA 6 [fb0, fb1, fb2] 1 0).run (TS0 [] [0, 0, 0, 0, 1])).1 = some 0 := by rfl
  have e2 : ((fastA 6 [fb0, fb1, fb2] 1 0).run (TS0 [] [0, 0, 0, 0, 1])).2.acc.length = 5 := by rfl
  have e3 : ((fastA 6 [fb0, fb1, fb2] 1 0).run (TS0 [] [0, 0, 0, 0, 1])).2.acc[3]? = some ⟨2, 1, 1⟩ := by rfl
  rw [e1] at hO ⊢
  generalize ((fastA 6 [fb0, fb1, fb2] 1 0).run (TS0 [] [0, 0, 0, 0, 1])).2 = S1 at *
  obtain ⟨A1, c1, A1', c1', vs1, L1, rfl, hO⟩ := hO
  obtain ⟨As1, k1, hvs1, _, _⟩ := hO.locs.slice
  subst hvs1
  obtain ⟨u2, rfl, hu2, z20, z21, z22⟩ := hO.accs.at_ e3
  simp only [Nat.reduceMul, Nat.reduceAdd] at z20 z21 z22
  unfold outV
  rw [e2] at *
  simp only [Option.getD_some, Option.isSome_some]
  replace hX := hX.trans hx1
  replace b1 := b1.ext hx1
  clear e1 e2 e3 hO hx1 hA hsz
  go_wp2_with fail
  have s2 := (Ext.refl y1).alloc (.cells #[.bool true, .slice (some ⟨u2, 0, none⟩) 5 c1, .slice A1' S1.nts.length c1', .slice As1 (shortL L1).length k1] 32)
  have n1 := Blk.new y1 (.cells #[.bool true, .slice (some ⟨u2, 0, none⟩) 5 c1, .slice A1' S1.nts.length c1', .slice As1 (shortL L1).length k1] 32)
  replace b1 := b1.alloc (.cells #[.bool true, .slice (some ⟨u2, 0, none⟩) 5 c1, .slice A1' S1.nts.length c1', .slice As1 (shortL L1).length k1] 32)
  replace hX := hX.alloc (.cells #[.bool true, .slice (some ⟨u2, 0, none⟩) 5 c1, .slice A1' S1.nts.length c1', .slice As1 (shortL L1).length k1] 32)
  replace z20 := (s2.cell (p := ⟨u2, 9, none⟩) hu2).trans z20
  replace z21 := (s2.cell (p := ⟨u2, 10, none⟩) hu2).trans z21
  replace z22 := (s2.cell (p := ⟨u2, 11, none⟩) hu2).trans z22
  replace hu2 := Nat.lt_of_lt_of_le hu2 s2.size
  clear s2
  have s3 := (Ext.refl (y1.alloc (.cells #[.bool true, .slice (some ⟨u2, 0, none⟩) 5 c1, .slice A1' S1.nts.length c1', .slice As1 (shortL L1).length k1] 32))).alloc (.cells (([0, 0] : List Int).map (Value.int .i64)).toArray 3)
  have hA := ints_new (y1.alloc (.cells #[.bool true, .slice (some ⟨u2, 0, none⟩) 5 c1, .slice A1' S1.nts.length c1', .slice As1 (shortL L1).length k1] 32)) [0, 0] (by simp)
  replace n1 := n1.alloc (.cells (([0, 0] : List Int).map (Value.int .i64)).toArray 3)
  replace b1 := b1.alloc (.cells (([0, 0] : List Int).map (Value.int .i64)).toArray 3)
  replace hX := hX.alloc (.cells (([0, 0] : List Int).map (Value.int .i64)).toArray 3)
  replace z20 := (s3.cell (p := ⟨u2, 9, none⟩) hu2).trans z20
  replace z21 := (s3.cell (p := ⟨u2, 10, none⟩) hu2).trans z21
  replace z22 := (s3.cell (p := ⟨u2, 11, none⟩) hu2).trans z22
  replace hu2 := Nat.lt_of_lt_of_le hu2 s3.size
  clear s3
  simp only [World.size_alloc, List.map_cons, List.map_nil, List.length_cons, List.length_nil] at b1 hA n1 hX z20 z21 z22
  simp only [List.map_cons, List.map_nil] at hu2
  have hsz : y1.heap.size + 1 < (World.alloc (World.alloc y1 (.cells #[.bool true, .slice (some ⟨u2, 0, none⟩) 5 c1, .slice A1' S1.nts.length c1', .slice As1 (shortL L1).length k1] 32)) (.cells #[.int .i64 0, .int .i64 0] 3)).heap.size := by simp
  generalize World.alloc (World.alloc y1 _) _ = V2 at *
  refine (play_int 62 #[.pointer (some ⟨w.heap.size, 0, none⟩)] ((fastR [fb0, fb1, fb2] 0).bind fun _ => .ret 0) none 0 [] (some ⟨y1.heap.size + 1, 0, none⟩) 2 [0, 0] V2 (Ints.nil _) (by simp) hA (by decide) (fun k hk => by simp only [Value.ownBlock, Option.some.injEq] at hk; omega) (fun _ _ => rfl) (fun W p hxW hP => sal2 _ p _ w.heap.size W hP rfl (b1.ext hxW).cells)).mono ?_
  rintro e y2 ⟨v2, rfl, hO, hx2⟩
  have e1 : (((fastR [fb0, fb1, fb2] 0).bind fun _ => Prog.ret (0 : Int)).run (TS0 [] [0, 0])).1 = some 0 := by rfl
  have e2 : (((fastR [fb0, fb1, fb2] 0).bind fun _ => Prog.ret (0 : Int)).run (TS0 [] [0, 0])).2.acc.length = 2 := by rfl
  have e3 : (((fastR [fb0, fb1, fb2] 0).bind fun _ => Prog.ret (0 : Int)).run (TS0 [] [0, 0])).2.acc[0]? = some ⟨2, 1, 0⟩ := by rfl
  rw [e1] at hO ⊢
  generalize (((fastR [fb0, fb1, fb2] 0).bind fun _ => Prog.ret (0 : Int)).run (TS0 [] [0, 0])).2 = S2 at *
  obtain ⟨A2, c2, A2', c2', vs2, L2, rfl, hO⟩ := hO
  obtain ⟨As2, k2, hvs2, _, _⟩ := hO.locs.slice
  subst hvs2
  obtain ⟨u3, rfl, hu3, y30, y31, y32⟩ := hO.accs.at_ e3
  simp only [Nat.reduceMul, Nat.reduceAdd] at y30 y31 y32
  unfold outV
  rw [e2] at *
  simp only [Option.getD_some, Option.isSome_some]
  replace z20 := (hx2.cell (p := ⟨u2, 9, none⟩) hu2).trans z20
  replace z21 := (hx2.cell (p := ⟨u2, 10, none⟩) hu2).trans z21
  replace z22 := (hx2.cell (p := ⟨u2, 11, none⟩) hu2).trans z22
  replace hu2 := Nat.lt_of_lt_of_le hu2 hx2.size
  replace hX := hX.trans hx2
  replace n1 := n1.ext hx2
  have s4 := (Ext.refl y2).alloc (.cells #[.bool true, .slice (some ⟨u3, 0, none⟩) 2 c2, .slice A2' S2.nts.length c2', .slice As2 (shortL L2).length k2] 32)
  have n2 := Blk.new y2 (.cells #[.bool true, .slice (some ⟨u3, 0, none⟩) 2 c2, .slice A2' S2.nts.length c2', .slice As2 (shortL L2).length k2] 32)
  replace n1 := n1.alloc (.cells #[.bool true, .slice (some ⟨u3, 0, none⟩) 2 c2, .slice A2' S2.nts.length c2', .slice As2 (shortL L2).length k2] 32)
  replace hX := hX.alloc (.cells #[.bool true, .slice (some ⟨u3, 0, none⟩) 2 c2, .slice A2' S2.nts.length c2', .slice As2 (shortL L2).length k2] 32)
  replace z20 := (s4.cell (p := ⟨u2, 9, none⟩) hu2).trans z20
  replace z21 := (s4.cell (p := ⟨u2, 10, none⟩) hu2).trans z21
  replace z22 := (s4.cell (p := ⟨u2, 11, none⟩) hu2).trans z22
  replace y31 := (s4.cell (p := ⟨u3, 1, none⟩) hu3).trans y31
  clear e1 e2 e3 hO hx2 hA hsz s4 b1 y30 y32
  have c_n1 := n1.cells
  have c_n2 := n2.cells
  have hXh := Lib.hid hX
  clear n1 n2 hX
  go_wp2_with fail
  refine (fastwants_p 2 _ (by decide) (by decide)).mono ?_
  rintro e w3 ⟨v3, rfl, hw, hx⟩
  have hf := Lib.hid (hXh.out.trans hx)
  obtain ⟨A3, c3, rfl, -, -, -⟩ := hw
  rw [fastWants_len]
  clear hx hmf
  go_wp2_with fail
  go_ret
  exact ⟨rfl, hf.out⟩
end Go.Proofs.Ytpcohbpeglledaa
/-
  FastAlone: whoever is alone is in.
-/
namespace Go.Proofs.Ytpcohbpeglledaa
open Go.RowKit Kv
/-- The fast lock's registers on native cells. -/
def natS (N : Nat) : List Reg := (List.range (N + 2)).map fun i : Nat => ⟨1, i, 0, N, (fastWant N i).wr, -1, (fastWant N i).top⟩
def aloneA (N m : Nat) : Option Int × TS := (fastA 6 (natS N) N m).run (TS0 [] [0, 0, 0, 0, (m : Int) + 1])
def aloneR (N m : Nat) : Option Int × TS := ((fastR (natS N) m).bind fun _ => Prog.ret (0 : Int)).run (TS0 [] [0, 0])
def aloneOk2 (N m : Nat) : Bool := decide ((aloneA N m).1 = some 0) && decide ((aloneA N m).2.acc.length = 5) && decide ((aloneR N m).1 = some 0) && decide ((aloneR N m).2.acc.length = 2)
theorem alone_all2 : ∀ N : Nat, N < 9 → ∀ m : Nat, m < N → 1 ≤ N → aloneOk2 N m = true := by decide +kernel
theorem nat_all2 : ∀ N : Nat, N < 9 → 1 ≤ N → layM (fastWants N) N 1 0 0 = some (natS N) := by
  intro N h1 h2
  have : N = 1 ∨ N = 2 ∨ N = 3 ∨ N = 4 ∨ N = 5 ∨ N = 6 ∨ N = 7 ∨ N = 8 := by omega
  rcases this with rfl | rfl | rfl | rfl | rfl | rfl | rfl | rfl <;> rfl
theorem alone_is2 {N m : Nat} (h1 : 1 ≤ N) (h2 : N ≤ 8) (hm : m < N) : (aloneA N m).1 = some 0 ∧ (aloneA N m).2.acc.length = 5 ∧ (aloneR N m).1 = some 0 ∧ (aloneR N m).2.acc.length = 2 := by
  have := alone_all2 N (by omega) m hm h1
  unfold aloneOk2 at this
  simp only [Bool.and_eq_true, decide_eq_true_eq] at this
  exact ⟨this.1.1.1, this.1.1.2, this.1.2, this.2⟩
theorem salone1 (B p : Nat) (S : TS) (N m : Nat) (bk bt : Nat) (w : World) (h : Plays B w p S) (h1 : 1 ≤ N) (h2 : N ≤ 8) (hm : m < N) (hD : S.left < 6) (hn0 : S.nts.length = 0)
    (c1 : ∀ i, w.cell? ⟨bk, i, none⟩ = (#[.int .i64 5, .int .i64 N, .int .i64 1, .int .i64 0, .int .i64 0, .int .i64 0] : Array Value)[i]?) (c2 : w.cell? ⟨bt, 0, none⟩ = some (.int .i64 m)) :
    Calls Try.prog 26 #[.pointer (some ⟨p, 0, none⟩), .pointer (some ⟨bk, 0, none⟩), .pointer (some ⟨bt, 0, none⟩)] w (Post encI B p w ((fastA 6 (natS N) N m).run S)) := by
  have hl := nat_all2 N (by omega) h1
  have hq : Calls Try.prog 27 #[.pointer (some ⟨p, 0, none⟩), .agg #[.int .i64 5, .int .i64 N, .int .i64 1, .int .i64 0, .int .i64 0, .int .i64 0], .int .i64 m] w (Post encI B p w ((fastA 6 (natS N) N m).run S)) := by
    obtain ⟨Z, z1, z2, z3⟩ := fast_hz (m := m) (D := 6) hl hm
    exact fastacq_p B p N 6 S 5 1 0 0 0 m (natS N) w h h1 h2 hm hl (laid_all hl) (fast_told hl (by omega)) hD hn0 Z z1 z2 z3
  generalize hR : Post encI B p w ((fastA 6 (natS N) N m).run S) = R
  have hO : Owes R encI B p w ((fastA 6 (natS N) N m).run S) := hR ▸ owes _ _ _ _ _
  clear hR
  have hK := Keep.refl [2, 3, 4] B p w
  clear hl
  go_enter Try.func26, Try.ntmps26
  go_wp2_with fail
  clear c1 c2
  refine tlast hO hK hq (fun _ h => ⟨rfl, h⟩) ?_
  intro v S1 w1 hr hP1 hk1 hK1 hO1
  have hf := hO1.done hP1 hK1
  clear hO1 hP1 hK1 hr hk1 hO h hK hq
  go_wp2_with fail
  first | exact hf | (go_ret; exact hf)
theorem salone2 (B p : Nat) (S : TS) (N m : Nat) (bk bt : Nat) (w : World) (h : Plays B w p S) (h1 : 1 ≤ N) (h2 : N ≤ 8) (hm : m < N) (hn0 : S.nts.length = 0)
    (c1 : ∀ i, w.cell? ⟨bk, i, none⟩ = (#[.int .i64 5, .int .i64 N, .int .i64 1, .int .i64 0, .int .i64 0, .int .i64 0] : Array Value)[i]?) (c2 : w.cell? ⟨bt, 0, none⟩ = some (.int .i64 m)) :
    Calls Try.prog 28 #[.pointer (some ⟨p, 0, none⟩), .pointer (some ⟨bk, 0, none⟩), .pointer (some ⟨bt, 0, none⟩)] w (Post encI B p w (((fastR (natS N) m).bind fun _ => .ret 0).run S)) := by
  have hl := nat_all2 N (by omega) h1
  have hq : Calls Try.prog 29 #[.pointer (some ⟨p, 0, none⟩), .agg #[.int .i64 5, .int .i64 N, .int .i64 1, .int .i64 0, .int .i64 0, .int .i64 0], .int .i64 m] w (Post encU B p w ((fastR (natS N) m).run S)) :=
    fastrel_p B p N S 5 1 0 0 0 m (natS N) w h h1 h2 hm hl (laid_all hl) hn0
  generalize hR : Post encI B p w (((fastR (natS N) m).bind fun _ => .ret 0).run S) = R
  have hO : Owes R encI B p w (((fastR (natS N) m).bind fun _ => .ret 0).run S) := hR ▸ owes _ _ _ _ _
  clear hR
  have hK := Keep.refl [2, 3, 4] B p w
  clear hl
  go_enter Try.func28, Try.ntmps28
  go_wp2_with fail
  clear c1 c2
  refine tstep hO hK hq (fun _ h => ⟨rfl, h⟩) ?_
  intro v S1 w1 hr hP1 hk1 hK1 hO1
  have hf := hO1.done (v := (0 : Int)) hP1 hK1
  clear hO1 hP1 hK1 hr hk1 hO h hK hq
  go_wp2_with fail
  first | exact hf | (go_ret; exact hf)
set_option maxRecDepth 100000 in
set_option maxHeartbeats 1000000 in
theorem salone_walk (n me : Nat) (w : World) (hn : n < 256) (hme : me < 256) : Calls Try.prog 6 #[.int .u8 n, .int .u8 me] w fun e w' => e = .returned (.bool true) ∧ Ext w w' := by
  have hmf : ∀ (fn : Fn) (first cap : Array Value) (w : World), (Instr.makeFunc fn first cap).run Try.prog w = .ok (.func fn first cap) w := fun _ _ _ _ => rfl
  obtain ⟨N, hN⟩ : ∃ N : Nat, 1 + (n : Int) % 8 = N := ⟨1 + n % 8, by omega⟩
  have h1 : 1 ≤ N := by omega
  have h2 : N ≤ 8 := by omega
  obtain ⟨m, hm⟩ : ∃ m : Nat, (me : Int) % (N : Int) = m := ⟨me % N, by omega⟩
  have hm1 : m < N := by
    have := Int.emod_lt_of_pos (me : Int) (show (0 : Int) < N by omega)
    omega
  obtain ⟨r1, r2, r3, r4⟩ := alone_is2 h1 h2 hm1
  have hr := Lib.hid (And.intro r1 (And.intro r2 (And.intro r3 r4)))
  clear r1 r2 r3 r4
  have hw := IntWalk.i64_in ((m : Int) + 1) (by omega)
  go_enter Try.func6, Try.ntmps6
  go_wp2_with fail
  have b1 := Blk.new w (.cells #[.int .i64 5, .int .i64 N, .int .i64 1, .int .i64 0, .int .i64 0, .int .i64 0] 44)
  have b2 := Blk.new (w.alloc (.cells #[.int .i64 5, .int .i64 N, .int .i64 1, .int .i64 0, .int .i64 0, .int .i64 0] 44)) (.cells #[.int .i64 m] 3)
  have hA := ints_new ((w.alloc (.cells #[.int .i64 5, .int .i64 N, .int .i64 1, .int .i64 0, .int .i64 0, .int .i64 0] 44)).alloc (.cells #[.int .i64 m] 3)) [0, 0, 0, 0, (m : Int) + 1] (by simp)
  replace b1 := (b1.alloc (.cells #[.int .i64 m] 3)).alloc (.cells (([0, 0, 0, 0, (m : Int) + 1] : List Int).map (Value.int .i64)).toArray 3)
  replace b2 := b2.alloc (.cells (([0, 0, 0, 0, (m : Int) + 1] : List Int).map (Value.int .i64)).toArray 3)
  have hX := (((Ext.refl w).alloc (.cells #[.int .i64 5, .int .i64 N, .int .i64 1, .int .i64 0, .int .i64 0, .int .i64 0] 44)).alloc (.cells #[.int .i64 m] 3)).alloc (.cells (([0, 0, 0, 0, (m : Int) + 1] : List Int).map (Value.int .i64)).toArray 3)
  simp only [World.size_alloc, List.map_cons, List.map_nil, List.length_cons, List.length_nil] at b1 b2 hA hX
  have hsz : w.heap.size + 1 + 1 < (((w.alloc (.cells #[.int .i64 5, .int .i64 N, .int .i64 1, .int .i64 0, .int .i64 0, .int .i64 0] 44)).alloc (.cells #[.int .i64 m] 3)).alloc (.cells #[.int .i64 0, .int .i64 0, .int .i64 0, .int .i64 0, .int .i64 ((m : Int) + 1)] 3)).heap.size := by simp
  generalize hzz : World.alloc (World.alloc (World.alloc w _) _) _ = V at *
  clear hzz hN hm
  have hPl := play_err 26 #[.pointer (some ⟨w.heap.size, 0, none⟩), .pointer (some ⟨w.heap.size + 1, 0, none⟩)] (fastA 6 (natS N) N m) none 0 [] (some ⟨w.heap.size + 1 + 1, 0, none⟩) 5 [0, 0, 0, 0, (m : Int) + 1] V (Ints.nil _) (by simp) hA (by simp [maxAns]) (fun k hk => by simp only [Value.ownBlock, Option.some.injEq] at hk; omega) (fun _ _ => rfl)
    (fun W p hxW hP => salone1 _ p _ N m w.heap.size (w.heap.size + 1) W hP h1 h2 hm1 (by simp [TS.left, TS0]) rfl (b1.ext hxW).cells ((b2.ext hxW).cells 0))
  rw [show (fastA 6 (natS N) N m).run (TS0 [] [0, 0, 0, 0, (m : Int) + 1]) = aloneA N m from rfl, hr.out.1] at hPl
  have hlen : (aloneA N m).2.acc.length = 5 := hr.out.2.1
  clear hA hsz
  generalize (aloneA N m).2 = S1 at *
  simp only [Option.getD_some, Option.isSome_some] at hPl
  refine hPl.mono ?_
  rintro e y1 ⟨v1, rfl, hO, hx1⟩
  obtain ⟨A1, c1, A1', c1', vs1, L1, rfl, hO⟩ := hO
  obtain ⟨As1, k1, hvs1, _, _⟩ := hO.locs.slice
  subst hvs1
  unfold outV
  rw [hlen]
  replace hX := hX.trans hx1
  replace b1 := b1.ext hx1
  replace b2 := b2.ext hx1
  clear hlen hO hx1 hPl
  go_wp2_with fail
  have n1 := Blk.new y1 (.cells #[.bool true, .slice A1 5 c1, .slice A1' S1.nts.length c1', .slice As1 (shortL L1).length k1] 32)
  replace b1 := b1.alloc (.cells #[.bool true, .slice A1 5 c1, .slice A1' S1.nts.length c1', .slice As1 (shortL L1).length k1] 32)
  replace b2 := b2.alloc (.cells #[.bool true, .slice A1 5 c1, .slice A1' S1.nts.length c1', .slice As1 (shortL L1).length k1] 32)
  replace hX := hX.alloc (.cells #[.bool true, .slice A1 5 c1, .slice A1' S1.nts.length c1', .slice As1 (shortL L1).length k1] 32)
  have hA := ints_new (y1.alloc (.cells #[.bool true, .slice A1 5 c1, .slice A1' S1.nts.length c1', .slice As1 (shortL L1).length k1] 32)) [0, 0] (by simp)
  replace n1 := n1.alloc (.cells (([0, 0] : List Int).map (Value.int .i64)).toArray 3)
  replace b1 := b1.alloc (.cells (([0, 0] : List Int).map (Value.int .i64)).toArray 3)
  replace b2 := b2.alloc (.cells (([0, 0] : List Int).map (Value.int .i64)).toArray 3)
  replace hX := hX.alloc (.cells (([0, 0] : List Int).map (Value.int .i64)).toArray 3)
  simp only [World.size_alloc, List.map_cons, List.map_nil, List.length_cons, List.length_nil] at b1 b2 hA n1 hX
  have hsz : y1.heap.size + 1 < (World.alloc (World.alloc y1 (.cells #[.bool true, .slice A1 5 c1, .slice A1' S1.nts.length c1', .slice As1 (shortL L1).length k1] 32)) (.cells #[.int .i64 0, .int .i64 0] 3)).heap.size := by simp
  generalize World.alloc (World.alloc y1 _) _ = V2 at *
  have hPl := play_int 28 #[.pointer (some ⟨w.heap.size, 0, none⟩), .pointer (some ⟨w.heap.size + 1, 0, none⟩)] ((fastR (natS N) m).bind fun _ => .ret 0) none 0 [] (some ⟨y1.heap.size + 1, 0, none⟩) 2 [0, 0] V2 (Ints.nil _) (by simp) hA (by decide) (fun k hk => by simp only [Value.ownBlock, Option.some.injEq] at hk; omega) (fun _ _ => rfl)
    (fun W p hxW hP => salone2 _ p _ N m w.heap.size (w.heap.size + 1) W hP h1 h2 hm1 rfl (b1.ext hxW).cells ((b2.ext hxW).cells 0))
  rw [show ((fastR (natS N) m).bind fun _ => Prog.ret (0 : Int)).run (TS0 [] [0, 0]) = aloneR N m from rfl, hr.out.2.2.1] at hPl
  have hlen : (aloneR N m).2.acc.length = 2 := hr.out.2.2.2
  clear hA hsz hr b1 b2
  generalize (aloneR N m).2 = S2 at *
  simp only [Option.getD_some, Option.isSome_some] at hPl
  refine hPl.mono ?_
  rintro e y2 ⟨v2, rfl, hO, hx2⟩
  obtain ⟨A2, c2, A2', c2', vs2, L2, rfl, hO⟩ := hO
  obtain ⟨As2, k2, hvs2, _, _⟩ := hO.locs.slice
  subst hvs2
  unfold outV
  rw [hlen]
  replace hX := hX.trans hx2
  replace n1 := n1.ext hx2
  clear hlen hO hx2 hPl
  have n2 := Blk.new y2 (.cells #[.bool true, .slice A2 2 c2, .slice A2' S2.nts.length c2', .slice As2 (shortL L2).length k2] 32)
  replace n1 := n1.alloc (.cells #[.bool true, .slice A2 2 c2, .slice A2' S2.nts.length c2', .slice As2 (shortL L2).length k2] 32)
  replace hX := hX.alloc (.cells #[.bool true, .slice A2 2 c2, .slice A2' S2.nts.length c2', .slice As2 (shortL L2).length k2] 32)
  have c_n1 := n1.cells
  have c_n2 := n2.cells
  have hXh := Lib.hid hX
  clear n1 n2 hX
  go_wp2_with fail
  refine (alive27 _).mono ?_
  rintro e w9 ⟨rfl, hx9⟩
  have hf := Lib.hid (hXh.out.trans hx9)
  clear hx9
  go_wp2_with fail
  go_ret
  exact ⟨rfl, hf.out⟩
end Go.Proofs.Ytpcohbpeglledaa
/-
  FastAlone: the input opened.
-/
namespace Go.Proofs.Ytpcohbpeglledaa.fastAlone
open Go.ChangeShapes Go.WideShapes Go.ChangeAt Go.RowKit Kv
set_option maxRecDepth 100000 in
theorem main (H : Type) (enc : TypeId × Value → H) (W : World) (base : Nat) (args : Array Value) (ds : List (DataW H)) (p : List MemPlace)
    (hval : ∀ (j : Nat) t v, Try.f6.params[j]? = some t → args[j]? = some v → Value.okWide Try.prog W .any base t v)
    (hA : DataW.TrodAll enc Try.prog W 0 (fun _ => true) true Try.f6.params.toList args.toList ds p) (_hL : laidMetH Try.prog Rows.fastAloneRow.laid W) :
    Calls Try.prog 6 args W fun e w' => e = .returned (.bool true) ∧ Ext W w' := by
  rw [Try.params6] at hA hval
  obtain ⟨v0, vs0, d0, ds0, p0, q0, hargs, rfl, rfl, h0, r0⟩ := trodAll_cons hA
  obtain ⟨v1, vs1, d1, ds1, p1, q1, rfl, rfl, rfl, h1, r1⟩ := trodAll_cons r0
  obtain ⟨rfl, rfl, rfl⟩ := trodAll_nil r1
  obtain rfl : args = #[v0, v1] := by cases args; simp_all
  obtain ⟨s, rfl, rfl, rfl, ws⟩ := open_int Try.underlying5 (hval 0 5 v0 rfl rfl) h0
  obtain ⟨t, rfl, rfl, rfl, wt⟩ := open_int Try.underlying5 (hval 1 5 v1 rfl rfl) h1
  have hs := bounds_u8 ws
  have ht := bounds_u8 wt
  obtain ⟨n, rfl⟩ : ∃ n : Nat, s = (n : Int) := ⟨s.toNat, by omega⟩
  obtain ⟨me, rfl⟩ : ∃ n : Nat, t = (n : Int) := ⟨t.toNat, by omega⟩
  exact salone_walk n me W (by omega) (by omega)
end Go.Proofs.Ytpcohbpeglledaa.fastAlone
