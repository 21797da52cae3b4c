/-
  Plain mathematics of Kessels' lock: entering and leaving as trees.
-/
import Derived.Test.YtpcohbpeglledaaGreatJB6
import Derived.Deep.DeepCutAuto
/-
  Plain mathematics of Kessels' lock: entering and leaving as trees.
-/
namespace Kv
def kesFree (s t y : Int) : Bool := if s = 1 then decide (bitM y = t) else decide (bitM y ≠ t)
def kesT (s x : Int) : Int := if s = 1 then 1 - bitM x else bitM x
/-- Spinning, so many rounds at most. -/
def kesSpin (qo ro : Reg) (s t me : Int) : Nat → Prog Unit
  | 0 => .ret ()
  | n + 1 => (regR qo me).bind fun x => if x = 0 then .ret () else (regR ro me).bind fun y => if kesFree s t y then .ret () else kesSpin qo ro s t me n
def kesEnter (n : Nat) (qs qo rs ro : Reg) (s me : Int) : Prog Unit :=
  (regW qs me 1).bind fun _ => (regR ro me).bind fun x => (regW rs me (kesT s x)).bind fun _ => kesSpin qo ro s (kesT s x) me n
end Kv
/-
  Kessels: entering, by the program.
-/
namespace Go.Proofs.YtpcohbpeglledaaGreat
open Go.RowKit Kv
theorem kbit_p (x : Int) (w : World) : Calls Tryz.prog 97 #[.int .i64 x] w fun e w' => e = .returned (.int .i64 (bitM x)) ∧ w = w' := by
  unfold bitM
  by_cases h : x = 0
  · rw [if_pos h]
    go_enter Tryz.func97, Tryz.ntmps97
    go_wp2_with fail
    go_ret
    exact ⟨rfl, rfl⟩
  · rw [if_neg h]
    have hb : (x != 0) = true := by rw [bne_iff_ne]; exact h
    go_enter Tryz.func97, Tryz.ntmps97
    go_wp2_with fail
    go_ret
    exact ⟨rfl, rfl⟩
theorem kfree0_p (x t : Int) (b : Nat) (w : World) (h : w.cell? ⟨b, 0, none⟩ = some (.int .i64 t)) : Calls Tryz.prog 98 #[.int .i64 x, .pointer (some ⟨b, 0, none⟩)] w fun e w' => e = .returned (.bool (x != t)) ∧ w = w' := by
  go_enter Tryz.func98, Tryz.ntmps98
  go_wp2_with fail
  go_ret
  exact ⟨rfl, rfl⟩
theorem kfree1_p (x t : Int) (b : Nat) (w : World) (h : w.cell? ⟨b, 0, none⟩ = some (.int .i64 t)) : Calls Tryz.prog 99 #[.int .i64 x, .pointer (some ⟨b, 0, none⟩)] w fun e w' => e = .returned (.bool (x == t)) ∧ w = w' := by
  go_enter Tryz.func99, Tryz.ntmps99
  go_wp2_with fail
  go_ret
  exact ⟨rfl, rfl⟩
theorem cells_pm (r : Reg) (me : Int) (w : World) (ho : r.ok) (ht : r.told me) (hm : 0 ≤ me ∧ me < r.n) : Calls Tryz.prog 100 #[encR r] w fun e w' => ∃ c : Int, e = .returned (.int .i64 c) ∧ (c == 0) = false ∧ Ext w w' := by
  refine (cells_p r w (by rcases ht with h | ⟨h, _⟩ | ⟨h, h2⟩; exact .inl h; exact .inr (.inl h); exact .inr (.inr ⟨h, h2⟩)) ho.n (fun w => mthreads_p r.n w ho.n.1 ho.n.2)).mono fun e w' h => ⟨_, h.1, ?_, h.2⟩
  rw [beq_eq_false_iff_ne]
  have hn := ho.n
  have h2 : r.kind ≠ 1 → 2 ≤ r.n := fun h1 => by
    rcases ht with h | ⟨h, h3⟩ | ⟨h, h3⟩
    · exact absurd h h1
    · have := ho.wr h; omega
    · exact h3
  unfold cellsM
  split
  · decide
  · rename_i h1
    have h3 := h2 h1
    have p1 : 0 < 16 * (r.n - 1) * (r.n - 1) := Int.mul_pos (by omega) (by omega)
    split
    · omega
    · have p2 : 0 < 16 * (r.n - 1) * (r.n - 1) * r.n := Int.mul_pos p1 (by omega)
      omega
set_option maxRecDepth 100000 in
set_option maxHeartbeats 1000000 in
theorem kes_enter_p0 (B p N : Nat) (S : TS) (q0 q1 r0 r1 : Reg) (side me : Int) (b c : Nat) (w : World) (h : Plays B w p S) (hl : RegsAt [2, 3, 4] w p b [q0, q1, r0, r1]) (hq0 : q0.ok) (hq1 : q1.ok) (hr0 : r0.ok) (hr1 : r1.ok)
    (hm0 : 0 ≤ me) (hm1 : me < q0.n) (hm2 : me < q1.n) (hm3 : me < r0.n) (hm4 : me < r1.n) (ht1 : q1.told me) (_ht2 : r1.told me) (hN : S.left < N) (hs : bitM side = 0) (hc4 : 4 ≤ c) (hc5 : c ≤ 9223372036854775807) :
    Calls Tryz.prog 28 #[.pointer (some ⟨p, 0, none⟩), .slice (some ⟨b, 0, none⟩) 4 c, .int .i64 side, .int .i64 me] w (Post encU B p w ((kesEnter N q0 q1 r0 r1 0 me).run S)) := by
  generalize hR : Post encU B p w ((kesEnter N q0 q1 r0 r1 0 me).run S) = R
  have hO : Owes R encU B p w ((kesEnter N q0 q1 r0 r1 0 me).run S) := hR ▸ owes _ _ _ _ _
  clear hR
  have hmf : ∀ (fn : Fn) (first cap : Array Value) (w : World), (Instr.makeFunc fn first cap).run Tryz.prog w = .ok (.func fn first cap) w := fun _ _ _ _ => rfl
  have hK := Keep.refl [2, 3, 4] B p w
  have hP := h
  clear h
  unfold kesEnter at hO
  obtain ⟨⟨a0, a1, a2, a3, a4, a5, a6⟩, ⟨e0, e1, e2, e3, e4, e5, e6⟩, ⟨f0, f1, f2, f3, f4, f5, f6⟩, ⟨g0, g1, g2, g3, g4, g5, g6⟩⟩ := hl.four
  have hc6 : (2 : Int) ≤ (c : Int) := by omega
  have hc7 : (4 : Int) ≤ (c : Int) := by omega
  have hb := kbit_p side w
  rw [hs] at hb
  clear hs
  go_enter Tryz.func28, Tryz.ntmps28
  go_wp2_with fail
  refine hb.mono ?_
  rintro e w' ⟨rfl, rfl⟩
  clear hb
  go_wp2_with fail
  go_quiet (fail)
  have hx := (Ext.refl w).drewN nq
  replace hl := hl.extL hx hP.lt
  replace hK := hK.trans (Keep.of_ext hx hP.lt hP.le)
  replace hP := hP.ext hx
  clear a0 a1 a2 a3 a4 a5 a6 e0 e1 e2 e3 e4 e5 e6 f0 f1 f2 f3 f4 f5 f6 g0 g1 g2 g3 g4 g5 g6 hx
  generalize w.drewN nq = wz at *
  obtain ⟨⟨a0, a1, a2, a3, a4, a5, a6⟩, ⟨e0, e1, e2, e3, e4, e5, e6⟩, ⟨f0, f1, f2, f3, f4, f5, f6⟩, ⟨g0, g1, g2, g3, g4, g5, g6⟩⟩ := hl.four
  go_wp2_with fail
  refine tstepL hO hK (reg_write_p B p S q0 me 1 _ hP hq0 ⟨hm0, by omega⟩) (fun _ h => ⟨rfl, h⟩) ?_
  clear hO hK hP
  intro u S w1 hlf _ hP hk hK hO
  replace hN := Nat.lt_of_le_of_lt hlf hN
  replace hl := hl.keep hk
  clear a0 a1 a2 a3 a4 a5 a6 e0 e1 e2 e3 e4 e5 e6 f0 f1 f2 f3 f4 f5 f6 g0 g1 g2 g3 g4 g5 g6 hk hlf
  obtain ⟨⟨a0, a1, a2, a3, a4, a5, a6⟩, ⟨e0, e1, e2, e3, e4, e5, e6⟩, ⟨f0, f1, f2, f3, f4, f5, f6⟩, ⟨g0, g1, g2, g3, g4, g5, g6⟩⟩ := hl.four
  go_wp2_with fail
  refine tstepL hO hK (reg_read_p B p S r1 me _ hP hr1 ⟨hm0, by omega⟩) (fun _ h => ⟨rfl, h⟩) ?_
  clear hO hK hP
  intro x S w2 hlf _ hP hk hK hO
  replace hN := Nat.lt_of_le_of_lt hlf hN
  replace hl := hl.keep hk
  clear a0 a1 a2 a3 a4 a5 a6 e0 e1 e2 e3 e4 e5 e6 f0 f1 f2 f3 f4 f5 f6 g0 g1 g2 g3 g4 g5 g6 hk hlf
  obtain ⟨⟨a0, a1, a2, a3, a4, a5, a6⟩, ⟨e0, e1, e2, e3, e4, e5, e6⟩, ⟨f0, f1, f2, f3, f4, f5, f6⟩, ⟨g0, g1, g2, g3, g4, g5, g6⟩⟩ := hl.four
  go_wp2_with fail
  have hbx : 0 ≤ bitM x ∧ bitM x ≤ 1 := by unfold bitM; split <;> omega
  have hwx := w64 (1 - bitM x) (by omega) (by omega)
  refine (kbit_p x _).mono ?_
  rintro e w' ⟨rfl, rfl⟩
  go_wp2_with fail
  have hPo := hP
  have bT := hP.held (.cells #[.int .i64 (bitM x)] 3)
  replace hK := hK.trans (Keep.alloc (.cells #[.int .i64 (bitM x)] 3) hP.lt hP.le)
  replace hP := hP.alloc (.cells #[.int .i64 (bitM x)] 3)
  have c_bT := bT.cells
  replace hl := hl.extL ((Ext.refl _).alloc (.cells #[.int .i64 (bitM x)] 3)) hPo.lt
  clear hPo
  clear a0 a1 a2 a3 a4 a5 a6 e0 e1 e2 e3 e4 e5 e6 f0 f1 f2 f3 f4 f5 f6 g0 g1 g2 g3 g4 g5 g6
  rw [show kesT 0 x = (bitM x) from rfl] at hO
  replace hP := hP.drew
  replace hK := hK.drew
  replace bT := bT.drew
  replace hl := hl.extL (Ext.refl _).drew hP.lt
  have hS : ∀ w', RegsAt [2, 3, 4] w' p b [q0, q1, r0, r1] → HeldP w' p w2.heap.size (.cells #[.int .i64 (bitM x)] 3) → (w'.cell? ⟨b, 14, none⟩ = some (.int .i64 r0.kind) ∧ w'.cell? ⟨b, 15, none⟩ = some (.int .i64 r0.base) ∧ w'.cell? ⟨b, 16, none⟩ = some (.int .i64 r0.loc) ∧ w'.cell? ⟨b, 17, none⟩ = some (.int .i64 r0.n) ∧ w'.cell? ⟨b, 18, none⟩ = some (.int .i64 r0.wr) ∧ w'.cell? ⟨b, 19, none⟩ = some (.int .i64 r0.rd) ∧ w'.cell? ⟨b, 20, none⟩ = some (.int .i64 r0.top)) ∧ (∀ i, w'.cell? ⟨w2.heap.size, i, none⟩ = (#[.int .i64 (bitM x)] : Array Value)[i]?) := fun w' h1 h2 => by
    obtain ⟨y0, y1, y2, y3, y4, y5, y6⟩ := h1.four.2.2.1
    exact ⟨⟨y0, y1, y2, y3, y4, y5, y6⟩, h2.cells⟩
  go_region_held2 (fun w' => (w'.cell? ⟨b, 14, none⟩ = some (.int .i64 r0.kind) ∧ w'.cell? ⟨b, 15, none⟩ = some (.int .i64 r0.base) ∧ w'.cell? ⟨b, 16, none⟩ = some (.int .i64 r0.loc) ∧ w'.cell? ⟨b, 17, none⟩ = some (.int .i64 r0.n) ∧ w'.cell? ⟨b, 18, none⟩ = some (.int .i64 r0.wr) ∧ w'.cell? ⟨b, 19, none⟩ = some (.int .i64 r0.rd) ∧ w'.cell? ⟨b, 20, none⟩ = some (.int .i64 r0.top)) ∧ (∀ i, w'.cell? ⟨w2.heap.size, i, none⟩ = (#[.int .i64 (bitM x)] : Array Value)[i]?)) (exact hS _ hl bT)
    (first
      | (go_at_call 89
         refine tstepL hO hK (reg_write_p B p S r0 me (bitM x) _ hP hr0 ⟨hm0, by omega⟩) (fun _ h => ⟨rfl, h⟩) ?_
         clear hO hK hP
         intro u S w3 hlf _ hP hk hK hO
         replace hN := Nat.lt_of_le_of_lt hlf hN
         replace hl := hl.keep hk
         replace bT := bT.keep hk
         clear hk hlf))
  rename_i hh
  clear hh c_bT
  generalize htx : (bitM x) = t at *
  go_wp2_with fail
  go_loopw [] (fun wr => ∃ (n : Nat) (S1 : TS), Plays B wr p S1 ∧ KeepP B p w wr ∧ HeldP wr p w2.heap.size (.cells #[.int .i64 t] 3) ∧ RegsAt [2, 3, 4] wr p b [q0, q1, r0, r1] ∧ Hid (Owes R encU B p w ((kesSpin q1 r1 0 t me n).run S1)) ∧ S1.left < n) (fun wr => leftW 1 3 wr p)
  case atStart => exact ⟨N, S, hP, hK, bT, hl, hO, hN⟩
  case round =>
    clear hS hP hK bT hl hO hN
    obtain ⟨n, S1, hP, hK, bT, hl, hO, hN⟩ := hrel
    have hO := hO.out
    have hlw := Lib.hid hP.left
    cases n with
    | zero => omega
    | succ n =>
      unfold kesSpin at hO
      obtain ⟨⟨a0, a1, a2, a3, a4, a5, a6⟩, ⟨e0, e1, e2, e3, e4, e5, e6⟩, ⟨f0, f1, f2, f3, f4, f5, f6⟩, ⟨g0, g1, g2, g3, g4, g5, g6⟩⟩ := hl.four
      go_wp2_with fail
      refine tstepL hO hK (reg_read_p B p S1 q1 me _ hP hq1 ⟨hm0, by omega⟩) (fun _ h => ⟨rfl, h⟩) ?_
      clear hO hK hP
      intro v S2 w4 _ hlf hP hk hK hO
      replace hlf := hlf (asks_regR _ _ ht1)
      replace hl := hl.keep hk
      replace bT := bT.keep hk
      clear a0 a1 a2 a3 a4 a5 a6 e0 e1 e2 e3 e4 e5 e6 f0 f1 f2 f3 f4 f5 f6 g0 g1 g2 g3 g4 g5 g6 hk
      by_cases hv : v = 0
      · rw [if_pos hv] at hO
        subst hv
        have hf : R (.returned (encU ())) w4 := hO.done hP hK
        clear hO hP hK hl bT
        go_wp2_with fail
        first | exact hf | (refine bodyPost_ret (results_none rfl _ _ _) rfl ?_; exact hf)
      · rw [if_neg hv] at hO
        have hv2 : (v == 0) = false := by rw [beq_eq_false_iff_ne]; exact hv
        obtain ⟨⟨a0, a1, a2, a3, a4, a5, a6⟩, ⟨e0, e1, e2, e3, e4, e5, e6⟩, ⟨f0, f1, f2, f3, f4, f5, f6⟩, ⟨g0, g1, g2, g3, g4, g5, g6⟩⟩ := hl.four
        clear hv
        go_wp2_with fail
        refine tstepL hO hK (reg_read_p B p S2 r1 me _ hP hr1 ⟨hm0, by omega⟩) (fun _ h => ⟨rfl, h⟩) ?_
        clear hO hK hP
        intro y S3 w5 hlf2 _ hP hk hK hO
        replace hl := hl.keep hk
        replace bT := bT.keep hk
        clear a0 a1 a2 a3 a4 a5 a6 e0 e1 e2 e3 e4 e5 e6 f0 f1 f2 f3 f4 f5 f6 g0 g1 g2 g3 g4 g5 g6 hk
        have c_bT := bT.cells
        go_wp2_with fail
        refine (kbit_p y _).mono ?_
        rintro e w' ⟨rfl, rfl⟩
        go_wp2_with fail
        refine (kfree0_p (bitM y) t _ _ (c_bT 0)).mono ?_
        rintro e w' ⟨rfl, rfl⟩
        by_cases hy : kesFree 0 t y = true
        · rw [if_pos hy] at hO
          have hy2 : (bitM y != t) = true := by unfold kesFree at hy; simpa using hy
          have hf : R (.returned (encU ())) w5 := hO.done hP hK
          clear hO hP hK hl bT hy
          go_wp2_with fail
          first | exact hf | (refine bodyPost_ret (results_none rfl _ _ _) rfl ?_; exact hf)
        · rw [if_neg hy] at hO
          have hy2 : (bitM y != t) = false := by unfold kesFree at hy; simpa using hy
          obtain ⟨⟨a0, a1, a2, a3, a4, a5, a6⟩, ⟨e0, e1, e2, e3, e4, e5, e6⟩, ⟨f0, f1, f2, f3, f4, f5, f6⟩, ⟨g0, g1, g2, g3, g4, g5, g6⟩⟩ := hl.four
          clear hy c_bT
          go_wp2_with fail
          refine (cells_pm q1 me _ hq1 ht1 ⟨hm0, by omega⟩).mono ?_
          rintro e w6 ⟨cc, rfl, hcc, hx⟩
          replace hl := hl.extL hx hP.lt
          replace bT := bT.ext hx hP.lt
          replace hK := hK.trans (Keep.of_ext hx hP.lt hP.le)
          replace hP := hP.ext hx
          clear a0 a1 a2 a3 a4 a5 a6 e0 e1 e2 e3 e4 e5 e6 f0 f1 f2 f3 f4 f5 f6 g0 g1 g2 g3 g4 g5 g6 hx
          have hlw2 := Lib.hid hP.left
          have hOh := Lib.hid hO
          clear hO
          go_wp2_with fail
          refine ⟨⟨n, S3, hP, hK, bT, hl, hOh, by omega⟩, ?_⟩
          rw [hlw.out, hlw2.out]
          omega
set_option maxRecDepth 100000 in
set_option maxHeartbeats 1000000 in
theorem kes_enter_p1 (B p N : Nat) (S : TS) (q0 q1 r0 r1 : Reg) (side me : Int) (b c : Nat) (w : World) (h : Plays B w p S) (hl : RegsAt [2, 3, 4] w p b [q0, q1, r0, r1]) (hq0 : q0.ok) (hq1 : q1.ok) (hr0 : r0.ok) (hr1 : r1.ok)
    (hm0 : 0 ≤ me) (hm1 : me < q0.n) (hm2 : me < q1.n) (hm3 : me < r0.n) (hm4 : me < r1.n) (ht1 : q0.told me) (_ht2 : r0.told me) (hN : S.left < N) (hs : bitM side = 1) (hc4 : 4 ≤ c) (hc5 : c ≤ 9223372036854775807) :
    Calls Tryz.prog 28 #[.pointer (some ⟨p, 0, none⟩), .slice (some ⟨b, 0, none⟩) 4 c, .int .i64 side, .int .i64 me] w (Post encU B p w ((kesEnter N q1 q0 r1 r0 1 me).run S)) := by
  generalize hR : Post encU B p w ((kesEnter N q1 q0 r1 r0 1 me).run S) = R
  have hO : Owes R encU B p w ((kesEnter N q1 q0 r1 r0 1 me).run S) := hR ▸ owes _ _ _ _ _
  clear hR
  have hmf : ∀ (fn : Fn) (first cap : Array Value) (w : World), (Instr.makeFunc fn first cap).run Tryz.prog w = .ok (.func fn first cap) w := fun _ _ _ _ => rfl
  have hK := Keep.refl [2, 3, 4] B p w
  have hP := h
  clear h
  unfold kesEnter at hO
  obtain ⟨⟨a0, a1, a2, a3, a4, a5, a6⟩, ⟨e0, e1, e2, e3, e4, e5, e6⟩, ⟨f0, f1, f2, f3, f4, f5, f6⟩, ⟨g0, g1, g2, g3, g4, g5, g6⟩⟩ := hl.four
  have hc6 : (2 : Int) ≤ (c : Int) := by omega
  have hc7 : (4 : Int) ≤ (c : Int) := by omega
  have hb := kbit_p side w
  rw [hs] at hb
  clear hs
  go_enter Tryz.func28, Tryz.ntmps28
  go_wp2_with fail
  refine hb.mono ?_
  rintro e w' ⟨rfl, rfl⟩
  clear hb
  go_wp2_with fail
  go_quiet (fail)
  have hx := (Ext.refl w).drewN nq
  replace hl := hl.extL hx hP.lt
  replace hK := hK.trans (Keep.of_ext hx hP.lt hP.le)
  replace hP := hP.ext hx
  clear a0 a1 a2 a3 a4 a5 a6 e0 e1 e2 e3 e4 e5 e6 f0 f1 f2 f3 f4 f5 f6 g0 g1 g2 g3 g4 g5 g6 hx
  generalize w.drewN nq = wz at *
  obtain ⟨⟨a0, a1, a2, a3, a4, a5, a6⟩, ⟨e0, e1, e2, e3, e4, e5, e6⟩, ⟨f0, f1, f2, f3, f4, f5, f6⟩, ⟨g0, g1, g2, g3, g4, g5, g6⟩⟩ := hl.four
  go_wp2_with fail
  refine tstepL hO hK (reg_write_p B p S q1 me 1 _ hP hq1 ⟨hm0, by omega⟩) (fun _ h => ⟨rfl, h⟩) ?_
  clear hO hK hP
  intro u S w1 hlf _ hP hk hK hO
  replace hN := Nat.lt_of_le_of_lt hlf hN
  replace hl := hl.keep hk
  clear a0 a1 a2 a3 a4 a5 a6 e0 e1 e2 e3 e4 e5 e6 f0 f1 f2 f3 f4 f5 f6 g0 g1 g2 g3 g4 g5 g6 hk hlf
  obtain ⟨⟨a0, a1, a2, a3, a4, a5, a6⟩, ⟨e0, e1, e2, e3, e4, e5, e6⟩, ⟨f0, f1, f2, f3, f4, f5, f6⟩, ⟨g0, g1, g2, g3, g4, g5, g6⟩⟩ := hl.four
  go_wp2_with fail
  refine tstepL hO hK (reg_read_p B p S r0 me _ hP hr0 ⟨hm0, by omega⟩) (fun _ h => ⟨rfl, h⟩) ?_
  clear hO hK hP
  intro x S w2 hlf _ hP hk hK hO
  replace hN := Nat.lt_of_le_of_lt hlf hN
  replace hl := hl.keep hk
  clear a0 a1 a2 a3 a4 a5 a6 e0 e1 e2 e3 e4 e5 e6 f0 f1 f2 f3 f4 f5 f6 g0 g1 g2 g3 g4 g5 g6 hk hlf
  obtain ⟨⟨a0, a1, a2, a3, a4, a5, a6⟩, ⟨e0, e1, e2, e3, e4, e5, e6⟩, ⟨f0, f1, f2, f3, f4, f5, f6⟩, ⟨g0, g1, g2, g3, g4, g5, g6⟩⟩ := hl.four
  go_wp2_with fail
  have hbx : 0 ≤ bitM x ∧ bitM x ≤ 1 := by unfold bitM; split <;> omega
  have hwx := w64 (1 - bitM x) (by omega) (by omega)
  refine (kbit_p x _).mono ?_
  rintro e w' ⟨rfl, rfl⟩
  go_wp2_with fail
  have hPo := hP
  have bT := hP.held (.cells #[.int .i64 (1 - bitM x)] 3)
  replace hK := hK.trans (Keep.alloc (.cells #[.int .i64 (1 - bitM x)] 3) hP.lt hP.le)
  replace hP := hP.alloc (.cells #[.int .i64 (1 - bitM x)] 3)
  have c_bT := bT.cells
  replace hl := hl.extL ((Ext.refl _).alloc (.cells #[.int .i64 (1 - bitM x)] 3)) hPo.lt
  clear hPo
  clear a0 a1 a2 a3 a4 a5 a6 e0 e1 e2 e3 e4 e5 e6 f0 f1 f2 f3 f4 f5 f6 g0 g1 g2 g3 g4 g5 g6
  rw [show kesT 1 x = (1 - bitM x) from rfl] at hO
  replace hP := hP.drew
  replace hK := hK.drew
  replace bT := bT.drew
  replace hl := hl.extL (Ext.refl _).drew hP.lt
  have hS : ∀ w', RegsAt [2, 3, 4] w' p b [q0, q1, r0, r1] → HeldP w' p w2.heap.size (.cells #[.int .i64 (1 - bitM x)] 3) → (w'.cell? ⟨b, 21, none⟩ = some (.int .i64 r1.kind) ∧ w'.cell? ⟨b, 22, none⟩ = some (.int .i64 r1.base) ∧ w'.cell? ⟨b, 23, none⟩ = some (.int .i64 r1.loc) ∧ w'.cell? ⟨b, 24, none⟩ = some (.int .i64 r1.n) ∧ w'.cell? ⟨b, 25, none⟩ = some (.int .i64 r1.wr) ∧ w'.cell? ⟨b, 26, none⟩ = some (.int .i64 r1.rd) ∧ w'.cell? ⟨b, 27, none⟩ = some (.int .i64 r1.top)) ∧ (∀ i, w'.cell? ⟨w2.heap.size, i, none⟩ = (#[.int .i64 (1 - bitM x)] : Array Value)[i]?) := fun w' h1 h2 => by
    obtain ⟨y0, y1, y2, y3, y4, y5, y6⟩ := h1.four.2.2.2
    exact ⟨⟨y0, y1, y2, y3, y4, y5, y6⟩, h2.cells⟩
  go_region_held2 (fun w' => (w'.cell? ⟨b, 21, none⟩ = some (.int .i64 r1.kind) ∧ w'.cell? ⟨b, 22, none⟩ = some (.int .i64 r1.base) ∧ w'.cell? ⟨b, 23, none⟩ = some (.int .i64 r1.loc) ∧ w'.cell? ⟨b, 24, none⟩ = some (.int .i64 r1.n) ∧ w'.cell? ⟨b, 25, none⟩ = some (.int .i64 r1.wr) ∧ w'.cell? ⟨b, 26, none⟩ = some (.int .i64 r1.rd) ∧ w'.cell? ⟨b, 27, none⟩ = some (.int .i64 r1.top)) ∧ (∀ i, w'.cell? ⟨w2.heap.size, i, none⟩ = (#[.int .i64 (1 - bitM x)] : Array Value)[i]?)) (exact hS _ hl bT)
    (first
      | (go_at_call 89
         refine tstepL hO hK (reg_write_p B p S r1 me (1 - bitM x) _ hP hr1 ⟨hm0, by omega⟩) (fun _ h => ⟨rfl, h⟩) ?_
         clear hO hK hP
         intro u S w3 hlf _ hP hk hK hO
         replace hN := Nat.lt_of_le_of_lt hlf hN
         replace hl := hl.keep hk
         replace bT := bT.keep hk
         clear hk hlf))
  rename_i hh
  clear hh c_bT
  generalize htx : (1 - bitM x) = t at *
  go_wp2_with fail
  go_loopw [] (fun wr => ∃ (n : Nat) (S1 : TS), Plays B wr p S1 ∧ KeepP B p w wr ∧ HeldP wr p w2.heap.size (.cells #[.int .i64 t] 3) ∧ RegsAt [2, 3, 4] wr p b [q0, q1, r0, r1] ∧ Hid (Owes R encU B p w ((kesSpin q0 r0 1 t me n).run S1)) ∧ S1.left < n) (fun wr => leftW 1 3 wr p)
  case atStart => exact ⟨N, S, hP, hK, bT, hl, hO, hN⟩
  case round =>
    clear hS hP hK bT hl hO hN
    obtain ⟨n, S1, hP, hK, bT, hl, hO, hN⟩ := hrel
    have hO := hO.out
    have hlw := Lib.hid hP.left
    cases n with
    | zero => omega
    | succ n =>
      unfold kesSpin at hO
      obtain ⟨⟨a0, a1, a2, a3, a4, a5, a6⟩, ⟨e0, e1, e2, e3, e4, e5, e6⟩, ⟨f0, f1, f2, f3, f4, f5, f6⟩, ⟨g0, g1, g2, g3, g4, g5, g6⟩⟩ := hl.four
      go_wp2_with fail
      refine tstepL hO hK (reg_read_p B p S1 q0 me _ hP hq0 ⟨hm0, by omega⟩) (fun _ h => ⟨rfl, h⟩) ?_
      clear hO hK hP
      intro v S2 w4 _ hlf hP hk hK hO
      replace hlf := hlf (asks_regR _ _ ht1)
      replace hl := hl.keep hk
      replace bT := bT.keep hk
      clear a0 a1 a2 a3 a4 a5 a6 e0 e1 e2 e3 e4 e5 e6 f0 f1 f2 f3 f4 f5 f6 g0 g1 g2 g3 g4 g5 g6 hk
      by_cases hv : v = 0
      · rw [if_pos hv] at hO
        subst hv
        have hf : R (.returned (encU ())) w4 := hO.done hP hK
        clear hO hP hK hl bT
        go_wp2_with fail
        first | exact hf | (refine bodyPost_ret (results_none rfl _ _ _) rfl ?_; exact hf)
      · rw [if_neg hv] at hO
        have hv2 : (v == 0) = false := by rw [beq_eq_false_iff_ne]; exact hv
        obtain ⟨⟨a0, a1, a2, a3, a4, a5, a6⟩, ⟨e0, e1, e2, e3, e4, e5, e6⟩, ⟨f0, f1, f2, f3, f4, f5, f6⟩, ⟨g0, g1, g2, g3, g4, g5, g6⟩⟩ := hl.four
        clear hv
        go_wp2_with fail
        refine tstepL hO hK (reg_read_p B p S2 r0 me _ hP hr0 ⟨hm0, by omega⟩) (fun _ h => ⟨rfl, h⟩) ?_
        clear hO hK hP
        intro y S3 w5 hlf2 _ hP hk hK hO
        replace hl := hl.keep hk
        replace bT := bT.keep hk
        clear a0 a1 a2 a3 a4 a5 a6 e0 e1 e2 e3 e4 e5 e6 f0 f1 f2 f3 f4 f5 f6 g0 g1 g2 g3 g4 g5 g6 hk
        have c_bT := bT.cells
        go_wp2_with fail
        refine (kbit_p y _).mono ?_
        rintro e w' ⟨rfl, rfl⟩
        go_wp2_with fail
        refine (kfree1_p (bitM y) t _ _ (c_bT 0)).mono ?_
        rintro e w' ⟨rfl, rfl⟩
        by_cases hy : kesFree 1 t y = true
        · rw [if_pos hy] at hO
          have hy2 : (bitM y == t) = true := by unfold kesFree at hy; simpa using hy
          have hf : R (.returned (encU ())) w5 := hO.done hP hK
          clear hO hP hK hl bT hy
          go_wp2_with fail
          first | exact hf | (refine bodyPost_ret (results_none rfl _ _ _) rfl ?_; exact hf)
        · rw [if_neg hy] at hO
          have hy2 : (bitM y == t) = false := by unfold kesFree at hy; simpa using hy
          obtain ⟨⟨a0, a1, a2, a3, a4, a5, a6⟩, ⟨e0, e1, e2, e3, e4, e5, e6⟩, ⟨f0, f1, f2, f3, f4, f5, f6⟩, ⟨g0, g1, g2, g3, g4, g5, g6⟩⟩ := hl.four
          clear hy c_bT
          go_wp2_with fail
          refine (cells_pm q0 me _ hq0 ht1 ⟨hm0, by omega⟩).mono ?_
          rintro e w6 ⟨cc, rfl, hcc, hx⟩
          replace hl := hl.extL hx hP.lt
          replace bT := bT.ext hx hP.lt
          replace hK := hK.trans (Keep.of_ext hx hP.lt hP.le)
          replace hP := hP.ext hx
          clear a0 a1 a2 a3 a4 a5 a6 e0 e1 e2 e3 e4 e5 e6 f0 f1 f2 f3 f4 f5 f6 g0 g1 g2 g3 g4 g5 g6 hx
          have hlw2 := Lib.hid hP.left
          have hOh := Lib.hid hO
          clear hO
          go_wp2_with fail
          refine ⟨⟨n, S3, hP, hK, bT, hl, hOh, by omega⟩, ?_⟩
          rw [hlw.out, hlw2.out]
          omega
end Go.Proofs.YtpcohbpeglledaaGreat
/-
  Kessels: leaving, by the program.
-/
namespace Go.Proofs.YtpcohbpeglledaaGreat
open Go.RowKit Kv
theorem kbit_p' (x : Int) (w : World) : Calls Tryz.prog 97 #[.int .i64 x] w fun e w' => e = .returned (.int .i64 (bitM x)) ∧ w = w' := by
  unfold bitM
  by_cases h : x = 0
  · rw [if_pos h]
    go_enter Tryz.func97, Tryz.ntmps97
    go_wp2_with fail
    go_ret
    exact ⟨rfl, rfl⟩
  · rw [if_neg h]
    have hb : (x != 0) = true := by rw [bne_iff_ne]; exact h
    go_enter Tryz.func97, Tryz.ntmps97
    go_wp2_with fail
    go_ret
    exact ⟨rfl, rfl⟩
theorem kes_leave_p (B p : Nat) (S : TS) (q0 q1 r0 r1 : Reg) (side me : Int) (b c : Nat) (w : World) (h : Plays B w p S) (hl : RegsAt [2, 3, 4] w p b [q0, q1, r0, r1]) (hq0 : q0.ok) (hq1 : q1.ok)
    (hm0 : 0 ≤ me) (hm1 : me < q0.n) (hm2 : me < q1.n) :
    Calls Tryz.prog 31 #[.pointer (some ⟨p, 0, none⟩), .slice (some ⟨b, 0, none⟩) 4 c, .int .i64 side, .int .i64 me] w (Post encU B p w ((regW (if bitM side = 1 then q1 else q0) me 0).run S)) := by
  have hb := kbit_p' side w
  obtain ⟨⟨a0, a1, a2, a3, a4, a5, a6⟩, ⟨e0, e1, e2, e3, e4, e5, e6⟩, -, -⟩ := hl.four
  have hs : bitM side = 0 ∨ bitM side = 1 := by unfold bitM; split <;> simp
  rcases hs with hs | hs
  · rw [hs] at hb ⊢
    rw [if_neg (by omega)]
    generalize hR : Post encU B p w ((regW q0 me 0).run S) = R
    have hO : Owes R encU B p w ((regW q0 me 0).run S) := hR ▸ owes _ _ _ _ _
    clear hR
    go_enter Tryz.func31, Tryz.ntmps31
    go_wp2_with fail
    refine hb.mono ?_
    rintro e w' ⟨rfl, rfl⟩
    go_wp2_with fail
    clear a0 a1 a2 a3 a4 a5 a6 e0 e1 e2 e3 e4 e5 e6 hl hb
    refine tlast hO (Keep.refl _ _ _ _) (reg_write_p B p S q0 me 0 _ h hq0 ⟨hm0, hm1⟩) (fun _ h => ⟨rfl, h⟩) ?_
    intro v S1 w1 hr hP1 hk1 hK1 hO1
    have hf := hO1.done hP1 hK1
    clear hO1 hP1 hK1 hr hk1 hO h
    go_wp2_with fail
    first | exact hf | (refine bodyPost_ret (results_none rfl _ _ _) rfl ?_; exact hf)
  · rw [hs] at hb ⊢
    rw [if_pos rfl]
    generalize hR : Post encU B p w ((regW q1 me 0).run S) = R
    have hO : Owes R encU B p w ((regW q1 me 0).run S) := hR ▸ owes _ _ _ _ _
    clear hR
    go_enter Tryz.func31, Tryz.ntmps31
    go_wp2_with fail
    refine hb.mono ?_
    rintro e w' ⟨rfl, rfl⟩
    go_wp2_with fail
    clear a0 a1 a2 a3 a4 a5 a6 e0 e1 e2 e3 e4 e5 e6 hl hb
    refine tlast hO (Keep.refl _ _ _ _) (reg_write_p B p S q1 me 0 _ h hq1 ⟨hm0, hm2⟩) (fun _ h => ⟨rfl, h⟩) ?_
    intro v S1 w1 hr hP1 hk1 hK1 hO1
    have hf := hO1.done hP1 hK1
    clear hO1 hP1 hK1 hr hk1 hO h
    go_wp2_with fail
    first | exact hf | (refine bodyPost_ret (results_none rfl _ _ _) rfl ?_; exact hf)
end Go.Proofs.YtpcohbpeglledaaGreat
/-
  Kessels: entering, by the document.
-/
namespace Go.Proofs.YtpcohbpeglledaaGreat
open Go.RowKit Kv
set_option maxRecDepth 100000 in
set_option maxHeartbeats 1000000 in
theorem kes_zero_r (B p N : Nat) (o : Bool) (S : TS) (q0 q1 r0 r1 : Reg) (me : Int) (b c : Nat) (w : World) (h : RAt B w p o S) (hl : RegsAt [3, 4, 5] w p b [q0, q1, r0, r1]) (hq0 : q0.ok) (hq1 : q1.ok) (hr0 : r0.ok) (hr1 : r1.ok)
    (hm0 : 0 ≤ me) (hm1 : me < q0.n) (hm2 : me < q1.n) (hm3 : me < r0.n) (hm4 : me < r1.n) (ht1 : q1.told me) (_ht2 : r1.told me) (hN : S.left < N) :
    Calls Tryz.prog 101 #[.pointer (some ⟨p, 0, none⟩), .slice (some ⟨b, 0, none⟩) 4 c, .int .i64 me] w (RPost encU B p w (kesEnter N q0 q1 r0 r1 0 me) o S) := by
  generalize hR : RPost encU B p w (kesEnter N q0 q1 r0 r1 0 me) o S = R
  have hO : ROwes R encU B p w (kesEnter N q0 q1 r0 r1 0 me) o S := hR ▸ rowes _ _ _ _ _ _ _
  clear hR
  have hK := Keep.refl [3, 4, 5] B p w
  have hP := h
  clear h
  unfold kesEnter at hO
  obtain ⟨⟨a0, a1, a2, a3, a4, a5, a6⟩, ⟨e0, e1, e2, e3, e4, e5, e6⟩, ⟨f0, f1, f2, f3, f4, f5, f6⟩, ⟨g0, g1, g2, g3, g4, g5, g6⟩⟩ := hl.four
  go_enter Tryz.func101, Tryz.ntmps101
  go_wp2_with fail
  refine rstepL hO hK (reg_write_r B p o S q0 me 1 _ hP hq0 ⟨hm0, by omega⟩) ?_
  clear hO hK hP
  intro u o S w1 hlf _ hP hk hK hO
  replace hN := Nat.lt_of_le_of_lt hlf hN
  replace hl := hl.keep hk
  clear a0 a1 a2 a3 a4 a5 a6 e0 e1 e2 e3 e4 e5 e6 f0 f1 f2 f3 f4 f5 f6 g0 g1 g2 g3 g4 g5 g6 hk hlf
  obtain ⟨⟨a0, a1, a2, a3, a4, a5, a6⟩, ⟨e0, e1, e2, e3, e4, e5, e6⟩, ⟨f0, f1, f2, f3, f4, f5, f6⟩, ⟨g0, g1, g2, g3, g4, g5, g6⟩⟩ := hl.four
  obtain ⟨_, _, _, _, _, hcc⟩ := hP.cell
  cases o with
  | true =>
    have hf : R (.returned (encU ())) w1 := hO.over () hP hK
    clear hO hP hK hl
    go_wp2_with fail
    first | exact hf | (refine bodyPost_ret (results_none rfl _ _ _) rfl ?_; exact hf)
  | false =>
    go_wp2_with fail
    clear hcc
    refine rstepL hO hK (reg_read_r B p false S r1 me _ hP hr1 ⟨hm0, by omega⟩) ?_
    clear hO hK hP
    intro x o S w2 hlf _ hP hk hK hO
    replace hN := Nat.lt_of_le_of_lt hlf hN
    replace hl := hl.keep hk
    clear a0 a1 a2 a3 a4 a5 a6 e0 e1 e2 e3 e4 e5 e6 f0 f1 f2 f3 f4 f5 f6 g0 g1 g2 g3 g4 g5 g6 hk hlf
    obtain ⟨⟨a0, a1, a2, a3, a4, a5, a6⟩, ⟨e0, e1, e2, e3, e4, e5, e6⟩, ⟨f0, f1, f2, f3, f4, f5, f6⟩, ⟨g0, g1, g2, g3, g4, g5, g6⟩⟩ := hl.four
    have hbx : 0 ≤ bitM x ∧ bitM x ≤ 1 := by unfold bitM; split <;> omega
    have hwx := w64 (1 - bitM x) (by omega) (by omega)
    go_wp2_with fail
    refine (bit_r x _).mono ?_
    rintro e w' ⟨rfl, rfl⟩
    rw [show kesT 0 x = (bitM x) from rfl] at hO
    obtain ⟨_, _, _, _, _, hcc⟩ := hP.cell
    generalize htx : (bitM x) = t at hO ⊢
    go_upto_if 28 with fail
    go_cut [6] (fun s6 wx => s6 = .int .i64 t ∧ ∃ o1 S1, RAt B wx p o1 S1 ∧ KeepR B p w wx ∧ RegsAt [3, 4, 5] wx p b [q0, q1, r0, r1] ∧ Hid (ROwes R encU B p w (kesSpin q1 r1 0 t me N) o1 S1) ∧ S1.left < N)
    case first =>
      clear hcc
      cases o with
      | true =>
        clear a0 a1 a2 a3 a4 a5 a6 e0 e1 e2 e3 e4 e5 e6 f0 f1 f2 f3 f4 f5 f6 g0 g1 g2 g3 g4 g5 g6
        go_wp2_with fail
        go_meet
        exact ⟨rfl, true, S, hP, hK, hl, hO.any _, hN⟩
      | false =>
        go_wp2_with fail
        refine rstepL hO hK (reg_write_r B p false S r0 me t _ hP hr0 ⟨hm0, by omega⟩) ?_
        clear hO hK hP
        intro u o S3 w3 hlf _ hP hk hK hO
        replace hl := hl.keep hk
        clear a0 a1 a2 a3 a4 a5 a6 e0 e1 e2 e3 e4 e5 e6 f0 f1 f2 f3 f4 f5 f6 g0 g1 g2 g3 g4 g5 g6 hk
        go_wp2_with fail
        go_meet
        exact ⟨rfl, o, S3, hP, hK, hl, hO, by omega⟩
    case rest =>
      clear a0 a1 a2 a3 a4 a5 a6 e0 e1 e2 e3 e4 e5 e6 f0 f1 f2 f3 f4 f5 f6 g0 g1 g2 g3 g4 g5 g6 hP hK hl hO hN hcc
      obtain ⟨rfl, o1, S1, hP, hK, hl, hO, hN⟩ := hcut
      go_wp2_with fail
      go_loopw [] (fun wr => ∃ (n : Nat) (o2 : Bool) (S2 : TS), RAt B wr p o2 S2 ∧ KeepR B p w wr ∧ RegsAt [3, 4, 5] wr p b [q0, q1, r0, r1] ∧ Hid (ROwes R encU B p w (kesSpin q1 r1 0 t me n) o2 S2) ∧ (o2 = false → S2.left < n)) (fun wr => leftR wr p)
      case atStart => exact ⟨N, o1, S1, hP, hK, hl, hO, fun _ => hN⟩
      case round =>
        clear hP hK hl hO hN
        obtain ⟨n, o2, S2, hP, hK, hl, hO, hN⟩ := hrel
        have hO := hO.out
        have hlw := Lib.hid hP.leftR
        obtain ⟨_, _, _, _, _, hcc⟩ := hP.cell
        cases o2 with
        | true =>
          have hf : R (.returned (encU ())) wr := hO.over () hP hK
          clear hO hP hK hl hN
          go_wp2_with fail
          first | exact hf | (refine bodyPost_ret (results_none rfl _ _ _) rfl ?_; exact hf)
        | false =>
          have hN := hN rfl
          cases n with
          | zero => omega
          | succ n =>
            unfold kesSpin at hO
            obtain ⟨⟨a0, a1, a2, a3, a4, a5, a6⟩, ⟨e0, e1, e2, e3, e4, e5, e6⟩, ⟨f0, f1, f2, f3, f4, f5, f6⟩, ⟨g0, g1, g2, g3, g4, g5, g6⟩⟩ := hl.four
            go_wp2_with fail
            clear hcc
            refine rstepL hO hK (reg_read_r B p false S2 q1 me _ hP hq1 ⟨hm0, by omega⟩) ?_
            clear hO hK hP
            intro v o3 S3 w4 hlf hlt hP hk hK hO
            replace hl := hl.keep hk
            clear a0 a1 a2 a3 a4 a5 a6 e0 e1 e2 e3 e4 e5 e6 f0 f1 f2 f3 f4 f5 f6 g0 g1 g2 g3 g4 g5 g6 hk
            obtain ⟨_, _, _, _, _, hcc⟩ := hP.cell
            by_cases hv : v = 0
            · rw [if_pos hv] at hO
              subst hv
              have hf : R (.returned (encU ())) w4 := hO.ret hP hK
              clear hO hP hK hl hcc
              go_wp2_with fail
              first | exact hf | (refine bodyPost_ret (results_none rfl _ _ _) rfl ?_; exact hf)
            · rw [if_neg hv] at hO
              have hv2 : (v == 0) = false := by rw [beq_eq_false_iff_ne]; exact hv
              clear hv
              cases o3 with
              | true =>
                have hlw2 := Lib.hid hP.leftR
                have hOh := Lib.hid hO
                clear hO
                go_wp2_with fail
                refine ⟨⟨n, true, S3, hP, hK, hl, hOh.out.any _, fun h => by cases h⟩, ?_⟩
                rw [hlw.out, hlw2.out]
                simp
                omega
              | false =>
                replace hlt := (hlt rfl).2 (asks_regR _ _ ht1)
                obtain ⟨⟨a0, a1, a2, a3, a4, a5, a6⟩, ⟨e0, e1, e2, e3, e4, e5, e6⟩, ⟨f0, f1, f2, f3, f4, f5, f6⟩, ⟨g0, g1, g2, g3, g4, g5, g6⟩⟩ := hl.four
                go_wp2_with fail
                clear hcc
                refine rstepL hO hK (reg_read_r B p false S3 r1 me _ hP hr1 ⟨hm0, by omega⟩) ?_
                clear hO hK hP
                intro y o4 S4 w5 hlf4 _ hP hk hK hO
                replace hl := hl.keep hk
                clear a0 a1 a2 a3 a4 a5 a6 e0 e1 e2 e3 e4 e5 e6 f0 f1 f2 f3 f4 f5 f6 g0 g1 g2 g3 g4 g5 g6 hk
                go_wp2_with fail
                refine (bit_r y _).mono ?_
                rintro e w' ⟨rfl, rfl⟩
                by_cases hy : kesFree 0 t y = true
                · rw [if_pos hy] at hO
                  have hy2 : (bitM y != t) = true := by unfold kesFree at hy; simpa using hy
                  have hf : R (.returned (encU ())) w5 := hO.ret hP hK
                  clear hO hP hK hl hy
                  go_wp2_with fail
                  first | exact hf | (refine bodyPost_ret (results_none rfl _ _ _) rfl ?_; exact hf)
                · rw [if_neg hy] at hO
                  have hy2 : (bitM y != t) = false := by unfold kesFree at hy; simpa using hy
                  have hlw2 := Lib.hid hP.leftR
                  have hOh := Lib.hid hO
                  clear hO hy
                  go_wp2_with fail
                  refine ⟨⟨n, o4, S4, hP, hK, hl, hOh, fun _ => by omega⟩, ?_⟩
                  rw [hlw.out, hlw2.out]
                  simp only [Bool.false_eq_true, if_false]
                  split <;> omega
set_option maxRecDepth 100000 in
set_option maxHeartbeats 1000000 in
theorem kes_one_r (B p N : Nat) (o : Bool) (S : TS) (q0 q1 r0 r1 : Reg) (me : Int) (b c : Nat) (w : World) (h : RAt B w p o S) (hl : RegsAt [3, 4, 5] w p b [q0, q1, r0, r1]) (hq0 : q0.ok) (hq1 : q1.ok) (hr0 : r0.ok) (hr1 : r1.ok)
    (hm0 : 0 ≤ me) (hm1 : me < q0.n) (hm2 : me < q1.n) (hm3 : me < r0.n) (hm4 : me < r1.n) (ht1 : q0.told me) (_ht2 : r0.told me) (hN : S.left < N) :
    Calls Tryz.prog 102 #[.pointer (some ⟨p, 0, none⟩), .slice (some ⟨b, 0, none⟩) 4 c, .int .i64 me] w (RPost encU B p w (kesEnter N q1 q0 r1 r0 1 me) o S) := by
  generalize hR : RPost encU B p w (kesEnter N q1 q0 r1 r0 1 me) o S = R
  have hO : ROwes R encU B p w (kesEnter N q1 q0 r1 r0 1 me) o S := hR ▸ rowes _ _ _ _ _ _ _
  clear hR
  have hK := Keep.refl [3, 4, 5] B p w
  have hP := h
  clear h
  unfold kesEnter at hO
  obtain ⟨⟨a0, a1, a2, a3, a4, a5, a6⟩, ⟨e0, e1, e2, e3, e4, e5, e6⟩, ⟨f0, f1, f2, f3, f4, f5, f6⟩, ⟨g0, g1, g2, g3, g4, g5, g6⟩⟩ := hl.four
  go_enter Tryz.func102, Tryz.ntmps102
  go_wp2_with fail
  refine rstepL hO hK (reg_write_r B p o S q1 me 1 _ hP hq1 ⟨hm0, by omega⟩) ?_
  clear hO hK hP
  intro u o S w1 hlf _ hP hk hK hO
  replace hN := Nat.lt_of_le_of_lt hlf hN
  replace hl := hl.keep hk
  clear a0 a1 a2 a3 a4 a5 a6 e0 e1 e2 e3 e4 e5 e6 f0 f1 f2 f3 f4 f5 f6 g0 g1 g2 g3 g4 g5 g6 hk hlf
  obtain ⟨⟨a0, a1, a2, a3, a4, a5, a6⟩, ⟨e0, e1, e2, e3, e4, e5, e6⟩, ⟨f0, f1, f2, f3, f4, f5, f6⟩, ⟨g0, g1, g2, g3, g4, g5, g6⟩⟩ := hl.four
  obtain ⟨_, _, _, _, _, hcc⟩ := hP.cell
  cases o with
  | true =>
    have hf : R (.returned (encU ())) w1 := hO.over () hP hK
    clear hO hP hK hl
    go_wp2_with fail
    first | exact hf | (refine bodyPost_ret (results_none rfl _ _ _) rfl ?_; exact hf)
  | false =>
    go_wp2_with fail
    clear hcc
    refine rstepL hO hK (reg_read_r B p false S r0 me _ hP hr0 ⟨hm0, by omega⟩) ?_
    clear hO hK hP
    intro x o S w2 hlf _ hP hk hK hO
    replace hN := Nat.lt_of_le_of_lt hlf hN
    replace hl := hl.keep hk
    clear a0 a1 a2 a3 a4 a5 a6 e0 e1 e2 e3 e4 e5 e6 f0 f1 f2 f3 f4 f5 f6 g0 g1 g2 g3 g4 g5 g6 hk hlf
    obtain ⟨⟨a0, a1, a2, a3, a4, a5, a6⟩, ⟨e0, e1, e2, e3, e4, e5, e6⟩, ⟨f0, f1, f2, f3, f4, f5, f6⟩, ⟨g0, g1, g2, g3, g4, g5, g6⟩⟩ := hl.four
    have hbx : 0 ≤ bitM x ∧ bitM x ≤ 1 := by unfold bitM; split <;> omega
    have hwx := w64 (1 - bitM x) (by omega) (by omega)
    go_wp2_with fail
    refine (bit_r x _).mono ?_
    rintro e w' ⟨rfl, rfl⟩
    rw [show kesT 1 x = (1 - bitM x) from rfl] at hO
    obtain ⟨_, _, _, _, _, hcc⟩ := hP.cell
    generalize htx : (1 - bitM x) = t at hO ⊢
    go_upto_if 29 with fail
    go_cut [6] (fun s6 wx => s6 = .int .i64 t ∧ ∃ o1 S1, RAt B wx p o1 S1 ∧ KeepR B p w wx ∧ RegsAt [3, 4, 5] wx p b [q0, q1, r0, r1] ∧ Hid (ROwes R encU B p w (kesSpin q0 r0 1 t me N) o1 S1) ∧ S1.left < N)
    case first =>
      clear hcc
      cases o with
      | true =>
        clear a0 a1 a2 a3 a4 a5 a6 e0 e1 e2 e3 e4 e5 e6 f0 f1 f2 f3 f4 f5 f6 g0 g1 g2 g3 g4 g5 g6
        go_wp2_with fail
        go_meet
        exact ⟨rfl, true, S, hP, hK, hl, hO.any _, hN⟩
      | false =>
        go_wp2_with fail
        refine rstepL hO hK (reg_write_r B p false S r1 me t _ hP hr1 ⟨hm0, by omega⟩) ?_
        clear hO hK hP
        intro u o S3 w3 hlf _ hP hk hK hO
        replace hl := hl.keep hk
        clear a0 a1 a2 a3 a4 a5 a6 e0 e1 e2 e3 e4 e5 e6 f0 f1 f2 f3 f4 f5 f6 g0 g1 g2 g3 g4 g5 g6 hk
        go_wp2_with fail
        go_meet
        exact ⟨rfl, o, S3, hP, hK, hl, hO, by omega⟩
    case rest =>
      clear a0 a1 a2 a3 a4 a5 a6 e0 e1 e2 e3 e4 e5 e6 f0 f1 f2 f3 f4 f5 f6 g0 g1 g2 g3 g4 g5 g6 hP hK hl hO hN hcc
      obtain ⟨rfl, o1, S1, hP, hK, hl, hO, hN⟩ := hcut
      go_wp2_with fail
      go_loopw [] (fun wr => ∃ (n : Nat) (o2 : Bool) (S2 : TS), RAt B wr p o2 S2 ∧ KeepR B p w wr ∧ RegsAt [3, 4, 5] wr p b [q0, q1, r0, r1] ∧ Hid (ROwes R encU B p w (kesSpin q0 r0 1 t me n) o2 S2) ∧ (o2 = false → S2.left < n)) (fun wr => leftR wr p)
      case atStart => exact ⟨N, o1, S1, hP, hK, hl, hO, fun _ => hN⟩
      case round =>
        clear hP hK hl hO hN
        obtain ⟨n, o2, S2, hP, hK, hl, hO, hN⟩ := hrel
        have hO := hO.out
        have hlw := Lib.hid hP.leftR
        obtain ⟨_, _, _, _, _, hcc⟩ := hP.cell
        cases o2 with
        | true =>
          have hf : R (.returned (encU ())) wr := hO.over () hP hK
          clear hO hP hK hl hN
          go_wp2_with fail
          first | exact hf | (refine bodyPost_ret (results_none rfl _ _ _) rfl ?_; exact hf)
        | false =>
          have hN := hN rfl
          cases n with
          | zero => omega
          | succ n =>
            unfold kesSpin at hO
            obtain ⟨⟨a0, a1, a2, a3, a4, a5, a6⟩, ⟨e0, e1, e2, e3, e4, e5, e6⟩, ⟨f0, f1, f2, f3, f4, f5, f6⟩, ⟨g0, g1, g2, g3, g4, g5, g6⟩⟩ := hl.four
            go_wp2_with fail
            clear hcc
            refine rstepL hO hK (reg_read_r B p false S2 q0 me _ hP hq0 ⟨hm0, by omega⟩) ?_
            clear hO hK hP
            intro v o3 S3 w4 hlf hlt hP hk hK hO
            replace hl := hl.keep hk
            clear a0 a1 a2 a3 a4 a5 a6 e0 e1 e2 e3 e4 e5 e6 f0 f1 f2 f3 f4 f5 f6 g0 g1 g2 g3 g4 g5 g6 hk
            obtain ⟨_, _, _, _, _, hcc⟩ := hP.cell
            by_cases hv : v = 0
            · rw [if_pos hv] at hO
              subst hv
              have hf : R (.returned (encU ())) w4 := hO.ret hP hK
              clear hO hP hK hl hcc
              go_wp2_with fail
              first | exact hf | (refine bodyPost_ret (results_none rfl _ _ _) rfl ?_; exact hf)
            · rw [if_neg hv] at hO
              have hv2 : (v == 0) = false := by rw [beq_eq_false_iff_ne]; exact hv
              clear hv
              cases o3 with
              | true =>
                have hlw2 := Lib.hid hP.leftR
                have hOh := Lib.hid hO
                clear hO
                go_wp2_with fail
                refine ⟨⟨n, true, S3, hP, hK, hl, hOh.out.any _, fun h => by cases h⟩, ?_⟩
                rw [hlw.out, hlw2.out]
                simp
                omega
              | false =>
                replace hlt := (hlt rfl).2 (asks_regR _ _ ht1)
                obtain ⟨⟨a0, a1, a2, a3, a4, a5, a6⟩, ⟨e0, e1, e2, e3, e4, e5, e6⟩, ⟨f0, f1, f2, f3, f4, f5, f6⟩, ⟨g0, g1, g2, g3, g4, g5, g6⟩⟩ := hl.four
                go_wp2_with fail
                clear hcc
                refine rstepL hO hK (reg_read_r B p false S3 r0 me _ hP hr0 ⟨hm0, by omega⟩) ?_
                clear hO hK hP
                intro y o4 S4 w5 hlf4 _ hP hk hK hO
                replace hl := hl.keep hk
                clear a0 a1 a2 a3 a4 a5 a6 e0 e1 e2 e3 e4 e5 e6 f0 f1 f2 f3 f4 f5 f6 g0 g1 g2 g3 g4 g5 g6 hk
                go_wp2_with fail
                refine (bit_r y _).mono ?_
                rintro e w' ⟨rfl, rfl⟩
                by_cases hy : kesFree 1 t y = true
                · rw [if_pos hy] at hO
                  have hy2 : (bitM y == t) = true := by unfold kesFree at hy; simpa using hy
                  have hf : R (.returned (encU ())) w5 := hO.ret hP hK
                  clear hO hP hK hl hy
                  go_wp2_with fail
                  first | exact hf | (refine bodyPost_ret (results_none rfl _ _ _) rfl ?_; exact hf)
                · rw [if_neg hy] at hO
                  have hy2 : (bitM y == t) = false := by unfold kesFree at hy; simpa using hy
                  have hlw2 := Lib.hid hP.leftR
                  have hOh := Lib.hid hO
                  clear hO hy
                  go_wp2_with fail
                  refine ⟨⟨n, o4, S4, hP, hK, hl, hOh, fun _ => by omega⟩, ?_⟩
                  rw [hlw.out, hlw2.out]
                  simp only [Bool.false_eq_true, if_false]
                  split <;> omega
end Go.Proofs.YtpcohbpeglledaaGreat
/-
  Kessels: entering and leaving, both sides.
-/
namespace Kv
/-- Entering on a side, and leaving. -/
def kesM (n : Nat) (q0 q1 r0 r1 : Reg) (side me : Int) : Prog Unit := if bitM side = 1 then kesEnter n q1 q0 r1 r0 1 me else kesEnter n q0 q1 r0 r1 0 me
def kesL (q0 q1 : Reg) (side me : Int) : Prog Unit := regW (if bitM side = 1 then q1 else q0) me 0
theorem bitM_or (x : Int) : bitM x = 0 ∨ bitM x = 1 := by unfold bitM; split <;> simp
end Kv
namespace Go.Proofs.YtpcohbpeglledaaGreat
open Go.RowKit Kv
theorem kes_enter_p (B p N : Nat) (S : TS) (q0 q1 r0 r1 : Reg) (side me : Int) (b c : Nat) (w : World) (h : Plays B w p S) (hl : RegsAt [2, 3, 4] w p b [q0, q1, r0, r1]) (hq0 : q0.ok) (hq1 : q1.ok) (hr0 : r0.ok) (hr1 : r1.ok)
    (hm0 : 0 ≤ me) (hm1 : me < q0.n) (hm2 : me < q1.n) (hm3 : me < r0.n) (hm4 : me < r1.n) (ht1 : q0.told me) (ht2 : q1.told me) (ht3 : r0.told me) (ht4 : r1.told me) (hN : S.left < N) (hc4 : 4 ≤ c) (hc5 : c ≤ 9223372036854775807) :
    Calls Tryz.prog 28 #[.pointer (some ⟨p, 0, none⟩), .slice (some ⟨b, 0, none⟩) 4 c, .int .i64 side, .int .i64 me] w (Post encU B p w ((kesM N q0 q1 r0 r1 side me).run S)) := by
  unfold kesM
  rcases bitM_or side with hs | hs
  · rw [if_neg (by omega)]
    exact kes_enter_p0 B p N S q0 q1 r0 r1 side me b c w h hl hq0 hq1 hr0 hr1 hm0 hm1 hm2 hm3 hm4 ht2 ht4 hN hs hc4 hc5
  · rw [if_pos hs]
    exact kes_enter_p1 B p N S q0 q1 r0 r1 side me b c w h hl hq0 hq1 hr0 hr1 hm0 hm1 hm2 hm3 hm4 ht1 ht3 hN hs hc4 hc5
theorem kes_enter_r (B p N : Nat) (o : Bool) (S : TS) (q0 q1 r0 r1 : Reg) (side me : Int) (b c : Nat) (w : World) (h : RAt B w p o S) (hl : RegsAt [3, 4, 5] w p b [q0, q1, r0, r1]) (hq0 : q0.ok) (hq1 : q1.ok) (hr0 : r0.ok) (hr1 : r1.ok)
    (hm0 : 0 ≤ me) (hm1 : me < q0.n) (hm2 : me < q1.n) (hm3 : me < r0.n) (hm4 : me < r1.n) (ht1 : q0.told me) (ht2 : q1.told me) (ht3 : r0.told me) (ht4 : r1.told me) (hN : S.left < N) :
    Calls Tryz.prog 29 #[.pointer (some ⟨p, 0, none⟩), .slice (some ⟨b, 0, none⟩) 4 c, .int .i64 side, .int .i64 me] w (RPost encU B p w (kesM N q0 q1 r0 r1 side me) o S) := by
  unfold kesM
  by_cases hs : side = 0
  · have hb : bitM side = 0 := by unfold bitM; rw [if_pos hs]
    rw [if_neg (by omega)]
    have hz := kes_zero_r B p N o S q0 q1 r0 r1 me b c w h hl hq0 hq1 hr0 hr1 hm0 hm1 hm2 hm3 hm4 ht2 ht4 hN
    generalize hR : RPost encU B p w (kesEnter N q0 q1 r0 r1 0 me) o S = R
    have hO : ROwes R encU B p w (kesEnter N q0 q1 r0 r1 0 me) o S := hR ▸ rowes _ _ _ _ _ _ _
    clear hR
    clear hb
    go_enter Tryz.func29, Tryz.ntmps29
    go_wp2_with fail
    refine hz.mono fun e w' hp => ?_
    have hf := hO e w' hp
    obtain ⟨a, o', S', rfl, _⟩ := hp
    clear hO hz h hl
    go_wp2_with fail
    first | exact hf | (refine bodyPost_ret (results_none rfl _ _ _) rfl ?_; exact hf)
  · have hb : bitM side = 1 := by unfold bitM; rw [if_neg hs]
    have hs2 : (side == 0) = false := by rw [beq_eq_false_iff_ne]; exact hs
    rw [if_pos hb]
    have hz := kes_one_r B p N o S q0 q1 r0 r1 me b c w h hl hq0 hq1 hr0 hr1 hm0 hm1 hm2 hm3 hm4 ht1 ht3 hN
    generalize hR : RPost encU B p w (kesEnter N q1 q0 r1 r0 1 me) o S = R
    have hO : ROwes R encU B p w (kesEnter N q1 q0 r1 r0 1 me) o S := hR ▸ rowes _ _ _ _ _ _ _
    clear hR
    clear hb hs
    go_enter Tryz.func29, Tryz.ntmps29
    go_wp2_with fail
    refine hz.mono fun e w' hp => ?_
    have hf := hO e w' hp
    obtain ⟨a, o', S', rfl, _⟩ := hp
    clear hO hz h hl
    go_wp2_with fail
    first | exact hf | (refine bodyPost_ret (results_none rfl _ _ _) rfl ?_; exact hf)
theorem kes_leave_r (B p : Nat) (o : Bool) (S : TS) (q0 q1 r0 r1 : Reg) (side me : Int) (b c : Nat) (w : World) (h : RAt B w p o S) (hl : RegsAt [3, 4, 5] w p b [q0, q1, r0, r1]) (hq0 : q0.ok) (hq1 : q1.ok)
    (hm0 : 0 ≤ me) (hm1 : me < q0.n) (hm2 : me < q1.n) :
    Calls Tryz.prog 140 #[.pointer (some ⟨p, 0, none⟩), .slice (some ⟨b, 0, none⟩) 4 c, .int .i64 side, .int .i64 me] w (RPost encU B p w (kesL q0 q1 side me) o S) := by
  have hb := bit_r side w
  unfold kesL
  obtain ⟨⟨a0, a1, a2, a3, a4, a5, a6⟩, ⟨e0, e1, e2, e3, e4, e5, e6⟩, -, -⟩ := hl.four
  rcases bitM_or side with hs | hs
  · rw [hs] at hb ⊢
    rw [if_neg (by omega)]
    have hz := reg_write_r B p o S q0 me 0 w h hq0 ⟨hm0, hm1⟩
    generalize hR : RPost encU B p w (regW q0 me 0) o S = R
    have hO : ROwes R encU B p w (regW q0 me 0) o S := hR ▸ rowes _ _ _ _ _ _ _
    clear hR
    go_enter Tryz.func140, Tryz.ntmps140
    go_wp2_with fail
    refine hb.mono ?_
    rintro e w' ⟨rfl, rfl⟩
    go_wp2_with fail
    clear a0 a1 a2 a3 a4 a5 a6 e0 e1 e2 e3 e4 e5 e6 hl hb
    refine hz.mono fun e w' hp => ?_
    have hf := hO e w' hp
    obtain ⟨a, o', S', rfl, _⟩ := hp
    clear hO hz h
    go_wp2_with fail
    first | exact hf | (refine bodyPost_ret (results_none rfl _ _ _) rfl ?_; exact hf)
  · rw [hs] at hb ⊢
    rw [if_pos rfl]
    have hz := reg_write_r B p o S q1 me 0 w h hq1 ⟨hm0, hm2⟩
    generalize hR : RPost encU B p w (regW q1 me 0) o S = R
    have hO : ROwes R encU B p w (regW q1 me 0) o S := hR ▸ rowes _ _ _ _ _ _ _
    clear hR
    go_enter Tryz.func140, Tryz.ntmps140
    go_wp2_with fail
    refine hb.mono ?_
    rintro e w' ⟨rfl, rfl⟩
    go_wp2_with fail
    clear a0 a1 a2 a3 a4 a5 a6 e0 e1 e2 e3 e4 e5 e6 hl hb
    refine hz.mono fun e w' hp => ?_
    have hf := hO e w' hp
    obtain ⟨a, o', S', rfl, _⟩ := hp
    clear hO hz h
    go_wp2_with fail
    first | exact hf | (refine bodyPost_ret (results_none rfl _ _ _) rfl ?_; exact hf)
end Go.Proofs.YtpcohbpeglledaaGreat
/-
  The splitter: passing it, by the program.
-/
namespace Go.Proofs.YtpcohbpeglledaaGreat
open Go.RowKit Kv
theorem RegsAt.ext {ix : List Nat} {p b : Nat} {w w' : World} {l : List Reg} (h : RegsAt ix w p b l) (hx : Ext w w') (hp : p < w.heap.size) : RegsAt ix w' p b l := h.keep (B := 0) (Keep.of_ext hx hp (Nat.zero_le _))
theorem two_boxes {B p : Nat} {w : World} {S : TS} (h : Plays B w p S) (o1 o2 : Obj) :
    HeldP ((w.alloc o1).alloc o2).drew p w.heap.size o1 ∧ HeldP ((w.alloc o1).alloc o2).drew p (w.heap.size + 1) o2 ∧ Plays B ((w.alloc o1).alloc o2).drew p S ∧ KeepP B p w ((w.alloc o1).alloc o2).drew := by
  have h2 := (h.alloc o1).held o2
  rw [World.size_alloc] at h2
  exact ⟨((h.held o1).alloc o2 (h.alloc o1).lt).drew, h2.drew, ((h.alloc o1).alloc o2).drew, ((Keep.alloc o1 h.lt h.le).trans (Keep.alloc o2 (h.alloc o1).lt (h.alloc o1).le)).drew⟩
set_option maxRecDepth 100000 in
set_option maxHeartbeats 4000000 in
theorem pass_p (B p : Nat) (S : TS) (x y : Reg) (me : Int) (b c : Nat) (w : World) (h : Plays B w p S) (hl : RegsAt [2, 3, 4] w p b [x, y]) (hx : x.ok) (hy : y.ok) (hm : 0 ≤ me) (hmx : me < x.n) (hmy : me < y.n) :
    Calls Tryz.prog 19 #[.pointer (some ⟨p, 0, none⟩), .slice (some ⟨b, 0, none⟩) 2 c, .int .i64 me] w (Post encI B p w ((passM x y me).run S)) := by
  generalize hR : Post encI B p w ((passM x y me).run S) = R
  have hO : Owes R encI B p w ((passM x y me).run S) := hR ▸ owes _ _ _ _ _
  clear hR
  have hmw := IntWalk.i64_in (me + 1) (by have := hx.n; omega)
  obtain ⟨⟨c0, c1, c2, c3, c4, c5, c6⟩, ⟨c7, c8, c9, c10, c11, c12, c13⟩⟩ := hl.two
  have hn := hx.n
  have hK := Keep.refl [2, 3, 4] B p w
  have hP := h
  clear h
  unfold passM at hO
  go_enter Tryz.func19, Tryz.ntmps19
  go_wp2_with fail
  go_region_held2 (fun w' => (w'.cell? ⟨b, 0, none⟩ = some (.int .i64 x.kind) ∧ w'.cell? ⟨b, 1, none⟩ = some (.int .i64 x.base) ∧ w'.cell? ⟨b, 2, none⟩ = some (.int .i64 x.loc) ∧ w'.cell? ⟨b, 3, none⟩ = some (.int .i64 x.n) ∧ w'.cell? ⟨b, 4, none⟩ = some (.int .i64 x.wr) ∧ w'.cell? ⟨b, 5, none⟩ = some (.int .i64 x.rd) ∧ w'.cell? ⟨b, 6, none⟩ = some (.int .i64 x.top)) ∧
      (w'.cell? ⟨b, 7, none⟩ = some (.int .i64 y.kind) ∧ w'.cell? ⟨b, 8, none⟩ = some (.int .i64 y.base) ∧ w'.cell? ⟨b, 9, none⟩ = some (.int .i64 y.loc) ∧ w'.cell? ⟨b, 10, none⟩ = some (.int .i64 y.n) ∧ w'.cell? ⟨b, 11, none⟩ = some (.int .i64 y.wr) ∧ w'.cell? ⟨b, 12, none⟩ = some (.int .i64 y.rd) ∧ w'.cell? ⟨b, 13, none⟩ = some (.int .i64 y.top))) (first | with_reducible exact hl.two | go_keep) (fail)
  · rename_i hh
    clear hh
    obtain ⟨b1, b2, hP2, hK2⟩ := two_boxes hP (.cells #[.int .i64 x.kind, .int .i64 x.base, .int .i64 x.loc, .int .i64 x.n, .int .i64 x.wr, .int .i64 x.rd, .int .i64 x.top] 77) (.cells #[.int .i64 y.kind, .int .i64 y.base, .int .i64 y.loc, .int .i64 y.n, .int .i64 y.wr, .int .i64 y.rd, .int .i64 y.top] 77)
    clear hP hK hl
    have hP := hP2
    have hK := hK2
    clear hP2 hK2
    have c_b1 := b1.cells
    have c_b2 := b2.cells
    clear c0 c1 c2 c3 c4 c5 c6 c7 c8 c9 c10 c11 c12 c13
    go_wp2_with fail
    refine tstep hO hK (reg_write_p B p S x me (me + 1) _ hP hx ⟨hm, hmx⟩) (fun _ h => ⟨rfl, h⟩) ?_
    clear hO hK hP c_b1 c_b2
    intro u S w1 hr hP hk hK hO
    replace b1 := b1.keep hk
    have c_b1 := b1.cells
    replace b2 := b2.keep hk
    have c_b2 := b2.cells
    clear hk hr
    go_wp2_with fail
    refine tstep hO hK (reg_read_p B p S y me _ hP hy ⟨hm, hmy⟩) (fun _ h => ⟨rfl, h⟩) ?_
    clear hO hK hP c_b1 c_b2
    intro v S w1 hr hP hk hK hO
    replace b1 := b1.keep hk
    have c_b1 := b1.cells
    replace b2 := b2.keep hk
    have c_b2 := b2.cells
    clear hk hr
    by_cases hv : v = 0
    · rw [if_neg (by simpa using hv)] at hO
      have hv2 : (v != 0) = false := by simp [hv]
      clear hv
      go_wp2_with fail
      refine tstep hO hK (reg_write_p B p S y me 1 _ hP hy ⟨hm, hmy⟩) (fun _ h => ⟨rfl, h⟩) ?_
      clear hO hK hP c_b1 c_b2
      intro u S w1 hr hP hk hK hO
      replace b1 := b1.keep hk
      have c_b1 := b1.cells
      replace b2 := b2.keep hk
      have c_b2 := b2.cells
      clear hk hr
      go_wp2_with fail
      refine tstep hO hK (reg_read_p B p S x me _ hP hx ⟨hm, hmx⟩) (fun _ h => ⟨rfl, h⟩) ?_
      clear hO hK hP c_b1 c_b2
      intro z S w1 hr hP hk hK hO
      replace b1 := b1.keep hk
      have c_b1 := b1.cells
      replace b2 := b2.keep hk
      have c_b2 := b2.cells
      clear hk hr
      by_cases hz : z = me + 1
      · rw [if_pos hz] at hO
        have hz2 : (z == me + 1) = true := by simp [hz]
        clear hz
        have hf : R (.returned (.int .i64 0)) w1 := hO.done hP hK
        clear hO hP hK
        go_wp2_with fail
        exact hf
      · rw [if_neg hz] at hO
        have hz2 : (z == me + 1) = false := by rw [beq_eq_false_iff_ne]; exact hz
        clear hz
        have hf : R (.returned (.int .i64 2)) w1 := hO.done hP hK
        clear hO hP hK
        go_wp2_with fail
        exact hf
    · rw [if_pos hv] at hO
      have hv2 : (v != 0) = true := by rw [bne_iff_ne]; exact hv
      have hf : R (.returned (.int .i64 1)) w1 := hO.done hP hK
      clear hO hP hK hv
      go_wp2_with fail
      exact hf
  · rename_i hh
    clear hh
    obtain ⟨b2, b1, hP2, hK2⟩ := two_boxes hP (.cells #[.int .i64 y.kind, .int .i64 y.base, .int .i64 y.loc, .int .i64 y.n, .int .i64 y.wr, .int .i64 y.rd, .int .i64 y.top] 77) (.cells #[.int .i64 x.kind, .int .i64 x.base, .int .i64 x.loc, .int .i64 x.n, .int .i64 x.wr, .int .i64 x.rd, .int .i64 x.top] 77)
    clear hP hK hl
    have hP := hP2
    have hK := hK2
    clear hP2 hK2
    have c_b1 := b1.cells
    have c_b2 := b2.cells
    clear c0 c1 c2 c3 c4 c5 c6 c7 c8 c9 c10 c11 c12 c13
    go_wp2_with fail
    refine tstep hO hK (reg_write_p B p S x me (me + 1) _ hP hx ⟨hm, hmx⟩) (fun _ h => ⟨rfl, h⟩) ?_
    clear hO hK hP c_b1 c_b2
    intro u S w1 hr hP hk hK hO
    replace b1 := b1.keep hk
    have c_b1 := b1.cells
    replace b2 := b2.keep hk
    have c_b2 := b2.cells
    clear hk hr
    go_wp2_with fail
    refine tstep hO hK (reg_read_p B p S y me _ hP hy ⟨hm, hmy⟩) (fun _ h => ⟨rfl, h⟩) ?_
    clear hO hK hP c_b1 c_b2
    intro v S w1 hr hP hk hK hO
    replace b1 := b1.keep hk
    have c_b1 := b1.cells
    replace b2 := b2.keep hk
    have c_b2 := b2.cells
    clear hk hr
    by_cases hv : v = 0
    · rw [if_neg (by simpa using hv)] at hO
      have hv2 : (v != 0) = false := by simp [hv]
      clear hv
      go_wp2_with fail
      refine tstep hO hK (reg_write_p B p S y me 1 _ hP hy ⟨hm, hmy⟩) (fun _ h => ⟨rfl, h⟩) ?_
      clear hO hK hP c_b1 c_b2
      intro u S w1 hr hP hk hK hO
      replace b1 := b1.keep hk
      have c_b1 := b1.cells
      replace b2 := b2.keep hk
      have c_b2 := b2.cells
      clear hk hr
      go_wp2_with fail
      refine tstep hO hK (reg_read_p B p S x me _ hP hx ⟨hm, hmx⟩) (fun _ h => ⟨rfl, h⟩) ?_
      clear hO hK hP c_b1 c_b2
      intro z S w1 hr hP hk hK hO
      replace b1 := b1.keep hk
      have c_b1 := b1.cells
      replace b2 := b2.keep hk
      have c_b2 := b2.cells
      clear hk hr
      by_cases hz : z = me + 1
      · rw [if_pos hz] at hO
        have hz2 : (z == me + 1) = true := by simp [hz]
        clear hz
        have hf : R (.returned (.int .i64 0)) w1 := hO.done hP hK
        clear hO hP hK
        go_wp2_with fail
        exact hf
      · rw [if_neg hz] at hO
        have hz2 : (z == me + 1) = false := by rw [beq_eq_false_iff_ne]; exact hz
        clear hz
        have hf : R (.returned (.int .i64 2)) w1 := hO.done hP hK
        clear hO hP hK
        go_wp2_with fail
        exact hf
    · rw [if_pos hv] at hO
      have hv2 : (v != 0) = true := by rw [bne_iff_ne]; exact hv
      have hf : R (.returned (.int .i64 1)) w1 := hO.done hP hK
      clear hO hP hK hv
      go_wp2_with fail
      exact hf
end Go.Proofs.YtpcohbpeglledaaGreat
/-
  The splitter: what any thread does that passes it is the document's, access by access.
-/
namespace Go.Proofs.YtpcohbpeglledaaGreat
open Go.RowKit Kv
/-- Registers that lay there ahead of a play. -/
theorem regsP {w0 w1 : World} {B p b : Nat} {S : TS} {rs : List Reg} (hb : b < w0.heap.size) (hc : ∀ (i : Nat) u, (rs.flatMap regVals)[i]? = some u → w0.cell? ⟨b, i, none⟩ = some u) (hx : Ext w0 w1) (hP : Plays B w1 p S) (hB : w0.heap.size ≤ B) : RegsAt [2, 3, 4] w1 p b rs := by
  refine ⟨Nat.lt_of_lt_of_le hb hx.size, fun ho => ?_, fun j u hu => (hx.cell (p := ⟨b, j, none⟩) hb).trans (hc j u hu)⟩
  obtain ⟨_, _, _, _, _, _, h⟩ := hP
  have := (h.own ho).1
  omega
theorem regsR {w0 w1 : World} {B p b : Nat} {o : Bool} {S : TS} {rs : List Reg} (hb : b < w0.heap.size) (hc : ∀ (i : Nat) u, (rs.flatMap regVals)[i]? = some u → w0.cell? ⟨b, i, none⟩ = some u) (hx : Ext w0 w1) (hP : RAt B w1 p o S) (hB : w0.heap.size ≤ B) : RegsAt [3, 4, 5] w1 p b rs := by
  refine ⟨Nat.lt_of_lt_of_le hb hx.size, fun ho => ?_, fun j u hu => (hx.cell (p := ⟨b, j, none⟩) hb).trans (hc j u hu)⟩
  obtain ⟨_, _, _, _, _, _, h, _⟩ := hP
  have := (h.own ho).1
  omega
theorem closure31 (B p : Nat) (S : TS) (x y : Reg) (t : Int) (b c bl bt : Nat) (w : World) (h : Plays B w p S) (hl : RegsAt [2, 3, 4] w p b [x, y]) (hx : x.ok) (hy : y.ok) (hm : 0 ≤ t) (hmx : t < x.n) (hmy : t < y.n)
    (c1 : w.cell? ⟨bl, 0, none⟩ = some (.slice (some ⟨b, 0, none⟩) 2 c)) (c2 : w.cell? ⟨bt, 0, none⟩ = some (.int .i64 t)) :
    Calls Tryz.prog 18 #[.pointer (some ⟨p, 0, none⟩), .pointer (some ⟨bl, 0, none⟩), .pointer (some ⟨bt, 0, none⟩)] w (Post encI B p w ((passM x y t).run S)) := by
  generalize hR : Post encI B p w ((passM x y t).run S) = R
  have hO : Owes R encI B p w ((passM x y t).run S) := hR ▸ owes _ _ _ _ _
  clear hR
  have hK := Keep.refl [2, 3, 4] B p w
  go_enter Tryz.func18, Tryz.ntmps18
  go_wp2_with fail
  clear c1 c2
  refine tlast hO hK (pass_p B p S x y t b c w h hl hx hy hm hmx hmy) (fun _ h => ⟨rfl, h⟩) ?_
  intro v S1 w1 hr hP1 hk1 hK1 hO1
  have hf := hO1.done hP1 hK1
  clear hO1 hP1 hK1 hr hk1 hO h hl hK
  go_wp2_with fail
  exact hf
theorem alive31a (B p : Nat) (S : TS) (x y : Reg) (b c bl : Nat) (w : World) (h : Plays B w p S) (hl : RegsAt [2, 3, 4] w p b [x, y]) (hx : x.ok) (hy : y.ok) (hmx : 2 < x.n) (hmy : 2 < y.n)
    (c1 : w.cell? ⟨bl, 0, none⟩ = some (.slice (some ⟨b, 0, none⟩) 2 c)) :
    Calls Tryz.prog 83 #[.pointer (some ⟨p, 0, none⟩), .pointer (some ⟨bl, 0, none⟩)] w (Post encI B p w ((passM x y 2).run S)) := by
  generalize hR : Post encI B p w ((passM x y 2).run S) = R
  have hO : Owes R encI B p w ((passM x y 2).run S) := hR ▸ owes _ _ _ _ _
  clear hR
  have hK := Keep.refl [2, 3, 4] B p w
  go_enter Tryz.func83, Tryz.ntmps83
  go_wp2_with fail
  clear c1
  refine tlast hO hK (pass_p B p S x y 2 b c w h hl hx hy (by omega) hmx hmy) (fun _ h => ⟨rfl, h⟩) ?_
  intro v S1 w1 hr hP1 hk1 hK1 hO1
  have hf := hO1.done hP1 hK1
  clear hO1 hP1 hK1 hr hk1 hO h hl hK
  go_wp2_with fail
  exact hf
theorem alive31b (B p : Nat) (S : TS) (x y : Reg) (b c bl : Nat) (w : World) (h : Plays B w p S) (hl : RegsAt [2, 3, 4] w p b [x, y]) (hx : x.ok) (hy : y.ok) (hmx : 0 < x.n) (hmy : 0 < y.n)
    (c1 : w.cell? ⟨bl, 0, none⟩ = some (.slice (some ⟨b, 0, none⟩) 2 c)) :
    Calls Tryz.prog 84 #[.pointer (some ⟨p, 0, none⟩), .pointer (some ⟨bl, 0, none⟩)] w (Post encI B p w ((passM x y 0).run S)) := by
  generalize hR : Post encI B p w ((passM x y 0).run S) = R
  have hO : Owes R encI B p w ((passM x y 0).run S) := hR ▸ owes _ _ _ _ _
  clear hR
  have hK := Keep.refl [2, 3, 4] B p w
  go_enter Tryz.func84, Tryz.ntmps84
  go_wp2_with fail
  clear c1
  refine tlast hO hK (pass_p B p S x y 0 b c w h hl hx hy (by omega) hmx hmy) (fun _ h => ⟨rfl, h⟩) ?_
  intro v S1 w1 hr hP1 hk1 hK1 hO1
  have hf := hO1.done hP1 hK1
  clear hO1 hP1 hK1 hr hk1 hO h hl hK
  go_wp2_with fail
  exact hf
theorem ints_new (w : World) (l : List Int) (h : l.length ≤ 9223372036854775807) : Ints (w.alloc (.cells (l.map (Value.int .i64)).toArray 3)) (.slice (some ⟨w.heap.size, 0, none⟩) l.length l.length) l := by
  refine ⟨_, _, rfl, Nat.le_refl _, h, fun _ => ⟨w.heap.size, 0, rfl, by simp, fun i x hi => ?_⟩⟩
  have hh := World.alloc_heap_new w (.cells (l.map (Value.int .i64)).toArray 3)
  simp only [World.cell?, hh, Nat.zero_add]
  simp [hi]
/-- An Out's parts. -/
theorem Outs.parts {w : World} {v : Value} {d : Bool} {S : TS} (h : Outs w v d S) : ∃ A c A' c' As k n, v = .agg #[.bool d, .slice A S.acc.length c, .slice A' S.nts.length c', .slice As n k] := by
  obtain ⟨A, c, A', c', vs, L, rfl, hO⟩ := h
  obtain ⟨As, k, rfl, _, _⟩ := hO.locs.slice
  exact ⟨A, c, A', c', As, k, _, rfl⟩
def ra : Reg := ⟨1, 3, 2, 3, -1, -1, 3⟩
def rb : Reg := ⟨1, 4, 2, 3, -1, -1, 1⟩
set_option maxRecDepth 100000 in
theorem alive31 (w : World) : Calls Tryz.prog 14 #[] w fun e w' => e = .returned (.bool true) ∧ Ext w w' := by
  have hlay : layM [⟨-1, nM 3⟩, ⟨-1, 1⟩] 3 1 3 2 = some [ra, rb] := by rfl
  have hra : ra.ok := ⟨.inl rfl, by decide, by decide, by decide, fun h => by cases h⟩
  have hrb : rb.ok := ⟨.inl rfl, by decide, by decide, by decide, fun h => by cases h⟩
  have hmf : ∀ (fn : Fn) (first cap : Array Value) (w : World), (Instr.makeFunc fn first cap).run Tryz.prog w = .ok (.func fn first cap) w := fun _ _ _ _ => rfl
  go_enter Tryz.func14, Tryz.ntmps14
  go_wp2_with fail
  refine (swants_p 3 w).mono ?_
  rintro e w1 ⟨v1, rfl, hW, hX⟩
  have hSm := some_r v1 _ 3 1 w1 hW (by simp)
  rw [hlay] at hSm
  obtain ⟨Aw, cw, rfl, _, _, _⟩ := hW
  clear hlay
  go_wp2_with fail
  refine hSm.mono ?_
  rintro e w2 ⟨v2, rfl, hx2, hrow⟩
  replace hX := hX.trans hx2
  obtain ⟨Ar, cr, rfl, r1, r2, hV⟩ := Recs.of_row hrow
  clear hSm hrow hx2
  obtain ⟨b, rfl, hb, hc⟩ := hV (by simp [regVals])
  simp only [Option.getD_some, List.length_cons, List.length_nil] at *
  go_wp2_with fail
  have g1 := Blk.new w2 (.cells #[.slice (some ⟨b, 0, none⟩) 2 cr] 28)
  have x1 := (Ext.refl w2).alloc (.cells #[.slice (some ⟨b, 0, none⟩) 2 cr] 28)
  have hA := ints_new (w2.alloc (.cells #[.slice (some ⟨b, 0, none⟩) 2 cr] 28)) [0, 0, 0, 3] (by simp)
  replace g1 := g1.alloc (.cells (([0, 0, 0, 3] : List Int).map (Value.int .i64)).toArray 3)
  replace x1 := x1.alloc (.cells (([0, 0, 0, 3] : List Int).map (Value.int .i64)).toArray 3)
  simp only [World.size_alloc, List.map_cons, List.map_nil, List.length_cons, List.length_nil] at hA g1 x1
  have hsz : w2.heap.size + 1 < (World.alloc (World.alloc w2 (.cells #[.slice (some ⟨b, 0, none⟩) 2 cr] 28)) (.cells #[.int .i64 0, .int .i64 0, .int .i64 0, .int .i64 3] 3)).heap.size := by simp
  generalize World.alloc (World.alloc w2 _) _ = W0 at *
  refine (play_int 83 #[.pointer (some ⟨w2.heap.size, 0, none⟩)] (passM ra rb 2) none 0 [] (some ⟨w2.heap.size + 1, 0, none⟩) 4 [0, 0, 0, 3] W0 (Ints.nil _) (by simp) hA (by decide) (fun k hk => by simp only [Value.ownBlock, Option.some.injEq] at hk; omega) (fun _ _ => rfl) (fun W p hxW hP => ?_)).mono ?_
  · exact alive31a _ p _ ra rb b cr w2.heap.size W hP (regsP hb hc (x1.trans hxW) hP (x1.trans (Ext.refl _)).size) hra hrb (by decide) (by decide) ((g1.ext hxW).cells 0)
  rintro e w3 ⟨v3, rfl, hO, hx3⟩
  have e1 : ((passM ra rb 2).run (TS0 [] [0, 0, 0, 3])).1 = some 0 := by rfl
  have e2 : ((passM ra rb 2).run (TS0 [] [0, 0, 0, 3])).2.acc.length = 4 := by rfl
  rw [e1] at hO ⊢
  generalize ((passM ra rb 2).run (TS0 [] [0, 0, 0, 3])).2 = S1 at *
  obtain ⟨A1, c1, A1', c1', As1, k1, n1, rfl⟩ := hO.parts
  rw [e2] at *
  simp only [Option.getD_some, Option.isSome_some]
  replace g1 := g1.ext hx3
  replace x1 := x1.trans hx3
  clear e1 e2 hO hA hsz hx3 hmf
  have hmf : ∀ (fn : Fn) (first cap : Array Value) (w : World), (Instr.makeFunc fn first cap).run Tryz.prog w = .ok (.func fn first cap) w := fun _ _ _ _ => rfl
  go_wp2_with fail
  have g2 := Blk.new w3 (.cells #[.bool true, .slice A1 4 c1, .slice A1' S1.nts.length c1', .slice As1 n1 k1] 36)
  have hA := ints_new (w3.alloc (.cells #[.bool true, .slice A1 4 c1, .slice A1' S1.nts.length c1', .slice As1 n1 k1] 36)) [0, 1] (by simp)
  replace g1 := (g1.alloc (.cells #[.bool true, .slice A1 4 c1, .slice A1' S1.nts.length c1', .slice As1 n1 k1] 36)).alloc (.cells (([0, 1] : List Int).map (Value.int .i64)).toArray 3)
  replace g2 := g2.alloc (.cells (([0, 1] : List Int).map (Value.int .i64)).toArray 3)
  replace x1 := (x1.alloc (.cells #[.bool true, .slice A1 4 c1, .slice A1' S1.nts.length c1', .slice As1 n1 k1] 36)).alloc (.cells (([0, 1] : List Int).map (Value.int .i64)).toArray 3)
  simp only [World.size_alloc, List.map_cons, List.map_nil, List.length_cons, List.length_nil] at hA g1 g2 x1
  have hsz : w3.heap.size + 1 < (World.alloc (World.alloc w3 (.cells #[.bool true, .slice A1 4 c1, .slice A1' S1.nts.length c1', .slice As1 n1 k1] 36)) (.cells #[.int .i64 0, .int .i64 1] 3)).heap.size := by simp
  generalize World.alloc (World.alloc w3 _) _ = W0 at *
  refine (play_int 84 #[.pointer (some ⟨w2.heap.size, 0, none⟩)] (passM ra rb 0) none 0 [] (some ⟨w3.heap.size + 1, 0, none⟩) 2 [0, 1] W0 (Ints.nil _) (by simp) hA (by decide) (fun k hk => by simp only [Value.ownBlock, Option.some.injEq] at hk; omega) (fun _ _ => rfl) (fun W p hxW hP => ?_)).mono ?_
  · exact alive31b _ p _ ra rb b cr w2.heap.size W hP (regsP hb hc (x1.trans hxW) hP x1.size) hra hrb (by decide) (by decide) ((g1.ext hxW).cells 0)
  rintro e w4 ⟨v4, rfl, hO, hx4⟩
  have e1 : ((passM ra rb 0).run (TS0 [] [0, 1])).1 = some 1 := by rfl
  have e2 : ((passM ra rb 0).run (TS0 [] [0, 1])).2.acc.length = 2 := by rfl
  rw [e1] at hO ⊢
  generalize ((passM ra rb 0).run (TS0 [] [0, 1])).2 = S2 at *
  obtain ⟨A2, c2, A2', c2', As2, k2, n2, rfl⟩ := hO.parts
  rw [e2] at *
  simp only [Option.getD_some, Option.isSome_some]
  replace g2 := g2.ext hx4
  replace x1 := x1.trans hx4
  clear e1 e2 hO hA hsz hx4 hmf g1
  have c_g2 := g2.cells
  have hfin := Lib.hid (hX.trans (x1.alloc (.cells #[.bool true, .slice A2 2 c2, .slice A2' S2.nts.length c2', .slice As2 n2 k2] 36)))
  have c_g3 := (g2.alloc (.cells #[.bool true, .slice A2 2 c2, .slice A2' S2.nts.length c2', .slice As2 n2 k2] 36)).cells
  go_wp2_with fail
  go_ret
  exact ⟨rfl, hfin.out⟩
set_option maxRecDepth 100000 in
set_option maxHeartbeats 1000000 in
theorem splits_walk (N Mode Side Me : Int) (vL vA : Value) (Ll La : List Int) (w : World) (hL : Ints w vL Ll) (hA : Ints w vA La) :
    Calls Tryz.prog 3 #[.agg #[.int .i64 N, .int .i64 Mode, .int .i64 Side, .int .i64 Me, vL, vA]] w fun e w' => e = .returned (.bool true) ∧ Ext w w' := by
  obtain ⟨Al, cl, rfl, p1, p2⟩ := hL.slice
  obtain ⟨Aa, ca, rfl, p3, p4⟩ := hA.slice
  have hmf : ∀ (fn : Fn) (first cap : Array Value) (w : World), (Instr.makeFunc fn first cap).run Tryz.prog w = .ok (.func fn first cap) w := fun _ _ _ _ => rfl
  have hX := Ext.refl w
  have b1 := Blk.new w (.cells #[.int .i64 N, .int .i64 Mode, .int .i64 Side, .int .i64 Me, .slice Al Ll.length cl, .slice Aa La.length ca] 24)
  replace hX := hX.alloc (.cells #[.int .i64 N, .int .i64 Mode, .int .i64 Side, .int .i64 Me, .slice Al Ll.length cl, .slice Aa La.length ca] 24)
  have c_b1 := b1.cells
  go_enter Tryz.func3, Tryz.ntmps3
  go_wp2_with fail
  refine (swants_p N _).mono ?_
  rintro e w1 ⟨v1, rfl, hW, hx⟩
  replace hX := hX.trans hx
  replace b1 := b1.ext hx
  clear c_b1 hx
  have c_b1 := b1.cells
  have hWh := Lib.hid hW
  obtain ⟨Aw, cw, rfl, _, _, _⟩ := hW
  go_wp2_with fail
  refine (rwants31_r N _).mono ?_
  rintro e w2 ⟨v2, rfl, hW2, hx⟩
  replace hX := hX.trans hx
  replace b1 := b1.ext hx
  clear c_b1
  have c_b1 := b1.cells
  have hW1 := hWh.out.ext hx
  clear hx hWh
  have hW2h := Lib.hid hW2
  obtain ⟨Aw2, cw2, rfl, _, _, _⟩ := hW2
  go_wp2_with fail
  refine (same_w _ _ _ _ hW1 hW2h.out (by simp)).mono ?_
  rintro e w3 ⟨rfl, hx⟩
  replace hX := hX.trans hx
  replace b1 := b1.ext hx
  clear c_b1
  have c_b1 := b1.cells
  replace hW1 := hW1.ext hx
  clear hx hW2h
  have hSm := some_r _ _ N Mode w3 hW1 (by simp)
  clear hW1
  go_wp2_with fail
  refine hSm.mono ?_
  rintro e w4 ⟨v4, rfl, hx, hrow⟩
  replace hX := hX.trans hx
  replace b1 := b1.ext hx
  clear c_b1 hSm hx
  have c_b1 := b1.cells
  generalize hrs : (layM [⟨-1, nM N⟩, ⟨-1, 1⟩] N Mode 3 2).getD [] = rs at *
  obtain ⟨Ar, cr, rfl, r1, r2, hV⟩ := Recs.of_row hrow
  clear hrow
  have hVh := Lib.hid hV
  have hrsh := Lib.hid hrs
  clear hV hrs
  have g1 := Blk.new w4 (.cells #[.slice Ar rs.length cr] 28)
  have x1 := (Ext.refl w4).alloc (.cells #[.slice Ar rs.length cr] 28)
  have c_g1 := g1.cells
  replace b1 := b1.alloc (.cells #[.slice Ar rs.length cr] 28)
  have c_b1' := b1.cells
  have hXW := hX.alloc (.cells #[.slice Ar rs.length cr] 28)
  by_cases h1 : Ll.length ≤ 1000 ∧ La.length ≤ 1500 ∧ rs.length = 2
  · obtain ⟨h1, h2, h3⟩ := h1
    have d1 : decide ((1000 : Int) < (Ll.length : Int)) = false := by rw [decide_eq_false_iff_not]; omega
    have d2 : decide ((1500 : Int) < (La.length : Int)) = false := by rw [decide_eq_false_iff_not]; omega
    obtain ⟨x, y, rfl⟩ : ∃ x y, rs = [x, y] := by
      match rs, h3 with
      | [x, y], _ => exact ⟨x, y, rfl⟩
    have hly : layM [⟨-1, nM N⟩, ⟨-1, 1⟩] N Mode 3 2 = some [x, y] := by
      have := hrsh.out
      cases hc : layM [⟨-1, nM N⟩, ⟨-1, 1⟩] N Mode 3 2 with
      | none => rw [hc] at this; cases this
      | some rs => rw [hc] at this; simpa using this
    obtain ⟨⟨_, _, n1, n2, _, _⟩, hwr, _⟩ := layM_args hly
    obtain ⟨x', hx', hxl⟩ := layM_at hly (i := 0) rfl
    obtain ⟨y', hy', hyl⟩ := layM_at hly (i := 1) rfl
    obtain rfl : x = x' := by simpa using hx'
    obtain rfl : y = y' := by simpa using hy'
    obtain ⟨hxo, hxn, _⟩ := hxl.ok ⟨n1, n2⟩ (hwr _ (by simp))
    obtain ⟨hyo, hyn, _⟩ := hyl.ok ⟨n1, n2⟩ (hwr _ (by simp))
    have hw1 := IntWalk.i64_in (N - 1) (by omega)
    have ht := wrapI_bd Me (N - 1)
    rw [show clamp (N - 1) 1099511627776 = N - 1 from by unfold clamp within; omega] at ht
    obtain ⟨b, rfl, hb, hc⟩ := hVh.out (by simp [regVals])
    clear hrsh hVh hly hxl hyl hx' hy' hwr h3
    simp only [List.length_cons, List.length_nil] at *
    go_wp2_with fail
    refine (wrap_r Me (N - 1) _).mono ?_
    rintro e w' ⟨rfl, rfl⟩
    generalize wrapI Me (N - 1) = t at *
    go_wp2_with fail
    have g2 := Blk.new (w4.alloc (.cells #[.slice (some ⟨b, 0, none⟩) 2 cr] 28)) (.cells #[.int .i64 t] 3)
    replace g1 := g1.alloc (.cells #[.int .i64 t] 3)
    replace b1 := b1.alloc (.cells #[.int .i64 t] 3)
    replace x1 := x1.alloc (.cells #[.int .i64 t] 3)
    replace hX := hXW.alloc (.cells #[.int .i64 t] 3)
    simp only [World.size_alloc] at g2
    clear c_b1 c_b1' c_g1 hXW
    generalize World.alloc (World.alloc w4 _) _ = W1 at *
    have hE := (Ext.refl W1).drew
    have hS : ∀ w', Ext W1 w' → (∀ i, w'.cell? ⟨w.heap.size, i, none⟩ = (#[.int .i64 N, .int .i64 Mode, .int .i64 Side, .int .i64 Me, .slice Al Ll.length cl, .slice Aa La.length ca] : Array Value)[i]?) := fun w' hx => (b1.ext hx).cells
    have hLW := Lib.hid (hL.ext hX)
    have hAW := Lib.hid (hA.ext hX)
    clear hL hA
    go_region_held2 (fun w' => ∀ i, w'.cell? ⟨w.heap.size, i, none⟩ = (#[.int .i64 N, .int .i64 Mode, .int .i64 Side, .int .i64 Me, .slice Al Ll.length cl, .slice Aa La.length ca] : Array Value)[i]?) (exact hS _ hE)
      (first
        | (go_at_call_of 16 (Value.int IntKind.i64 1048576)
           refine (tame_r _ La 1048576 _ (hAW.out.ext hE)).mono ?_
           rintro e w5 ⟨va, rfl, hra, hxa⟩
           replace hE := hE.trans hxa)
        | (go_at_call_of 16 (Value.int IntKind.i64 1024)
           refine (tame_r _ Ll 1024 _ (hLW.out.ext hE)).mono ?_
           rintro e w6 ⟨vl, rfl, hrl, hxl⟩
           replace hE := hE.trans hxl))
    rename_i hh
    clear hh hS hLW hAW b1
    have hIa := hra.ints.ext hxl
    have hIl := hrl.ints
    have hba : ∀ k, va.ownBlock = some k → k < w6.heap.size := fun k hk => Nat.lt_of_lt_of_le (hra.lt k hk).2 hxl.size
    have la : (tameL La 1048576).length ≤ 1500 := by unfold tameL; simp; omega
    have ll : (tameL Ll 1024).length ≤ 1000 := by unfold tameL; simp; omega
    clear hra hrl hxa hxl
    generalize tameL La 1048576 = a at *
    generalize tameL Ll 1024 = l at *
    obtain ⟨Aq, cq, rfl, _, _⟩ := hIa.slice
    obtain ⟨Al', cl', rfl, _, _⟩ := hIl.slice
    have hPl := play_int 18 #[.pointer (some ⟨w4.heap.size, 0, none⟩), .pointer (some ⟨w4.heap.size + 1, 0, none⟩)] (passM x y t) Al' cl' l Aq cq a w6 hIl (by omega) hIa (by unfold maxAns; omega) hba (fun _ _ => rfl) (fun W p hxW hP =>
      closure31 _ p _ x y t b cr w4.heap.size (w4.heap.size + 1) W hP (regsP hb hc (x1.trans (hE.trans hxW)) hP (x1.trans hE).size) hxo hyo ht.1 (by omega) (by omega) ((g1.ext (hE.trans hxW)).cells 0) ((g2.ext (hE.trans hxW)).cells 0))
    have hIah := Lib.hid hIa
    have hIlh := Lib.hid hIl
    clear hIa hIl
    go_wp2_with fail
    refine hPl.mono ?_
    rintro e w7 ⟨v3, rfl, hO, hx7⟩
    generalize hr : (passM x y t).run (TS0 l a) = r at hO ⊢
    clear hPl
    generalize hq : r.1.getD 0 = q
    have hOh := Lib.hid hO
    obtain ⟨A3, c3, A3', c3', As3, k3, n3, rfl⟩ := hO.parts
    clear hO
    go_wp2_with fail
    have g3 := Blk.new w7 (.cells #[.bool r.fst.isSome, .slice A3 r.snd.acc.length c3, .slice A3' r.snd.nts.length c3', .slice As3 n3 k3] 36)
    have x2 := hx7.alloc (.cells #[.bool r.fst.isSome, .slice A3 r.snd.acc.length c3, .slice A3' r.snd.nts.length c3', .slice As3 n3 k3] 36)
    have hOh2 := Lib.hid (hOh.out.ext ((Ext.refl w7).alloc (.cells #[.bool r.fst.isSome, .slice A3 r.snd.acc.length c3, .slice A3' r.snd.nts.length c3', .slice As3 n3 k3] 36)))
    clear hOh hx7
    generalize World.alloc w7 _ = W2 at *
    have hN := new_any Al' cl' l Aq cq a W2 (hIlh.out.ext x2) (hIah.out.ext x2) (by omega) (by unfold maxAns; omega) (fun k hk => Nat.lt_of_lt_of_le (hba k hk) x2.size)
    clear hIlh hIah hba
    refine hN.mono ?_
    rintro e w8 ⟨pm, rfl, hR, hx8⟩
    have y1 := g1.ext (hE.trans (x2.trans hx8))
    have y2 := g2.ext (hE.trans (x2.trans hx8))
    have c_y1 := y1.cells
    have c_y2 := y2.cells
    clear hN
    go_wp2_with fail
    have hx4 : Ext w4 W2 := x1.trans (hE.trans x2)
    refine (pass_r W2.heap.size pm (TS0 l a) x y t b cr w8 hR (regsR hb hc (hx4.trans hx8) hR hx4.size) hxo hyo ht.1 (by omega) (by omega)).mono ?_
    rintro e w9 ⟨z, o', S', rfl, hRef, hz0, hR9, hK9⟩
    have hx9 : Ext W2 w9 := Below.trans hx8 hK9.below
    have hrun := hRef.outcome
    rw [hr] at hrun
    have hz : q = z := by
      rw [← hq, hrun]
      cases o' with
      | true => exact (hz0 rfl).symm
      | false => rfl
    subst hz
    have hsome : r.1.isSome = !o' := by rw [hrun]; cases o' <;> rfl
    have hS2 : r.2 = S' := by rw [hrun]
    have hO9 := hOh2.out.ext hx9
    rw [hsome, hS2] at hO9 g3
    clear hrun hRef hz0 hq hR hK9 hx8 y1 y2 c_y1 c_y2 hOh2 g1 g2
    replace g3 := g3.ext hx9
    have c_g3 := g3.cells
    have hRh := Lib.hid hR9
    have hOh := Lib.hid hO9
    have hXf := Lib.hid (hX.trans (hE.trans (x2.trans hx9)))
    clear hR9 hO9 hX hE x2 hx9 x1 hx4
    have hqq : (q == q) = true := by simp
    go_wp2_with fail
    have hE := (Ext.refl w9).drew
    have hS : ∀ w', Ext w9 w' → (∀ i, w'.cell? ⟨w7.heap.size, i, none⟩ = (#[.bool (!o'), .slice A3 S'.acc.length c3, .slice A3' S'.nts.length c3', .slice As3 n3 k3] : Array Value)[i]?) := fun w' hx => (g3.ext hx).cells
    go_region_held2 (fun w' => ∀ i, w'.cell? ⟨w7.heap.size, i, none⟩ = (#[.bool (!o'), .slice A3 S'.acc.length c3, .slice A3' S'.nts.length c3', .slice As3 n3 k3] : Array Value)[i]?) (exact hS _ hE)
      (first
        | (go_at_call 23
           refine (dout_r W2.heap.size pm o' S' _ (hRh.out.ext hE)).mono ?_
           rintro e w10 ⟨v5, rfl, hO5, hx5⟩
           replace hE := hE.trans hx5)
        | (go_at_call 22
           refine (same_r _ _ (!o') S' _ (hOh.out.ext hE) hO5).mono ?_
           rintro e w11 ⟨rfl, hx6⟩
           replace hE := hE.trans hx6)
        | (go_at_call 14
           refine (alive31 _).mono ?_
           rintro e w12 ⟨rfl, hx7⟩
           replace hE := hE.trans hx7))
    have hf := Lib.hid (hXf.out.trans hE)
    go_wp2_with fail
    go_ret
    exact ⟨rfl, hf.out⟩
  · by_cases h2 : 1000 < Ll.length
    · have d1 : decide ((1000 : Int) < (Ll.length : Int)) = true := by rw [decide_eq_true_eq]; omega
      go_wp2_with fail
      refine (alive31 _).mono ?_
      rintro e w5 ⟨rfl, hx⟩
      have hf := Lib.hid (hXW.trans hx)
      go_wp2_with fail
      go_ret
      exact ⟨rfl, hf.out⟩
    · have d1 : decide ((1000 : Int) < (Ll.length : Int)) = false := by rw [decide_eq_false_iff_not]; omega
      by_cases h3 : 1500 < La.length
      · have d2 : decide ((1500 : Int) < (La.length : Int)) = true := by rw [decide_eq_true_eq]; omega
        go_wp2_with fail
        refine (alive31 _).mono ?_
        rintro e w5 ⟨rfl, hx⟩
        have hf := Lib.hid (hXW.trans hx)
        go_wp2_with fail
        go_ret
        exact ⟨rfl, hf.out⟩
      · have d2 : decide ((1500 : Int) < (La.length : Int)) = false := by rw [decide_eq_false_iff_not]; omega
        have d3 : ((rs.length : Int) != 2) = true := by rw [bne_iff_ne]; omega
        go_wp2_with fail
        refine (alive31 _).mono ?_
        rintro e w5 ⟨rfl, hx⟩
        have hf := Lib.hid (hXW.trans hx)
        go_wp2_with fail
        go_ret
        exact ⟨rfl, hf.out⟩
end Go.Proofs.YtpcohbpeglledaaGreat
/-
  Kessels: what the law plays.
-/
namespace Go.Proofs.YtpcohbpeglledaaGreat
open Go.RowKit Kv
theorem kwants_p (w : World) : Calls Tryz.prog 25 #[] w fun e w' => ∃ v, e = .returned v ∧ WantsAt w' v (List.replicate 4 ⟨-1, 1⟩) ∧ Ext w w' := by
  go_enter Tryz.func25, Tryz.ntmps25
  go_wp2_with fail
  go_loopw [1, 2] (fun v i wr => ∃ j : Nat, i = .int .i64 j ∧ j ≤ 4 ∧ wr.ownsRow w.heap.size 64 2 v j ((List.replicate j (⟨-1, 1⟩ : Want)).flatMap wantVals) ∧ Ext w wr) (fun _ i _ => 4 - (intOf i).toNat)
  case atStart => exact ⟨0, rfl, by omega, World.ownsRow_nil _ _ _ _, Ext.refl _⟩
  case round =>
    obtain ⟨j, rfl, hj, hown, hE⟩ := hrel
    by_cases hl : j < 4
    · go_wp2_with (at_builtin; refine append_rec info_want Tryz.underlying25 rfl (by decide) (by decide) rfl _ _ rfl _ j _ [.int .i64 (-1), .int .i64 1] hE hown rfl rfl rfl (by simp [Value.oneCell']) (by omega) ?_)
      intro v' w' ho hx _
      have hoh := Lib.hid ho
      clear hown ho
      go_wp2_with fail
      refine ⟨⟨j + 1, by go_num, by omega, ?_, hx⟩, ?_⟩
      · rw [List.replicate_succ', List.flatMap_append]; exact hoh.out
      · simp [intOf]; omega
    · obtain rfl : j = 4 := by omega
      have hownh := Lib.hid hown
      clear hown
      go_wp2_with fail
      go_ret
      exact ⟨_, rfl, Recs.of_row hownh.out, hE⟩
theorem kclosE (B p N : Nat) (S : TS) (q0 q1 r0 r1 : Reg) (_a0 _a1 side _a3 me : Int) (_v4 _v5 : Value) (b c bl bx bt : Nat) (w : World) (h : Plays B w p S) (hl : RegsAt [2, 3, 4] w p b [q0, q1, r0, r1]) (hq0 : q0.ok) (hq1 : q1.ok) (hr0 : r0.ok) (hr1 : r1.ok)
    (hm0 : 0 ≤ me) (hm1 : me < q0.n) (hm2 : me < q1.n) (hm3 : me < r0.n) (hm4 : me < r1.n) (ht1 : q0.told me) (ht2 : q1.told me) (ht3 : r0.told me) (ht4 : r1.told me) (hN : S.left < N) (hc4 : 4 ≤ c) (hc5 : c ≤ 9223372036854775807)
    (c1 : w.cell? ⟨bl, 0, none⟩ = some (.slice (some ⟨b, 0, none⟩) 4 c)) (c2 : w.cell? ⟨bx, 2, none⟩ = some (.int .i64 side)) (c3 : w.cell? ⟨bt, 0, none⟩ = some (.int .i64 me)) :
    Calls Tryz.prog 27 #[.pointer (some ⟨p, 0, none⟩), .pointer (some ⟨bl, 0, none⟩), .pointer (some ⟨bx, 0, none⟩), .pointer (some ⟨bt, 0, none⟩)] w (Post encI B p w (((kesM N q0 q1 r0 r1 side me).bind fun _ => .ret 0).run S)) := by
  generalize hR : Post encI B p w (((kesM N q0 q1 r0 r1 side me).bind fun _ => .ret 0).run S) = R
  have hO : Owes R encI B p w (((kesM N q0 q1 r0 r1 side me).bind fun _ => .ret 0).run S) := hR ▸ owes _ _ _ _ _
  clear hR
  have hK := Keep.refl [2, 3, 4] B p w
  go_enter Tryz.func27, Tryz.ntmps27
  go_wp2_with fail
  clear c1 c2 c3
  refine tstep hO hK (kes_enter_p B p N S q0 q1 r0 r1 side me b c w h hl hq0 hq1 hr0 hr1 hm0 hm1 hm2 hm3 hm4 ht1 ht2 ht3 ht4 hN hc4 hc5) (fun _ h => ⟨rfl, h⟩) ?_
  intro v S1 w1 hr hP1 hk1 hK1 hO1
  have hf := hO1.done (v := (0 : Int)) hP1 hK1
  clear hO1 hP1 hK1 hr hk1 hO h hl hK
  go_wp2_with fail
  first | exact hf | (go_ret; exact hf)
theorem kclosL (B p : Nat) (S : TS) (q0 q1 r0 r1 : Reg) (side me : Int) (b c bl bx bt : Nat) (w : World) (h : Plays B w p S) (hl : RegsAt [2, 3, 4] w p b [q0, q1, r0, r1]) (hq0 : q0.ok) (hq1 : q1.ok)
    (hm0 : 0 ≤ me) (hm1 : me < q0.n) (hm2 : me < q1.n)
    (c1 : w.cell? ⟨bl, 0, none⟩ = some (.slice (some ⟨b, 0, none⟩) 4 c)) (c2 : w.cell? ⟨bx, 2, none⟩ = some (.int .i64 side)) (c3 : w.cell? ⟨bt, 0, none⟩ = some (.int .i64 me)) :
    Calls Tryz.prog 30 #[.pointer (some ⟨p, 0, none⟩), .pointer (some ⟨bl, 0, none⟩), .pointer (some ⟨bx, 0, none⟩), .pointer (some ⟨bt, 0, none⟩)] w (Post encI B p w (((kesL q0 q1 side me).bind fun _ => .ret 0).run S)) := by
  generalize hR : Post encI B p w (((kesL q0 q1 side me).bind fun _ => .ret 0).run S) = R
  have hO : Owes R encI B p w (((kesL q0 q1 side me).bind fun _ => .ret 0).run S) := hR ▸ owes _ _ _ _ _
  clear hR
  have hK := Keep.refl [2, 3, 4] B p w
  go_enter Tryz.func30, Tryz.ntmps30
  go_wp2_with fail
  clear c1 c2 c3
  refine tstep hO hK (kes_leave_p B p S q0 q1 r0 r1 side me b c w h hl hq0 hq1 hm0 hm1 hm2) (fun _ h => ⟨rfl, h⟩) ?_
  intro v S1 w1 hr hP1 hk1 hK1 hO1
  have hf := hO1.done (v := (0 : Int)) hP1 hK1
  clear hO1 hP1 hK1 hr hk1 hO h hl hK
  go_wp2_with fail
  first | exact hf | (go_ret; exact hf)
end Go.Proofs.YtpcohbpeglledaaGreat
/-
  Kessels: the chapter's example.
-/
namespace Go.Proofs.YtpcohbpeglledaaGreat
open Go.RowKit Kv
theorem kal1 (B p N : Nat) (S : TS) (q0 q1 r0 r1 : Reg) (b c bl : Nat) (w : World) (h : Plays B w p S) (hl : RegsAt [2, 3, 4] w p b [q0, q1, r0, r1]) (hq0 : q0.ok) (hq1 : q1.ok) (hr0 : r0.ok) (hr1 : r1.ok)
    (hm1 : 0 < q0.n) (hm2 : 0 < q1.n) (hm3 : 0 < r0.n) (hm4 : 0 < r1.n) (ht1 : q0.told 0) (ht2 : q1.told 0) (ht3 : r0.told 0) (ht4 : r1.told 0) (hN : S.left < N) (hc4 : 4 ≤ c) (hc5 : c ≤ 9223372036854775807)
    (c1 : w.cell? ⟨bl, 0, none⟩ = some (.slice (some ⟨b, 0, none⟩) 4 c)) :
    Calls Tryz.prog 94 #[.pointer (some ⟨p, 0, none⟩), .pointer (some ⟨bl, 0, none⟩)] w (Post encI B p w (((kesM N q0 q1 r0 r1 1 0).bind fun _ => .ret 0).run S)) := by
  generalize hR : Post encI B p w (((kesM N q0 q1 r0 r1 1 0).bind fun _ => .ret 0).run S) = R
  have hO : Owes R encI B p w (((kesM N q0 q1 r0 r1 1 0).bind fun _ => .ret 0).run S) := hR ▸ owes _ _ _ _ _
  clear hR
  have hK := Keep.refl [2, 3, 4] B p w
  go_enter Tryz.func94, Tryz.ntmps94
  go_wp2_with fail
  clear c1
  refine tstep hO hK (kes_enter_p B p N S q0 q1 r0 r1 1 0 b c w h hl hq0 hq1 hr0 hr1 (by omega) hm1 hm2 hm3 hm4 ht1 ht2 ht3 ht4 hN hc4 hc5) (fun _ h => ⟨rfl, h⟩) ?_
  intro v S1 w1 hr hP1 hk1 hK1 hO1
  have hf := hO1.done (v := (0 : Int)) hP1 hK1
  clear hO1 hP1 hK1 hr hk1 hO h hl hK
  go_wp2_with fail
  first | exact hf | (go_ret; exact hf)
theorem kal2 (B p N : Nat) (S : TS) (q0 q1 r0 r1 : Reg) (b c bl : Nat) (w : World) (h : Plays B w p S) (hl : RegsAt [2, 3, 4] w p b [q0, q1, r0, r1]) (hq0 : q0.ok) (hq1 : q1.ok) (hr0 : r0.ok) (hr1 : r1.ok)
    (hm1 : 0 < q0.n) (hm2 : 0 < q1.n) (hm3 : 0 < r0.n) (hm4 : 0 < r1.n) (ht1 : q0.told 0) (ht2 : q1.told 0) (ht3 : r0.told 0) (ht4 : r1.told 0) (hN : S.left < N) (hc4 : 4 ≤ c) (hc5 : c ≤ 9223372036854775807)
    (c1 : w.cell? ⟨bl, 0, none⟩ = some (.slice (some ⟨b, 0, none⟩) 4 c)) :
    Calls Tryz.prog 95 #[.pointer (some ⟨p, 0, none⟩), .pointer (some ⟨bl, 0, none⟩)] w (Post encI B p w (((kesM N q0 q1 r0 r1 0 0).bind fun _ => .ret 0).run S)) := by
  generalize hR : Post encI B p w (((kesM N q0 q1 r0 r1 0 0).bind fun _ => .ret 0).run S) = R
  have hO : Owes R encI B p w (((kesM N q0 q1 r0 r1 0 0).bind fun _ => .ret 0).run S) := hR ▸ owes _ _ _ _ _
  clear hR
  have hK := Keep.refl [2, 3, 4] B p w
  go_enter Tryz.func95, Tryz.ntmps95
  go_wp2_with fail
  clear c1
  refine tstep hO hK (kes_enter_p B p N S q0 q1 r0 r1 0 0 b c w h hl hq0 hq1 hr0 hr1 (by omega) hm1 hm2 hm3 hm4 ht1 ht2 ht3 ht4 hN hc4 hc5) (fun _ h => ⟨rfl, h⟩) ?_
  intro v S1 w1 hr hP1 hk1 hK1 hO1
  have hf := hO1.done (v := (0 : Int)) hP1 hK1
  clear hO1 hP1 hK1 hr hk1 hO h hl hK
  go_wp2_with fail
  first | exact hf | (go_ret; exact hf)
theorem kal3 (B p : Nat) (S : TS) (q0 q1 r0 r1 : Reg) (b c bl : Nat) (w : World) (h : Plays B w p S) (hl : RegsAt [2, 3, 4] w p b [q0, q1, r0, r1]) (hq0 : q0.ok) (hq1 : q1.ok)
    (hm1 : 0 < q0.n) (hm2 : 0 < q1.n)
    (c1 : w.cell? ⟨bl, 0, none⟩ = some (.slice (some ⟨b, 0, none⟩) 4 c)) :
    Calls Tryz.prog 96 #[.pointer (some ⟨p, 0, none⟩), .pointer (some ⟨bl, 0, none⟩)] w (Post encI B p w (((kesL q0 q1 0 0).bind fun _ => .ret 0).run S)) := by
  generalize hR : Post encI B p w (((kesL q0 q1 0 0).bind fun _ => .ret 0).run S) = R
  have hO : Owes R encI B p w (((kesL q0 q1 0 0).bind fun _ => .ret 0).run S) := hR ▸ owes _ _ _ _ _
  clear hR
  have hK := Keep.refl [2, 3, 4] B p w
  go_enter Tryz.func96, Tryz.ntmps96
  go_wp2_with fail
  clear c1
  refine tstep hO hK (kes_leave_p B p S q0 q1 r0 r1 0 0 b c w h hl hq0 hq1 (by omega) hm1 hm2) (fun _ h => ⟨rfl, h⟩) ?_
  intro v S1 w1 hr hP1 hk1 hK1 hO1
  have hf := hO1.done (v := (0 : Int)) hP1 hK1
  clear hO1 hP1 hK1 hr hk1 hO h hl hK
  go_wp2_with fail
  first | exact hf | (go_ret; exact hf)
def kr0 : Reg := ⟨1, 3, 2, 2, -1, -1, 1⟩
def kr1 : Reg := ⟨1, 4, 2, 2, -1, -1, 1⟩
def kr2 : Reg := ⟨1, 5, 2, 2, -1, -1, 1⟩
def kr3 : Reg := ⟨1, 6, 2, 2, -1, -1, 1⟩
set_option maxRecDepth 100000 in
set_option maxHeartbeats 1000000 in
theorem alive29 (w : World) : Calls Tryz.prog 26 #[] w fun e w' => e = .returned (.bool true) ∧ Ext w w' := by
  have hlay : layM (List.replicate 4 ⟨-1, 1⟩) 2 1 3 2 = some [kr0, kr1, kr2, kr3] := by rfl
  have h0 : kr0.ok := ⟨.inl rfl, by decide, by decide, by decide, fun h => by cases h⟩
  have h1 : kr1.ok := ⟨.inl rfl, by decide, by decide, by decide, fun h => by cases h⟩
  have h2 : kr2.ok := ⟨.inl rfl, by decide, by decide, by decide, fun h => by cases h⟩
  have h3 : kr3.ok := ⟨.inl rfl, by decide, by decide, by decide, fun h => by cases h⟩
  have hmf : ∀ (fn : Fn) (first cap : Array Value) (w : World), (Instr.makeFunc fn first cap).run Tryz.prog w = .ok (.func fn first cap) w := fun _ _ _ _ => rfl
  go_enter Tryz.func26, Tryz.ntmps26
  go_wp2_with fail
  refine (kwants_p w).mono ?_
  rintro e w1 ⟨v1, rfl, hW, hX⟩
  have hSm := some_r v1 _ 2 1 w1 hW (by simp)
  rw [hlay] at hSm
  obtain ⟨Aw, cw, rfl, _, _, _⟩ := hW
  clear hlay
  go_wp2_with fail
  refine hSm.mono ?_
  rintro e w2 ⟨v2, rfl, hx2, hrow⟩
  replace hX := hX.trans hx2
  obtain ⟨Ar, cr, rfl, r1, r2, hV⟩ := Recs.of_row hrow
  clear hSm hrow hx2
  obtain ⟨b, rfl, hb, hc⟩ := hV (by simp [regVals])
  simp only [Option.getD_some, List.length_cons, List.length_nil] at *
  have x1 := Ext.refl w2
  go_wp2_with fail
  have n1 := Blk.new w2 (.cells #[.slice (some ⟨b, 0, none⟩) 4 cr] 28)
  have hA := ints_new (World.alloc w2 (.cells #[.slice (some ⟨b, 0, none⟩) 4 cr] 28)) [0, 0, 0, 0] (by simp)
  replace n1 := n1.alloc (.cells (([0, 0, 0, 0] : List Int).map (Value.int .i64)).toArray 3)
  replace x1 := (x1.alloc (.cells #[.slice (some ⟨b, 0, none⟩) 4 cr] 28)).alloc (.cells (([0, 0, 0, 0] : List Int).map (Value.int .i64)).toArray 3)
  simp only [World.size_alloc, List.map_cons, List.map_nil, List.length_cons, List.length_nil] at hA n1 x1 
  have hsz : w2.heap.size + 1 < (World.alloc (World.alloc w2 (.cells #[.slice (some ⟨b, 0, none⟩) 4 cr] 28)) (.cells #[.int .i64 0, .int .i64 0, .int .i64 0, .int .i64 0] 3)).heap.size := by simp
  generalize World.alloc (World.alloc w2 _) _ = V1 at *
  refine (play_int 94 #[.pointer (some ⟨w2.heap.size, 0, none⟩)] ((kesM 5 kr0 kr1 kr2 kr3 1 0).bind fun _ => Prog.ret (0 : Int)) none 0 [] (some ⟨w2.heap.size + 1, 0, none⟩) 4 [0, 0, 0, 0] V1 (Ints.nil _) (by simp) hA (by decide) (fun k hk => by simp only [Value.ownBlock, Option.some.injEq] at hk; omega) (fun _ _ => rfl) (fun W p hxW hP => ?_)).mono ?_
  · exact kal1 _ p 5 _ kr0 kr1 kr2 kr3 b cr w2.heap.size W hP (regsP hb hc (x1.trans hxW) hP x1.size) h0 h1 h2 h3 (by decide) (by decide) (by decide) (by decide) (.inl rfl) (.inl rfl) (.inl rfl) (.inl rfl) (by decide) r1 r2 ((n1.ext hxW).cells 0)
  rintro e y1 ⟨v1, rfl, hO, hx1⟩
  have e1 : (((kesM 5 kr0 kr1 kr2 kr3 1 0).bind fun _ => Prog.ret (0 : Int)).run (TS0 [] [0, 0, 0, 0])).1 = some 0 := by rfl
  have e2 : (((kesM 5 kr0 kr1 kr2 kr3 1 0).bind fun _ => Prog.ret (0 : Int)).run (TS0 [] [0, 0, 0, 0])).2.acc.length = 4 := by rfl
  have e3 : (((kesM 5 kr0 kr1 kr2 kr3 1 0).bind fun _ => Prog.ret (0 : Int)).run (TS0 [] [0, 0, 0, 0])).2.acc[2]? = some ⟨2, 6, 1⟩ := by rfl
  rw [e1] at hO ⊢
  generalize (((kesM 5 kr0 kr1 kr2 kr3 1 0).bind fun _ => Prog.ret (0 : Int)).run (TS0 [] [0, 0, 0, 0])).2 = S1 at *
  obtain ⟨A1, c1, A1', c1', vs1, L1, rfl, hO⟩ := hO
  obtain ⟨As1, k1, hvs1, _, _⟩ := hO.locs.slice
  subst hvs1
  obtain ⟨u1, rfl, hu1, z10, z11, z12⟩ := hO.accs.at_ e3
  simp only [Nat.reduceMul, Nat.reduceAdd] at z10 z11 z12
  unfold outV
  rw [e2] at *
  simp only [Option.getD_some, Option.isSome_some]
  replace n1 := n1.ext hx1
  have s1 := Ext.refl y1
  replace x1 := x1.trans hx1
  clear e1 e2 e3 hO hA hsz hx1 hmf
  have hmf : ∀ (fn : Fn) (first cap : Array Value) (w : World), (Instr.makeFunc fn first cap).run Tryz.prog w = .ok (.func fn first cap) w := fun _ _ _ _ => rfl
  go_wp2_with fail
  have n2 := Blk.new y1 (.cells #[.bool true, .slice (some ⟨u1, 0, none⟩) 4 c1, .slice A1' S1.nts.length c1', .slice As1 (shortL L1).length k1] 36)
  have hA := ints_new (World.alloc y1 (.cells #[.bool true, .slice (some ⟨u1, 0, none⟩) 4 c1, .slice A1' S1.nts.length c1', .slice As1 (shortL L1).length k1] 36)) [0, 1, 0, 1, 1, 1, 0] (by simp)
  replace n1 := (n1.alloc (.cells #[.bool true, .slice (some ⟨u1, 0, none⟩) 4 c1, .slice A1' S1.nts.length c1', .slice As1 (shortL L1).length k1] 36)).alloc (.cells (([0, 1, 0, 1, 1, 1, 0] : List Int).map (Value.int .i64)).toArray 3)
  replace s1 := (s1.alloc (.cells #[.bool true, .slice (some ⟨u1, 0, none⟩) 4 c1, .slice A1' S1.nts.length c1', .slice As1 (shortL L1).length k1] 36)).alloc (.cells (([0, 1, 0, 1, 1, 1, 0] : List Int).map (Value.int .i64)).toArray 3)
  replace n2 := n2.alloc (.cells (([0, 1, 0, 1, 1, 1, 0] : List Int).map (Value.int .i64)).toArray 3)
  replace x1 := (x1.alloc (.cells #[.bool true, .slice (some ⟨u1, 0, none⟩) 4 c1, .slice A1' S1.nts.length c1', .slice As1 (shortL L1).length k1] 36)).alloc (.cells (([0, 1, 0, 1, 1, 1, 0] : List Int).map (Value.int .i64)).toArray 3)
  simp only [World.size_alloc, List.map_cons, List.map_nil, List.length_cons, List.length_nil] at hA n2 x1 n1 s1
  have hsz : y1.heap.size + 1 < (World.alloc (World.alloc y1 (.cells #[.bool true, .slice (some ⟨u1, 0, none⟩) 4 c1, .slice A1' S1.nts.length c1', .slice As1 (shortL L1).length k1] 36)) (.cells #[.int .i64 0, .int .i64 1, .int .i64 0, .int .i64 1, .int .i64 1, .int .i64 1, .int .i64 0] 3)).heap.size := by simp
  generalize World.alloc (World.alloc y1 _) _ = V2 at *
  refine (play_int 95 #[.pointer (some ⟨w2.heap.size, 0, none⟩)] ((kesM 8 kr0 kr1 kr2 kr3 0 0).bind fun _ => Prog.ret (0 : Int)) none 0 [] (some ⟨y1.heap.size + 1, 0, none⟩) 7 [0, 1, 0, 1, 1, 1, 0] V2 (Ints.nil _) (by simp) hA (by decide) (fun k hk => by simp only [Value.ownBlock, Option.some.injEq] at hk; omega) (fun _ _ => rfl) (fun W p hxW hP => ?_)).mono ?_
  · exact kal2 _ p 8 _ kr0 kr1 kr2 kr3 b cr w2.heap.size W hP (regsP hb hc (x1.trans hxW) hP x1.size) h0 h1 h2 h3 (by decide) (by decide) (by decide) (by decide) (.inl rfl) (.inl rfl) (.inl rfl) (.inl rfl) (by decide) r1 r2 ((n1.ext hxW).cells 0)
  rintro e y2 ⟨v2, rfl, hO, hx2⟩
  have e1 : (((kesM 8 kr0 kr1 kr2 kr3 0 0).bind fun _ => Prog.ret (0 : Int)).run (TS0 [] [0, 1, 0, 1, 1, 1, 0])).1 = some 0 := by rfl
  have e2 : (((kesM 8 kr0 kr1 kr2 kr3 0 0).bind fun _ => Prog.ret (0 : Int)).run (TS0 [] [0, 1, 0, 1, 1, 1, 0])).2.acc.length = 7 := by rfl
  rw [e1] at hO ⊢
  generalize (((kesM 8 kr0 kr1 kr2 kr3 0 0).bind fun _ => Prog.ret (0 : Int)).run (TS0 [] [0, 1, 0, 1, 1, 1, 0])).2 = S2 at *
  obtain ⟨A2, c2, A2', c2', vs2, L2, rfl, hO⟩ := hO
  obtain ⟨As2, k2, hvs2, _, _⟩ := hO.locs.slice
  subst hvs2
  unfold outV
  rw [e2] at *
  simp only [Option.getD_some, Option.isSome_some]
  replace n1 := n1.ext hx2
  replace n2 := n2.ext hx2
  replace s1 := s1.trans hx2
  have s2 := Ext.refl y2
  replace x1 := x1.trans hx2
  clear e1 e2  hO hA hsz hx2 hmf
  have hmf : ∀ (fn : Fn) (first cap : Array Value) (w : World), (Instr.makeFunc fn first cap).run Tryz.prog w = .ok (.func fn first cap) w := fun _ _ _ _ => rfl
  go_wp2_with fail
  have n3 := Blk.new y2 (.cells #[.bool true, .slice A2 7 c2, .slice A2' S2.nts.length c2', .slice As2 (shortL L2).length k2] 36)
  have hA := ints_new (World.alloc y2 (.cells #[.bool true, .slice A2 7 c2, .slice A2' S2.nts.length c2', .slice As2 (shortL L2).length k2] 36)) [0] (by simp)
  replace n1 := (n1.alloc (.cells #[.bool true, .slice A2 7 c2, .slice A2' S2.nts.length c2', .slice As2 (shortL L2).length k2] 36)).alloc (.cells (([0] : List Int).map (Value.int .i64)).toArray 3)
  replace n2 := (n2.alloc (.cells #[.bool true, .slice A2 7 c2, .slice A2' S2.nts.length c2', .slice As2 (shortL L2).length k2] 36)).alloc (.cells (([0] : List Int).map (Value.int .i64)).toArray 3)
  replace s1 := (s1.alloc (.cells #[.bool true, .slice A2 7 c2, .slice A2' S2.nts.length c2', .slice As2 (shortL L2).length k2] 36)).alloc (.cells (([0] : List Int).map (Value.int .i64)).toArray 3)
  replace s2 := (s2.alloc (.cells #[.bool true, .slice A2 7 c2, .slice A2' S2.nts.length c2', .slice As2 (shortL L2).length k2] 36)).alloc (.cells (([0] : List Int).map (Value.int .i64)).toArray 3)
  replace n3 := n3.alloc (.cells (([0] : List Int).map (Value.int .i64)).toArray 3)
  replace x1 := (x1.alloc (.cells #[.bool true, .slice A2 7 c2, .slice A2' S2.nts.length c2', .slice As2 (shortL L2).length k2] 36)).alloc (.cells (([0] : List Int).map (Value.int .i64)).toArray 3)
  simp only [World.size_alloc, List.map_cons, List.map_nil, List.length_cons, List.length_nil] at hA n3 x1 n1 n2 s1 s2
  have hsz : y2.heap.size + 1 < (World.alloc (World.alloc y2 (.cells #[.bool true, .slice A2 7 c2, .slice A2' S2.nts.length c2', .slice As2 (shortL L2).length k2] 36)) (.cells #[.int .i64 0] 3)).heap.size := by simp
  generalize World.alloc (World.alloc y2 _) _ = V3 at *
  refine (play_int 96 #[.pointer (some ⟨w2.heap.size, 0, none⟩)] ((kesL kr0 kr1 0 0).bind fun _ => Prog.ret (0 : Int)) none 0 [] (some ⟨y2.heap.size + 1, 0, none⟩) 1 [0] V3 (Ints.nil _) (by simp) hA (by decide) (fun k hk => by simp only [Value.ownBlock, Option.some.injEq] at hk; omega) (fun _ _ => rfl) (fun W p hxW hP => ?_)).mono ?_
  · exact kal3 _ p _ kr0 kr1 kr2 kr3 b cr w2.heap.size W hP (regsP hb hc (x1.trans hxW) hP x1.size) h0 h1 (by decide) (by decide) ((n1.ext hxW).cells 0)
  rintro e y3 ⟨v3, rfl, hO, hx3⟩
  have e1 : (((kesL kr0 kr1 0 0).bind fun _ => Prog.ret (0 : Int)).run (TS0 [] [0])).1 = some 0 := by rfl
  have e2 : (((kesL kr0 kr1 0 0).bind fun _ => Prog.ret (0 : Int)).run (TS0 [] [0])).2.acc.length = 1 := by rfl
  have e3 : (((kesL kr0 kr1 0 0).bind fun _ => Prog.ret (0 : Int)).run (TS0 [] [0])).2.acc[0]? = some ⟨2, 3, 0⟩ := by rfl
  rw [e1] at hO ⊢
  generalize (((kesL kr0 kr1 0 0).bind fun _ => Prog.ret (0 : Int)).run (TS0 [] [0])).2 = S3 at *
  obtain ⟨A3, c3, A3', c3', vs3, L3, rfl, hO⟩ := hO
  obtain ⟨As3, k3, hvs3, _, _⟩ := hO.locs.slice
  subst hvs3
  obtain ⟨u3, rfl, hu3, z30, z31, z32⟩ := hO.accs.at_ e3
  simp only [Nat.zero_mul, Nat.zero_add] at z30 z31 z32
  unfold outV
  rw [e2] at *
  simp only [Option.getD_some, Option.isSome_some]
  replace n1 := n1.ext hx3
  replace n2 := n2.ext hx3
  replace n3 := n3.ext hx3
  replace s1 := s1.trans hx3
  replace s2 := s2.trans hx3
  have s3 := Ext.refl y3
  replace x1 := x1.trans hx3
  clear e1 e2 e3 hO hA hsz hx3 hmf
  have hmf : ∀ (fn : Fn) (first cap : Array Value) (w : World), (Instr.makeFunc fn first cap).run Tryz.prog w = .ok (.func fn first cap) w := fun _ _ _ _ => rfl
  
  have o1 := (n2.alloc (.cells #[.bool true, .slice (some ⟨u3, 0, none⟩) 1 c3, .slice A3' S3.nts.length c3', .slice As3 (shortL L3).length k3] 36)).cells
  have o2 := (n3.alloc (.cells #[.bool true, .slice (some ⟨u3, 0, none⟩) 1 c3, .slice A3' S3.nts.length c3', .slice As3 (shortL L3).length k3] 36)).cells
  have t1 := s1.alloc (.cells #[.bool true, .slice (some ⟨u3, 0, none⟩) 1 c3, .slice A3' S3.nts.length c3', .slice As3 (shortL L3).length k3] 36)
  have t3 := s3.alloc (.cells #[.bool true, .slice (some ⟨u3, 0, none⟩) 1 c3, .slice A3' S3.nts.length c3', .slice As3 (shortL L3).length k3] 36)
  replace z10 := (t1.cell (p := ⟨u1, 6, none⟩) hu1).trans z10
  replace z11 := (t1.cell (p := ⟨u1, 7, none⟩) hu1).trans z11
  replace z12 := (t1.cell (p := ⟨u1, 8, none⟩) hu1).trans z12
  replace z30 := (t3.cell (p := ⟨u3, 0, none⟩) hu3).trans z30
  replace z31 := (t3.cell (p := ⟨u3, 1, none⟩) hu3).trans z31
  replace z32 := (t3.cell (p := ⟨u3, 2, none⟩) hu3).trans z32
  have hfin := Lib.hid (hX.trans (x1.alloc (.cells #[.bool true, .slice (some ⟨u3, 0, none⟩) 1 c3, .slice A3' S3.nts.length c3', .slice As3 (shortL L3).length k3] 36)))
  clear t1 t3 s1 s2 s3 n1 n2 n3
  go_wp2_with fail
  go_ret
  exact ⟨rfl, hfin.out⟩
end Go.Proofs.YtpcohbpeglledaaGreat
