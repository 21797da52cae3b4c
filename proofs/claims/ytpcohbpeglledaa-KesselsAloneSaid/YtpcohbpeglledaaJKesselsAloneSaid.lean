/-
  KesselsAlone holds: whoever is alone enters a Kessels lock by four accesses, and a side writes its own two registers alone.
-/
import Derived.Test.YtpcohbpeglledaaJB4
import Derived.Deep.DeepCutAuto
import Derived.Laws.MakeOwn
/-
  Plain mathematics of Kessels' lock: entering and leaving as trees.
-/
namespace Kv
def kesFree (s t y : Int) : Bool := if s = 1 then decide (bitM y = t) else decide (bitM y ≠ t)
def kesT (s x : Int) : Int := if s = 1 then 1 - bitM x else bitM x
/-- Spinning, so many rounds at most. -/
def kesSpin (qo ro : Reg) (s t me : Int) : Nat → Prog Unit
  | 0 => .ret ()
  | n + 1 => (regR qo me).bind fun x => if x = 0 then .ret () else (regR ro me).bind fun y => if kesFree s t y then .ret () else kesSpin qo ro s t me n
def kesEnter (n : Nat) (qs qo rs ro : Reg) (s me : Int) : Prog Unit :=
  (regW qs me 1).bind fun _ => (regR ro me).bind fun x => (regW rs me (kesT s x)).bind fun _ => kesSpin qo ro s (kesT s x) me n
end Kv
/-
  Kessels: entering, by the program.
-/
namespace Go.Proofs.Ytpcohbpeglledaa
open Go.RowKit Kv
theorem kbit_p (x : Int) (w : World) : Calls Try.prog 42 #[.int .i64 x] w fun e w' => e = .returned (.int .i64 (bitM x)) ∧ w = w' := by
  unfold bitM
  by_cases h : x = 0
  · rw [if_pos h]
    go_enter Try.func42, Try.ntmps42
    go_wp2_with fail
    go_ret
    exact ⟨rfl, rfl⟩
  · rw [if_neg h]
    have hb : (x != 0) = true := by rw [bne_iff_ne]; exact h
    go_enter Try.func42, Try.ntmps42
    go_wp2_with fail
    go_ret
    exact ⟨rfl, rfl⟩
theorem kfree0_p (x t : Int) (b : Nat) (w : World) (h : w.cell? ⟨b, 0, none⟩ = some (.int .i64 t)) : Calls Try.prog 45 #[.int .i64 x, .pointer (some ⟨b, 0, none⟩)] w fun e w' => e = .returned (.bool (x != t)) ∧ w = w' := by
  go_enter Try.func45, Try.ntmps45
  go_wp2_with fail
  go_ret
  exact ⟨rfl, rfl⟩
theorem kfree1_p (x t : Int) (b : Nat) (w : World) (h : w.cell? ⟨b, 0, none⟩ = some (.int .i64 t)) : Calls Try.prog 46 #[.int .i64 x, .pointer (some ⟨b, 0, none⟩)] w fun e w' => e = .returned (.bool (x == t)) ∧ w = w' := by
  go_enter Try.func46, Try.ntmps46
  go_wp2_with fail
  go_ret
  exact ⟨rfl, rfl⟩
theorem cells_pm (r : Reg) (me : Int) (w : World) (ho : r.ok) (ht : r.told me) (hm : 0 ≤ me ∧ me < r.n) : Calls Try.prog 47 #[encR r] w fun e w' => ∃ c : Int, e = .returned (.int .i64 c) ∧ (c == 0) = false ∧ Ext w w' := by
  refine (cells_p r w (by rcases ht with h | ⟨h, _⟩ | ⟨h, h2⟩; exact .inl h; exact .inr (.inl h); exact .inr (.inr ⟨h, h2⟩)) ho.n (fun w => mthreads_p r.n w ho.n.1 ho.n.2)).mono fun e w' h => ⟨_, h.1, ?_, h.2⟩
  rw [beq_eq_false_iff_ne]
  have hn := ho.n
  have h2 : r.kind ≠ 1 → 2 ≤ r.n := fun h1 => by
    rcases ht with h | ⟨h, h3⟩ | ⟨h, h3⟩
    · exact absurd h h1
    · have := ho.wr h; omega
    · exact h3
  unfold cellsM
  split
  · decide
  · rename_i h1
    have h3 := h2 h1
    have p1 : 0 < 16 * (r.n - 1) * (r.n - 1) := Int.mul_pos (by omega) (by omega)
    split
    · omega
    · have p2 : 0 < 16 * (r.n - 1) * (r.n - 1) * r.n := Int.mul_pos p1 (by omega)
      omega
set_option maxRecDepth 100000 in
set_option maxHeartbeats 1000000 in
theorem kes_enter_p0 (B p N : Nat) (S : TS) (q0 q1 r0 r1 : Reg) (side me : Int) (b c : Nat) (w : World) (h : Plays B w p S) (hl : RegsAt [2, 3, 4] w p b [q0, q1, r0, r1]) (hq0 : q0.ok) (hq1 : q1.ok) (hr0 : r0.ok) (hr1 : r1.ok)
    (hm0 : 0 ≤ me) (hm1 : me < q0.n) (hm2 : me < q1.n) (hm3 : me < r0.n) (hm4 : me < r1.n) (ht1 : q1.told me) (_ht2 : r1.told me) (hN : S.left < N) (hs : bitM side = 0) (hc4 : 4 ≤ c) (hc5 : c ≤ 9223372036854775807) :
    Calls Try.prog 14 #[.pointer (some ⟨p, 0, none⟩), .slice (some ⟨b, 0, none⟩) 4 c, .int .i64 side, .int .i64 me] w (Post encU B p w ((kesEnter N q0 q1 r0 r1 0 me).run S)) := by
  generalize hR : Post encU B p w ((kesEnter N q0 q1 r0 r1 0 me).run S) = R
  have hO : Owes R encU B p w ((kesEnter N q0 q1 r0 r1 0 me).run S) := hR ▸ owes _ _ _ _ _
  clear hR
  have hmf : ∀ (fn : Fn) (first cap : Array Value) (w : World), (Instr.makeFunc fn first cap).run Try.prog w = .ok (.func fn first cap) w := fun _ _ _ _ => rfl
  have hK := Keep.refl [2, 3, 4] B p w
  have hP := h
  clear h
  unfold kesEnter at hO
  obtain ⟨⟨a0, a1, a2, a3, a4, a5, a6⟩, ⟨e0, e1, e2, e3, e4, e5, e6⟩, ⟨f0, f1, f2, f3, f4, f5, f6⟩, ⟨g0, g1, g2, g3, g4, g5, g6⟩⟩ := hl.four
  have hc6 : (2 : Int) ≤ (c : Int) := by omega
  have hc7 : (4 : Int) ≤ (c : Int) := by omega
  have hb := kbit_p side w
  rw [hs] at hb
  clear hs
  go_enter Try.func14, Try.ntmps14
  go_wp2_with fail
  refine hb.mono ?_
  rintro e w' ⟨rfl, rfl⟩
  clear hb
  go_wp2_with fail
  go_quiet (fail)
  have hx := (Ext.refl w).drewN nq
  replace hl := hl.extL hx hP.lt
  replace hK := hK.trans (Keep.of_ext hx hP.lt hP.le)
  replace hP := hP.ext hx
  clear a0 a1 a2 a3 a4 a5 a6 e0 e1 e2 e3 e4 e5 e6 f0 f1 f2 f3 f4 f5 f6 g0 g1 g2 g3 g4 g5 g6 hx
  generalize w.drewN nq = wz at *
  obtain ⟨⟨a0, a1, a2, a3, a4, a5, a6⟩, ⟨e0, e1, e2, e3, e4, e5, e6⟩, ⟨f0, f1, f2, f3, f4, f5, f6⟩, ⟨g0, g1, g2, g3, g4, g5, g6⟩⟩ := hl.four
  go_wp2_with fail
  refine tstepL hO hK (reg_write_p B p S q0 me 1 _ hP hq0 ⟨hm0, by omega⟩) (fun _ h => ⟨rfl, h⟩) ?_
  clear hO hK hP
  intro u S w1 hlf _ hP hk hK hO
  replace hN := Nat.lt_of_le_of_lt hlf hN
  replace hl := hl.keep hk
  clear a0 a1 a2 a3 a4 a5 a6 e0 e1 e2 e3 e4 e5 e6 f0 f1 f2 f3 f4 f5 f6 g0 g1 g2 g3 g4 g5 g6 hk hlf
  obtain ⟨⟨a0, a1, a2, a3, a4, a5, a6⟩, ⟨e0, e1, e2, e3, e4, e5, e6⟩, ⟨f0, f1, f2, f3, f4, f5, f6⟩, ⟨g0, g1, g2, g3, g4, g5, g6⟩⟩ := hl.four
  go_wp2_with fail
  refine tstepL hO hK (reg_read_p B p S r1 me _ hP hr1 ⟨hm0, by omega⟩) (fun _ h => ⟨rfl, h⟩) ?_
  clear hO hK hP
  intro x S w2 hlf _ hP hk hK hO
  replace hN := Nat.lt_of_le_of_lt hlf hN
  replace hl := hl.keep hk
  clear a0 a1 a2 a3 a4 a5 a6 e0 e1 e2 e3 e4 e5 e6 f0 f1 f2 f3 f4 f5 f6 g0 g1 g2 g3 g4 g5 g6 hk hlf
  obtain ⟨⟨a0, a1, a2, a3, a4, a5, a6⟩, ⟨e0, e1, e2, e3, e4, e5, e6⟩, ⟨f0, f1, f2, f3, f4, f5, f6⟩, ⟨g0, g1, g2, g3, g4, g5, g6⟩⟩ := hl.four
  go_wp2_with fail
  have hbx : 0 ≤ bitM x ∧ bitM x ≤ 1 := by unfold bitM; split <;> omega
  have hwx := w64 (1 - bitM x) (by omega) (by omega)
  refine (kbit_p x _).mono ?_
  rintro e w' ⟨rfl, rfl⟩
  go_wp2_with fail
  have hPo := hP
  have bT := hP.held (.cells #[.int .i64 (bitM x)] 3)
  replace hK := hK.trans (Keep.alloc (.cells #[.int .i64 (bitM x)] 3) hP.lt hP.le)
  replace hP := hP.alloc (.cells #[.int .i64 (bitM x)] 3)
  have c_bT := bT.cells
  replace hl := hl.extL ((Ext.refl _).alloc (.cells #[.int .i64 (bitM x)] 3)) hPo.lt
  clear hPo
  clear a0 a1 a2 a3 a4 a5 a6 e0 e1 e2 e3 e4 e5 e6 f0 f1 f2 f3 f4 f5 f6 g0 g1 g2 g3 g4 g5 g6
  rw [show kesT 0 x = (bitM x) from rfl] at hO
  replace hP := hP.drew
  replace hK := hK.drew
  replace bT := bT.drew
  replace hl := hl.extL (Ext.refl _).drew hP.lt
  have hS : ∀ w', RegsAt [2, 3, 4] w' p b [q0, q1, r0, r1] → HeldP w' p w2.heap.size (.cells #[.int .i64 (bitM x)] 3) → (w'.cell? ⟨b, 14, none⟩ = some (.int .i64 r0.kind) ∧ w'.cell? ⟨b, 15, none⟩ = some (.int .i64 r0.base) ∧ w'.cell? ⟨b, 16, none⟩ = some (.int .i64 r0.loc) ∧ w'.cell? ⟨b, 17, none⟩ = some (.int .i64 r0.n) ∧ w'.cell? ⟨b, 18, none⟩ = some (.int .i64 r0.wr) ∧ w'.cell? ⟨b, 19, none⟩ = some (.int .i64 r0.rd) ∧ w'.cell? ⟨b, 20, none⟩ = some (.int .i64 r0.top)) ∧ (∀ i, w'.cell? ⟨w2.heap.size, i, none⟩ = (#[.int .i64 (bitM x)] : Array Value)[i]?) := fun w' h1 h2 => by
    obtain ⟨y0, y1, y2, y3, y4, y5, y6⟩ := h1.four.2.2.1
    exact ⟨⟨y0, y1, y2, y3, y4, y5, y6⟩, h2.cells⟩
  go_region_held2 (fun w' => (w'.cell? ⟨b, 14, none⟩ = some (.int .i64 r0.kind) ∧ w'.cell? ⟨b, 15, none⟩ = some (.int .i64 r0.base) ∧ w'.cell? ⟨b, 16, none⟩ = some (.int .i64 r0.loc) ∧ w'.cell? ⟨b, 17, none⟩ = some (.int .i64 r0.n) ∧ w'.cell? ⟨b, 18, none⟩ = some (.int .i64 r0.wr) ∧ w'.cell? ⟨b, 19, none⟩ = some (.int .i64 r0.rd) ∧ w'.cell? ⟨b, 20, none⟩ = some (.int .i64 r0.top)) ∧ (∀ i, w'.cell? ⟨w2.heap.size, i, none⟩ = (#[.int .i64 (bitM x)] : Array Value)[i]?)) (exact hS _ hl bT)
    (first
      | (go_at_call 43
         refine tstepL hO hK (reg_write_p B p S r0 me (bitM x) _ hP hr0 ⟨hm0, by omega⟩) (fun _ h => ⟨rfl, h⟩) ?_
         clear hO hK hP
         intro u S w3 hlf _ hP hk hK hO
         replace hN := Nat.lt_of_le_of_lt hlf hN
         replace hl := hl.keep hk
         replace bT := bT.keep hk
         clear hk hlf))
  rename_i hh
  clear hh c_bT
  generalize htx : (bitM x) = t at *
  go_wp2_with fail
  go_loopw [] (fun wr => ∃ (n : Nat) (S1 : TS), Plays B wr p S1 ∧ KeepP B p w wr ∧ HeldP wr p w2.heap.size (.cells #[.int .i64 t] 3) ∧ RegsAt [2, 3, 4] wr p b [q0, q1, r0, r1] ∧ Hid (Owes R encU B p w ((kesSpin q1 r1 0 t me n).run S1)) ∧ S1.left < n) (fun wr => leftW 1 3 wr p)
  case atStart => exact ⟨N, S, hP, hK, bT, hl, hO, hN⟩
  case round =>
    clear hS hP hK bT hl hO hN
    obtain ⟨n, S1, hP, hK, bT, hl, hO, hN⟩ := hrel
    have hO := hO.out
    have hlw := Lib.hid hP.left
    cases n with
    | zero => omega
    | succ n =>
      unfold kesSpin at hO
      obtain ⟨⟨a0, a1, a2, a3, a4, a5, a6⟩, ⟨e0, e1, e2, e3, e4, e5, e6⟩, ⟨f0, f1, f2, f3, f4, f5, f6⟩, ⟨g0, g1, g2, g3, g4, g5, g6⟩⟩ := hl.four
      go_wp2_with fail
      refine tstepL hO hK (reg_read_p B p S1 q1 me _ hP hq1 ⟨hm0, by omega⟩) (fun _ h => ⟨rfl, h⟩) ?_
      clear hO hK hP
      intro v S2 w4 _ hlf hP hk hK hO
      replace hlf := hlf (asks_regR _ _ ht1)
      replace hl := hl.keep hk
      replace bT := bT.keep hk
      clear a0 a1 a2 a3 a4 a5 a6 e0 e1 e2 e3 e4 e5 e6 f0 f1 f2 f3 f4 f5 f6 g0 g1 g2 g3 g4 g5 g6 hk
      by_cases hv : v = 0
      · rw [if_pos hv] at hO
        subst hv
        have hf : R (.returned (encU ())) w4 := hO.done hP hK
        clear hO hP hK hl bT
        go_wp2_with fail
        first | exact hf | (refine bodyPost_ret (results_none rfl _ _ _) rfl ?_; exact hf)
      · rw [if_neg hv] at hO
        have hv2 : (v == 0) = false := by rw [beq_eq_false_iff_ne]; exact hv
        obtain ⟨⟨a0, a1, a2, a3, a4, a5, a6⟩, ⟨e0, e1, e2, e3, e4, e5, e6⟩, ⟨f0, f1, f2, f3, f4, f5, f6⟩, ⟨g0, g1, g2, g3, g4, g5, g6⟩⟩ := hl.four
        clear hv
        go_wp2_with fail
        refine tstepL hO hK (reg_read_p B p S2 r1 me _ hP hr1 ⟨hm0, by omega⟩) (fun _ h => ⟨rfl, h⟩) ?_
        clear hO hK hP
        intro y S3 w5 hlf2 _ hP hk hK hO
        replace hl := hl.keep hk
        replace bT := bT.keep hk
        clear a0 a1 a2 a3 a4 a5 a6 e0 e1 e2 e3 e4 e5 e6 f0 f1 f2 f3 f4 f5 f6 g0 g1 g2 g3 g4 g5 g6 hk
        have c_bT := bT.cells
        go_wp2_with fail
        refine (kbit_p y _).mono ?_
        rintro e w' ⟨rfl, rfl⟩
        go_wp2_with fail
        refine (kfree0_p (bitM y) t _ _ (c_bT 0)).mono ?_
        rintro e w' ⟨rfl, rfl⟩
        by_cases hy : kesFree 0 t y = true
        · rw [if_pos hy] at hO
          have hy2 : (bitM y != t) = true := by unfold kesFree at hy; simpa using hy
          have hf : R (.returned (encU ())) w5 := hO.done hP hK
          clear hO hP hK hl bT hy
          go_wp2_with fail
          first | exact hf | (refine bodyPost_ret (results_none rfl _ _ _) rfl ?_; exact hf)
        · rw [if_neg hy] at hO
          have hy2 : (bitM y != t) = false := by unfold kesFree at hy; simpa using hy
          obtain ⟨⟨a0, a1, a2, a3, a4, a5, a6⟩, ⟨e0, e1, e2, e3, e4, e5, e6⟩, ⟨f0, f1, f2, f3, f4, f5, f6⟩, ⟨g0, g1, g2, g3, g4, g5, g6⟩⟩ := hl.four
          clear hy c_bT
          go_wp2_with fail
          refine (cells_pm q1 me _ hq1 ht1 ⟨hm0, by omega⟩).mono ?_
          rintro e w6 ⟨cc, rfl, hcc, hx⟩
          replace hl := hl.extL hx hP.lt
          replace bT := bT.ext hx hP.lt
          replace hK := hK.trans (Keep.of_ext hx hP.lt hP.le)
          replace hP := hP.ext hx
          clear a0 a1 a2 a3 a4 a5 a6 e0 e1 e2 e3 e4 e5 e6 f0 f1 f2 f3 f4 f5 f6 g0 g1 g2 g3 g4 g5 g6 hx
          have hlw2 := Lib.hid hP.left
          have hOh := Lib.hid hO
          clear hO
          go_wp2_with fail
          refine ⟨⟨n, S3, hP, hK, bT, hl, hOh, by omega⟩, ?_⟩
          rw [hlw.out, hlw2.out]
          omega
set_option maxRecDepth 100000 in
set_option maxHeartbeats 1000000 in
theorem kes_enter_p1 (B p N : Nat) (S : TS) (q0 q1 r0 r1 : Reg) (side me : Int) (b c : Nat) (w : World) (h : Plays B w p S) (hl : RegsAt [2, 3, 4] w p b [q0, q1, r0, r1]) (hq0 : q0.ok) (hq1 : q1.ok) (hr0 : r0.ok) (hr1 : r1.ok)
    (hm0 : 0 ≤ me) (hm1 : me < q0.n) (hm2 : me < q1.n) (hm3 : me < r0.n) (hm4 : me < r1.n) (ht1 : q0.told me) (_ht2 : r0.told me) (hN : S.left < N) (hs : bitM side = 1) (hc4 : 4 ≤ c) (hc5 : c ≤ 9223372036854775807) :
    Calls Try.prog 14 #[.pointer (some ⟨p, 0, none⟩), .slice (some ⟨b, 0, none⟩) 4 c, .int .i64 side, .int .i64 me] w (Post encU B p w ((kesEnter N q1 q0 r1 r0 1 me).run S)) := by
  generalize hR : Post encU B p w ((kesEnter N q1 q0 r1 r0 1 me).run S) = R
  have hO : Owes R encU B p w ((kesEnter N q1 q0 r1 r0 1 me).run S) := hR ▸ owes _ _ _ _ _
  clear hR
  have hmf : ∀ (fn : Fn) (first cap : Array Value) (w : World), (Instr.makeFunc fn first cap).run Try.prog w = .ok (.func fn first cap) w := fun _ _ _ _ => rfl
  have hK := Keep.refl [2, 3, 4] B p w
  have hP := h
  clear h
  unfold kesEnter at hO
  obtain ⟨⟨a0, a1, a2, a3, a4, a5, a6⟩, ⟨e0, e1, e2, e3, e4, e5, e6⟩, ⟨f0, f1, f2, f3, f4, f5, f6⟩, ⟨g0, g1, g2, g3, g4, g5, g6⟩⟩ := hl.four
  have hc6 : (2 : Int) ≤ (c : Int) := by omega
  have hc7 : (4 : Int) ≤ (c : Int) := by omega
  have hb := kbit_p side w
  rw [hs] at hb
  clear hs
  go_enter Try.func14, Try.ntmps14
  go_wp2_with fail
  refine hb.mono ?_
  rintro e w' ⟨rfl, rfl⟩
  clear hb
  go_wp2_with fail
  go_quiet (fail)
  have hx := (Ext.refl w).drewN nq
  replace hl := hl.extL hx hP.lt
  replace hK := hK.trans (Keep.of_ext hx hP.lt hP.le)
  replace hP := hP.ext hx
  clear a0 a1 a2 a3 a4 a5 a6 e0 e1 e2 e3 e4 e5 e6 f0 f1 f2 f3 f4 f5 f6 g0 g1 g2 g3 g4 g5 g6 hx
  generalize w.drewN nq = wz at *
  obtain ⟨⟨a0, a1, a2, a3, a4, a5, a6⟩, ⟨e0, e1, e2, e3, e4, e5, e6⟩, ⟨f0, f1, f2, f3, f4, f5, f6⟩, ⟨g0, g1, g2, g3, g4, g5, g6⟩⟩ := hl.four
  go_wp2_with fail
  refine tstepL hO hK (reg_write_p B p S q1 me 1 _ hP hq1 ⟨hm0, by omega⟩) (fun _ h => ⟨rfl, h⟩) ?_
  clear hO hK hP
  intro u S w1 hlf _ hP hk hK hO
  replace hN := Nat.lt_of_le_of_lt hlf hN
  replace hl := hl.keep hk
  clear a0 a1 a2 a3 a4 a5 a6 e0 e1 e2 e3 e4 e5 e6 f0 f1 f2 f3 f4 f5 f6 g0 g1 g2 g3 g4 g5 g6 hk hlf
  obtain ⟨⟨a0, a1, a2, a3, a4, a5, a6⟩, ⟨e0, e1, e2, e3, e4, e5, e6⟩, ⟨f0, f1, f2, f3, f4, f5, f6⟩, ⟨g0, g1, g2, g3, g4, g5, g6⟩⟩ := hl.four
  go_wp2_with fail
  refine tstepL hO hK (reg_read_p B p S r0 me _ hP hr0 ⟨hm0, by omega⟩) (fun _ h => ⟨rfl, h⟩) ?_
  clear hO hK hP
  intro x S w2 hlf _ hP hk hK hO
  replace hN := Nat.lt_of_le_of_lt hlf hN
  replace hl := hl.keep hk
  clear a0 a1 a2 a3 a4 a5 a6 e0 e1 e2 e3 e4 e5 e6 f0 f1 f2 f3 f4 f5 f6 g0 g1 g2 g3 g4 g5 g6 hk hlf
  obtain ⟨⟨a0, a1, a2, a3, a4, a5, a6⟩, ⟨e0, e1, e2, e3, e4, e5, e6⟩, ⟨f0, f1, f2, f3, f4, f5, f6⟩, ⟨g0, g1, g2, g3, g4, g5, g6⟩⟩ := hl.four
  go_wp2_with fail
  have hbx : 0 ≤ bitM x ∧ bitM x ≤ 1 := by unfold bitM; split <;> omega
  have hwx := w64 (1 - bitM x) (by omega) (by omega)
  refine (kbit_p x _).mono ?_
  rintro e w' ⟨rfl, rfl⟩
  go_wp2_with fail
  have hPo := hP
  have bT := hP.held (.cells #[.int .i64 (1 - bitM x)] 3)
  replace hK := hK.trans (Keep.alloc (.cells #[.int .i64 (1 - bitM x)] 3) hP.lt hP.le)
  replace hP := hP.alloc (.cells #[.int .i64 (1 - bitM x)] 3)
  have c_bT := bT.cells
  replace hl := hl.extL ((Ext.refl _).alloc (.cells #[.int .i64 (1 - bitM x)] 3)) hPo.lt
  clear hPo
  clear a0 a1 a2 a3 a4 a5 a6 e0 e1 e2 e3 e4 e5 e6 f0 f1 f2 f3 f4 f5 f6 g0 g1 g2 g3 g4 g5 g6
  rw [show kesT 1 x = (1 - bitM x) from rfl] at hO
  replace hP := hP.drew
  replace hK := hK.drew
  replace bT := bT.drew
  replace hl := hl.extL (Ext.refl _).drew hP.lt
  have hS : ∀ w', RegsAt [2, 3, 4] w' p b [q0, q1, r0, r1] → HeldP w' p w2.heap.size (.cells #[.int .i64 (1 - bitM x)] 3) → (w'.cell? ⟨b, 21, none⟩ = some (.int .i64 r1.kind) ∧ w'.cell? ⟨b, 22, none⟩ = some (.int .i64 r1.base) ∧ w'.cell? ⟨b, 23, none⟩ = some (.int .i64 r1.loc) ∧ w'.cell? ⟨b, 24, none⟩ = some (.int .i64 r1.n) ∧ w'.cell? ⟨b, 25, none⟩ = some (.int .i64 r1.wr) ∧ w'.cell? ⟨b, 26, none⟩ = some (.int .i64 r1.rd) ∧ w'.cell? ⟨b, 27, none⟩ = some (.int .i64 r1.top)) ∧ (∀ i, w'.cell? ⟨w2.heap.size, i, none⟩ = (#[.int .i64 (1 - bitM x)] : Array Value)[i]?) := fun w' h1 h2 => by
    obtain ⟨y0, y1, y2, y3, y4, y5, y6⟩ := h1.four.2.2.2
    exact ⟨⟨y0, y1, y2, y3, y4, y5, y6⟩, h2.cells⟩
  go_region_held2 (fun w' => (w'.cell? ⟨b, 21, none⟩ = some (.int .i64 r1.kind) ∧ w'.cell? ⟨b, 22, none⟩ = some (.int .i64 r1.base) ∧ w'.cell? ⟨b, 23, none⟩ = some (.int .i64 r1.loc) ∧ w'.cell? ⟨b, 24, none⟩ = some (.int .i64 r1.n) ∧ w'.cell? ⟨b, 25, none⟩ = some (.int .i64 r1.wr) ∧ w'.cell? ⟨b, 26, none⟩ = some (.int .i64 r1.rd) ∧ w'.cell? ⟨b, 27, none⟩ = some (.int .i64 r1.top)) ∧ (∀ i, w'.cell? ⟨w2.heap.size, i, none⟩ = (#[.int .i64 (1 - bitM x)] : Array Value)[i]?)) (exact hS _ hl bT)
    (first
      | (go_at_call 43
         refine tstepL hO hK (reg_write_p B p S r1 me (1 - bitM x) _ hP hr1 ⟨hm0, by omega⟩) (fun _ h => ⟨rfl, h⟩) ?_
         clear hO hK hP
         intro u S w3 hlf _ hP hk hK hO
         replace hN := Nat.lt_of_le_of_lt hlf hN
         replace hl := hl.keep hk
         replace bT := bT.keep hk
         clear hk hlf))
  rename_i hh
  clear hh c_bT
  generalize htx : (1 - bitM x) = t at *
  go_wp2_with fail
  go_loopw [] (fun wr => ∃ (n : Nat) (S1 : TS), Plays B wr p S1 ∧ KeepP B p w wr ∧ HeldP wr p w2.heap.size (.cells #[.int .i64 t] 3) ∧ RegsAt [2, 3, 4] wr p b [q0, q1, r0, r1] ∧ Hid (Owes R encU B p w ((kesSpin q0 r0 1 t me n).run S1)) ∧ S1.left < n) (fun wr => leftW 1 3 wr p)
  case atStart => exact ⟨N, S, hP, hK, bT, hl, hO, hN⟩
  case round =>
    clear hS hP hK bT hl hO hN
    obtain ⟨n, S1, hP, hK, bT, hl, hO, hN⟩ := hrel
    have hO := hO.out
    have hlw := Lib.hid hP.left
    cases n with
    | zero => omega
    | succ n =>
      unfold kesSpin at hO
      obtain ⟨⟨a0, a1, a2, a3, a4, a5, a6⟩, ⟨e0, e1, e2, e3, e4, e5, e6⟩, ⟨f0, f1, f2, f3, f4, f5, f6⟩, ⟨g0, g1, g2, g3, g4, g5, g6⟩⟩ := hl.four
      go_wp2_with fail
      refine tstepL hO hK (reg_read_p B p S1 q0 me _ hP hq0 ⟨hm0, by omega⟩) (fun _ h => ⟨rfl, h⟩) ?_
      clear hO hK hP
      intro v S2 w4 _ hlf hP hk hK hO
      replace hlf := hlf (asks_regR _ _ ht1)
      replace hl := hl.keep hk
      replace bT := bT.keep hk
      clear a0 a1 a2 a3 a4 a5 a6 e0 e1 e2 e3 e4 e5 e6 f0 f1 f2 f3 f4 f5 f6 g0 g1 g2 g3 g4 g5 g6 hk
      by_cases hv : v = 0
      · rw [if_pos hv] at hO
        subst hv
        have hf : R (.returned (encU ())) w4 := hO.done hP hK
        clear hO hP hK hl bT
        go_wp2_with fail
        first | exact hf | (refine bodyPost_ret (results_none rfl _ _ _) rfl ?_; exact hf)
      · rw [if_neg hv] at hO
        have hv2 : (v == 0) = false := by rw [beq_eq_false_iff_ne]; exact hv
        obtain ⟨⟨a0, a1, a2, a3, a4, a5, a6⟩, ⟨e0, e1, e2, e3, e4, e5, e6⟩, ⟨f0, f1, f2, f3, f4, f5, f6⟩, ⟨g0, g1, g2, g3, g4, g5, g6⟩⟩ := hl.four
        clear hv
        go_wp2_with fail
        refine tstepL hO hK (reg_read_p B p S2 r0 me _ hP hr0 ⟨hm0, by omega⟩) (fun _ h => ⟨rfl, h⟩) ?_
        clear hO hK hP
        intro y S3 w5 hlf2 _ hP hk hK hO
        replace hl := hl.keep hk
        replace bT := bT.keep hk
        clear a0 a1 a2 a3 a4 a5 a6 e0 e1 e2 e3 e4 e5 e6 f0 f1 f2 f3 f4 f5 f6 g0 g1 g2 g3 g4 g5 g6 hk
        have c_bT := bT.cells
        go_wp2_with fail
        refine (kbit_p y _).mono ?_
        rintro e w' ⟨rfl, rfl⟩
        go_wp2_with fail
        refine (kfree1_p (bitM y) t _ _ (c_bT 0)).mono ?_
        rintro e w' ⟨rfl, rfl⟩
        by_cases hy : kesFree 1 t y = true
        · rw [if_pos hy] at hO
          have hy2 : (bitM y == t) = true := by unfold kesFree at hy; simpa using hy
          have hf : R (.returned (encU ())) w5 := hO.done hP hK
          clear hO hP hK hl bT hy
          go_wp2_with fail
          first | exact hf | (refine bodyPost_ret (results_none rfl _ _ _) rfl ?_; exact hf)
        · rw [if_neg hy] at hO
          have hy2 : (bitM y == t) = false := by unfold kesFree at hy; simpa using hy
          obtain ⟨⟨a0, a1, a2, a3, a4, a5, a6⟩, ⟨e0, e1, e2, e3, e4, e5, e6⟩, ⟨f0, f1, f2, f3, f4, f5, f6⟩, ⟨g0, g1, g2, g3, g4, g5, g6⟩⟩ := hl.four
          clear hy c_bT
          go_wp2_with fail
          refine (cells_pm q0 me _ hq0 ht1 ⟨hm0, by omega⟩).mono ?_
          rintro e w6 ⟨cc, rfl, hcc, hx⟩
          replace hl := hl.extL hx hP.lt
          replace bT := bT.ext hx hP.lt
          replace hK := hK.trans (Keep.of_ext hx hP.lt hP.le)
          replace hP := hP.ext hx
          clear a0 a1 a2 a3 a4 a5 a6 e0 e1 e2 e3 e4 e5 e6 f0 f1 f2 f3 f4 f5 f6 g0 g1 g2 g3 g4 g5 g6 hx
          have hlw2 := Lib.hid hP.left
          have hOh := Lib.hid hO
          clear hO
          go_wp2_with fail
          refine ⟨⟨n, S3, hP, hK, bT, hl, hOh, by omega⟩, ?_⟩
          rw [hlw.out, hlw2.out]
          omega
end Go.Proofs.Ytpcohbpeglledaa
/-
  Kessels: leaving, by the program.
-/
namespace Go.Proofs.Ytpcohbpeglledaa
open Go.RowKit Kv
theorem kbit_p' (x : Int) (w : World) : Calls Try.prog 42 #[.int .i64 x] w fun e w' => e = .returned (.int .i64 (bitM x)) ∧ w = w' := by
  unfold bitM
  by_cases h : x = 0
  · rw [if_pos h]
    go_enter Try.func42, Try.ntmps42
    go_wp2_with fail
    go_ret
    exact ⟨rfl, rfl⟩
  · rw [if_neg h]
    have hb : (x != 0) = true := by rw [bne_iff_ne]; exact h
    go_enter Try.func42, Try.ntmps42
    go_wp2_with fail
    go_ret
    exact ⟨rfl, rfl⟩
theorem kes_leave_p (B p : Nat) (S : TS) (q0 q1 r0 r1 : Reg) (side me : Int) (b c : Nat) (w : World) (h : Plays B w p S) (hl : RegsAt [2, 3, 4] w p b [q0, q1, r0, r1]) (hq0 : q0.ok) (hq1 : q1.ok)
    (hm0 : 0 ≤ me) (hm1 : me < q0.n) (hm2 : me < q1.n) :
    Calls Try.prog 16 #[.pointer (some ⟨p, 0, none⟩), .slice (some ⟨b, 0, none⟩) 4 c, .int .i64 side, .int .i64 me] w (Post encU B p w ((regW (if bitM side = 1 then q1 else q0) me 0).run S)) := by
  have hb := kbit_p' side w
  obtain ⟨⟨a0, a1, a2, a3, a4, a5, a6⟩, ⟨e0, e1, e2, e3, e4, e5, e6⟩, -, -⟩ := hl.four
  have hs : bitM side = 0 ∨ bitM side = 1 := by unfold bitM; split <;> simp
  rcases hs with hs | hs
  · rw [hs] at hb ⊢
    rw [if_neg (by omega)]
    generalize hR : Post encU B p w ((regW q0 me 0).run S) = R
    have hO : Owes R encU B p w ((regW q0 me 0).run S) := hR ▸ owes _ _ _ _ _
    clear hR
    go_enter Try.func16, Try.ntmps16
    go_wp2_with fail
    refine hb.mono ?_
    rintro e w' ⟨rfl, rfl⟩
    go_wp2_with fail
    clear a0 a1 a2 a3 a4 a5 a6 e0 e1 e2 e3 e4 e5 e6 hl hb
    refine tlast hO (Keep.refl _ _ _ _) (reg_write_p B p S q0 me 0 _ h hq0 ⟨hm0, hm1⟩) (fun _ h => ⟨rfl, h⟩) ?_
    intro v S1 w1 hr hP1 hk1 hK1 hO1
    have hf := hO1.done hP1 hK1
    clear hO1 hP1 hK1 hr hk1 hO h
    go_wp2_with fail
    first | exact hf | (refine bodyPost_ret (results_none rfl _ _ _) rfl ?_; exact hf)
  · rw [hs] at hb ⊢
    rw [if_pos rfl]
    generalize hR : Post encU B p w ((regW q1 me 0).run S) = R
    have hO : Owes R encU B p w ((regW q1 me 0).run S) := hR ▸ owes _ _ _ _ _
    clear hR
    go_enter Try.func16, Try.ntmps16
    go_wp2_with fail
    refine hb.mono ?_
    rintro e w' ⟨rfl, rfl⟩
    go_wp2_with fail
    clear a0 a1 a2 a3 a4 a5 a6 e0 e1 e2 e3 e4 e5 e6 hl hb
    refine tlast hO (Keep.refl _ _ _ _) (reg_write_p B p S q1 me 0 _ h hq1 ⟨hm0, hm2⟩) (fun _ h => ⟨rfl, h⟩) ?_
    intro v S1 w1 hr hP1 hk1 hK1 hO1
    have hf := hO1.done hP1 hK1
    clear hO1 hP1 hK1 hr hk1 hO h
    go_wp2_with fail
    first | exact hf | (refine bodyPost_ret (results_none rfl _ _ _) rfl ?_; exact hf)
end Go.Proofs.Ytpcohbpeglledaa
/-
  Kessels: entering, by the document.
-/
namespace Go.Proofs.Ytpcohbpeglledaa
open Go.RowKit Kv
end Go.Proofs.Ytpcohbpeglledaa
/-
  Kessels: entering and leaving, both sides.
-/
namespace Kv
/-- Entering on a side, and leaving. -/
def kesM (n : Nat) (q0 q1 r0 r1 : Reg) (side me : Int) : Prog Unit := if bitM side = 1 then kesEnter n q1 q0 r1 r0 1 me else kesEnter n q0 q1 r0 r1 0 me
def kesL (q0 q1 : Reg) (side me : Int) : Prog Unit := regW (if bitM side = 1 then q1 else q0) me 0
theorem bitM_or (x : Int) : bitM x = 0 ∨ bitM x = 1 := by unfold bitM; split <;> simp
end Kv
namespace Go.Proofs.Ytpcohbpeglledaa
open Go.RowKit Kv
theorem kes_enter_p (B p N : Nat) (S : TS) (q0 q1 r0 r1 : Reg) (side me : Int) (b c : Nat) (w : World) (h : Plays B w p S) (hl : RegsAt [2, 3, 4] w p b [q0, q1, r0, r1]) (hq0 : q0.ok) (hq1 : q1.ok) (hr0 : r0.ok) (hr1 : r1.ok)
    (hm0 : 0 ≤ me) (hm1 : me < q0.n) (hm2 : me < q1.n) (hm3 : me < r0.n) (hm4 : me < r1.n) (ht1 : q0.told me) (ht2 : q1.told me) (ht3 : r0.told me) (ht4 : r1.told me) (hN : S.left < N) (hc4 : 4 ≤ c) (hc5 : c ≤ 9223372036854775807) :
    Calls Try.prog 14 #[.pointer (some ⟨p, 0, none⟩), .slice (some ⟨b, 0, none⟩) 4 c, .int .i64 side, .int .i64 me] w (Post encU B p w ((kesM N q0 q1 r0 r1 side me).run S)) := by
  unfold kesM
  rcases bitM_or side with hs | hs
  · rw [if_neg (by omega)]
    exact kes_enter_p0 B p N S q0 q1 r0 r1 side me b c w h hl hq0 hq1 hr0 hr1 hm0 hm1 hm2 hm3 hm4 ht2 ht4 hN hs hc4 hc5
  · rw [if_pos hs]
    exact kes_enter_p1 B p N S q0 q1 r0 r1 side me b c w h hl hq0 hq1 hr0 hr1 hm0 hm1 hm2 hm3 hm4 ht1 ht3 hN hs hc4 hc5
end Go.Proofs.Ytpcohbpeglledaa
/-
  The splitter: passing it, by the program.
-/
namespace Go.Proofs.Ytpcohbpeglledaa
open Go.RowKit Kv
theorem RegsAt.ext {ix : List Nat} {p b : Nat} {w w' : World} {l : List Reg} (h : RegsAt ix w p b l) (hx : Ext w w') (hp : p < w.heap.size) : RegsAt ix w' p b l := h.keep (B := 0) (Keep.of_ext hx hp (Nat.zero_le _))
theorem two_boxes {B p : Nat} {w : World} {S : TS} (h : Plays B w p S) (o1 o2 : Obj) :
    HeldP ((w.alloc o1).alloc o2).drew p w.heap.size o1 ∧ HeldP ((w.alloc o1).alloc o2).drew p (w.heap.size + 1) o2 ∧ Plays B ((w.alloc o1).alloc o2).drew p S ∧ KeepP B p w ((w.alloc o1).alloc o2).drew := by
  have h2 := (h.alloc o1).held o2
  rw [World.size_alloc] at h2
  exact ⟨((h.held o1).alloc o2 (h.alloc o1).lt).drew, h2.drew, ((h.alloc o1).alloc o2).drew, ((Keep.alloc o1 h.lt h.le).trans (Keep.alloc o2 (h.alloc o1).lt (h.alloc o1).le)).drew⟩
end Go.Proofs.Ytpcohbpeglledaa
/-
  The splitter: what any thread does that passes it is the document's, access by access.
-/
namespace Go.Proofs.Ytpcohbpeglledaa
open Go.RowKit Kv
/-- Registers that lay there ahead of a play. -/
theorem regsP {w0 w1 : World} {B p b : Nat} {S : TS} {rs : List Reg} (hb : b < w0.heap.size) (hc : ∀ (i : Nat) u, (rs.flatMap regVals)[i]? = some u → w0.cell? ⟨b, i, none⟩ = some u) (hx : Ext w0 w1) (hP : Plays B w1 p S) (hB : w0.heap.size ≤ B) : RegsAt [2, 3, 4] w1 p b rs := by
  refine ⟨Nat.lt_of_lt_of_le hb hx.size, fun ho => ?_, fun j u hu => (hx.cell (p := ⟨b, j, none⟩) hb).trans (hc j u hu)⟩
  obtain ⟨_, _, _, _, _, _, h⟩ := hP
  have := (h.own ho).1
  omega
theorem ints_new (w : World) (l : List Int) (h : l.length ≤ 9223372036854775807) : Ints (w.alloc (.cells (l.map (Value.int .i64)).toArray 3)) (.slice (some ⟨w.heap.size, 0, none⟩) l.length l.length) l := by
  refine ⟨_, _, rfl, Nat.le_refl _, h, fun _ => ⟨w.heap.size, 0, rfl, by simp, fun i x hi => ?_⟩⟩
  have hh := World.alloc_heap_new w (.cells (l.map (Value.int .i64)).toArray 3)
  simp only [World.cell?, hh, Nat.zero_add]
  simp [hi]
/-- An Out's parts. -/
theorem Outs.parts {w : World} {v : Value} {d : Bool} {S : TS} (h : Outs w v d S) : ∃ A c A' c' As k n, v = .agg #[.bool d, .slice A S.acc.length c, .slice A' S.nts.length c', .slice As n k] := by
  obtain ⟨A, c, A', c', vs, L, rfl, hO⟩ := h
  obtain ⟨As, k, rfl, _, _⟩ := hO.locs.slice
  exact ⟨A, c, A', c', As, k, _, rfl⟩
def ra : Reg := ⟨1, 3, 2, 3, -1, -1, 3⟩
def rb : Reg := ⟨1, 4, 2, 3, -1, -1, 1⟩
end Go.Proofs.Ytpcohbpeglledaa
/-
  Kessels: what the law plays.
-/
namespace Go.Proofs.Ytpcohbpeglledaa
open Go.RowKit Kv
theorem kwants_p (w : World) : Calls Try.prog 11 #[] w fun e w' => ∃ v, e = .returned v ∧ WantsAt w' v (List.replicate 4 ⟨-1, 1⟩) ∧ Ext w w' := by
  go_enter Try.func11, Try.ntmps11
  go_wp2_with fail
  go_loopw [1, 2] (fun v i wr => ∃ j : Nat, i = .int .i64 j ∧ j ≤ 4 ∧ wr.ownsRow w.heap.size 59 2 v j ((List.replicate j (⟨-1, 1⟩ : Want)).flatMap wantVals) ∧ Ext w wr) (fun _ i _ => 4 - (intOf i).toNat)
  case atStart => exact ⟨0, rfl, by omega, World.ownsRow_nil _ _ _ _, Ext.refl _⟩
  case round =>
    obtain ⟨j, rfl, hj, hown, hE⟩ := hrel
    by_cases hl : j < 4
    · go_wp2_with (at_builtin; refine append_rec info_want Try.underlying27 rfl (by decide) (by decide) rfl _ _ rfl _ j _ [.int .i64 (-1), .int .i64 1] hE hown rfl rfl rfl (by simp [Value.oneCell']) (by omega) ?_)
      intro v' w' ho hx _
      have hoh := Lib.hid ho
      clear hown ho
      go_wp2_with fail
      refine ⟨⟨j + 1, by go_num, by omega, ?_, hx⟩, ?_⟩
      · rw [List.replicate_succ', List.flatMap_append]; exact hoh.out
      · simp [intOf]; omega
    · obtain rfl : j = 4 := by omega
      have hownh := Lib.hid hown
      clear hown
      go_wp2_with fail
      go_ret
      exact ⟨_, rfl, Recs.of_row hownh.out, hE⟩
end Go.Proofs.Ytpcohbpeglledaa
/-
  Kessels: the chapter's example.
-/
namespace Go.Proofs.Ytpcohbpeglledaa
open Go.RowKit Kv
theorem kal1 (B p N : Nat) (S : TS) (q0 q1 r0 r1 : Reg) (b c bl : Nat) (w : World) (h : Plays B w p S) (hl : RegsAt [2, 3, 4] w p b [q0, q1, r0, r1]) (hq0 : q0.ok) (hq1 : q1.ok) (hr0 : r0.ok) (hr1 : r1.ok)
    (hm1 : 0 < q0.n) (hm2 : 0 < q1.n) (hm3 : 0 < r0.n) (hm4 : 0 < r1.n) (ht1 : q0.told 0) (ht2 : q1.told 0) (ht3 : r0.told 0) (ht4 : r1.told 0) (hN : S.left < N) (hc4 : 4 ≤ c) (hc5 : c ≤ 9223372036854775807)
    (c1 : w.cell? ⟨bl, 0, none⟩ = some (.slice (some ⟨b, 0, none⟩) 4 c)) :
    Calls Try.prog 34 #[.pointer (some ⟨p, 0, none⟩), .pointer (some ⟨bl, 0, none⟩)] w (Post encI B p w (((kesM N q0 q1 r0 r1 1 0).bind fun _ => .ret 0).run S)) := by
  generalize hR : Post encI B p w (((kesM N q0 q1 r0 r1 1 0).bind fun _ => .ret 0).run S) = R
  have hO : Owes R encI B p w (((kesM N q0 q1 r0 r1 1 0).bind fun _ => .ret 0).run S) := hR ▸ owes _ _ _ _ _
  clear hR
  have hK := Keep.refl [2, 3, 4] B p w
  go_enter Try.func34, Try.ntmps34
  go_wp2_with fail
  clear c1
  refine tstep hO hK (kes_enter_p B p N S q0 q1 r0 r1 1 0 b c w h hl hq0 hq1 hr0 hr1 (by omega) hm1 hm2 hm3 hm4 ht1 ht2 ht3 ht4 hN hc4 hc5) (fun _ h => ⟨rfl, h⟩) ?_
  intro v S1 w1 hr hP1 hk1 hK1 hO1
  have hf := hO1.done (v := (0 : Int)) hP1 hK1
  clear hO1 hP1 hK1 hr hk1 hO h hl hK
  go_wp2_with fail
  first | exact hf | (go_ret; exact hf)
theorem kal2 (B p N : Nat) (S : TS) (q0 q1 r0 r1 : Reg) (b c bl : Nat) (w : World) (h : Plays B w p S) (hl : RegsAt [2, 3, 4] w p b [q0, q1, r0, r1]) (hq0 : q0.ok) (hq1 : q1.ok) (hr0 : r0.ok) (hr1 : r1.ok)
    (hm1 : 0 < q0.n) (hm2 : 0 < q1.n) (hm3 : 0 < r0.n) (hm4 : 0 < r1.n) (ht1 : q0.told 0) (ht2 : q1.told 0) (ht3 : r0.told 0) (ht4 : r1.told 0) (hN : S.left < N) (hc4 : 4 ≤ c) (hc5 : c ≤ 9223372036854775807)
    (c1 : w.cell? ⟨bl, 0, none⟩ = some (.slice (some ⟨b, 0, none⟩) 4 c)) :
    Calls Try.prog 35 #[.pointer (some ⟨p, 0, none⟩), .pointer (some ⟨bl, 0, none⟩)] w (Post encI B p w (((kesM N q0 q1 r0 r1 0 0).bind fun _ => .ret 0).run S)) := by
  generalize hR : Post encI B p w (((kesM N q0 q1 r0 r1 0 0).bind fun _ => .ret 0).run S) = R
  have hO : Owes R encI B p w (((kesM N q0 q1 r0 r1 0 0).bind fun _ => .ret 0).run S) := hR ▸ owes _ _ _ _ _
  clear hR
  have hK := Keep.refl [2, 3, 4] B p w
  go_enter Try.func35, Try.ntmps35
  go_wp2_with fail
  clear c1
  refine tstep hO hK (kes_enter_p B p N S q0 q1 r0 r1 0 0 b c w h hl hq0 hq1 hr0 hr1 (by omega) hm1 hm2 hm3 hm4 ht1 ht2 ht3 ht4 hN hc4 hc5) (fun _ h => ⟨rfl, h⟩) ?_
  intro v S1 w1 hr hP1 hk1 hK1 hO1
  have hf := hO1.done (v := (0 : Int)) hP1 hK1
  clear hO1 hP1 hK1 hr hk1 hO h hl hK
  go_wp2_with fail
  first | exact hf | (go_ret; exact hf)
theorem kal3 (B p : Nat) (S : TS) (q0 q1 r0 r1 : Reg) (b c bl : Nat) (w : World) (h : Plays B w p S) (hl : RegsAt [2, 3, 4] w p b [q0, q1, r0, r1]) (hq0 : q0.ok) (hq1 : q1.ok)
    (hm1 : 0 < q0.n) (hm2 : 0 < q1.n)
    (c1 : w.cell? ⟨bl, 0, none⟩ = some (.slice (some ⟨b, 0, none⟩) 4 c)) :
    Calls Try.prog 36 #[.pointer (some ⟨p, 0, none⟩), .pointer (some ⟨bl, 0, none⟩)] w (Post encI B p w (((kesL q0 q1 0 0).bind fun _ => .ret 0).run S)) := by
  generalize hR : Post encI B p w (((kesL q0 q1 0 0).bind fun _ => .ret 0).run S) = R
  have hO : Owes R encI B p w (((kesL q0 q1 0 0).bind fun _ => .ret 0).run S) := hR ▸ owes _ _ _ _ _
  clear hR
  have hK := Keep.refl [2, 3, 4] B p w
  go_enter Try.func36, Try.ntmps36
  go_wp2_with fail
  clear c1
  refine tstep hO hK (kes_leave_p B p S q0 q1 r0 r1 0 0 b c w h hl hq0 hq1 (by omega) hm1 hm2) (fun _ h => ⟨rfl, h⟩) ?_
  intro v S1 w1 hr hP1 hk1 hK1 hO1
  have hf := hO1.done (v := (0 : Int)) hP1 hK1
  clear hO1 hP1 hK1 hr hk1 hO h hl hK
  go_wp2_with fail
  first | exact hf | (go_ret; exact hf)
def kr0 : Reg := ⟨1, 3, 2, 2, -1, -1, 1⟩
def kr1 : Reg := ⟨1, 4, 2, 2, -1, -1, 1⟩
def kr2 : Reg := ⟨1, 5, 2, 2, -1, -1, 1⟩
def kr3 : Reg := ⟨1, 6, 2, 2, -1, -1, 1⟩
set_option maxRecDepth 100000 in
set_option maxHeartbeats 1000000 in
theorem alive29 (w : World) : Calls Try.prog 8 #[] w fun e w' => e = .returned (.bool true) ∧ Ext w w' := by
  have hlay : layM (List.replicate 4 ⟨-1, 1⟩) 2 1 3 2 = some [kr0, kr1, kr2, kr3] := by rfl
  have h0 : kr0.ok := ⟨.inl rfl, by decide, by decide, by decide, fun h => by cases h⟩
  have h1 : kr1.ok := ⟨.inl rfl, by decide, by decide, by decide, fun h => by cases h⟩
  have h2 : kr2.ok := ⟨.inl rfl, by decide, by decide, by decide, fun h => by cases h⟩
  have h3 : kr3.ok := ⟨.inl rfl, by decide, by decide, by decide, fun h => by cases h⟩
  have hmf : ∀ (fn : Fn) (first cap : Array Value) (w : World), (Instr.makeFunc fn first cap).run Try.prog w = .ok (.func fn first cap) w := fun _ _ _ _ => rfl
  go_enter Try.func8, Try.ntmps8
  go_wp2_with fail
  refine (kwants_p w).mono ?_
  rintro e w1 ⟨v1, rfl, hW, hX⟩
  have hSm := some_r v1 _ 2 1 w1 hW (by simp)
  rw [hlay] at hSm
  obtain ⟨Aw, cw, rfl, _, _, _⟩ := hW
  clear hlay
  go_wp2_with fail
  refine hSm.mono ?_
  rintro e w2 ⟨v2, rfl, hx2, hrow⟩
  replace hX := hX.trans hx2
  obtain ⟨Ar, cr, rfl, r1, r2, hV⟩ := Recs.of_row hrow
  clear hSm hrow hx2
  obtain ⟨b, rfl, hb, hc⟩ := hV (by simp [regVals])
  simp only [Option.getD_some, List.length_cons, List.length_nil] at *
  have x1 := Ext.refl w2
  go_wp2_with fail
  have n1 := Blk.new w2 (.cells #[.slice (some ⟨b, 0, none⟩) 4 cr] 25)
  have hA := ints_new (World.alloc w2 (.cells #[.slice (some ⟨b, 0, none⟩) 4 cr] 25)) [0, 0, 0, 0] (by simp)
  replace n1 := n1.alloc (.cells (([0, 0, 0, 0] : List Int).map (Value.int .i64)).toArray 3)
  replace x1 := (x1.alloc (.cells #[.slice (some ⟨b, 0, none⟩) 4 cr] 25)).alloc (.cells (([0, 0, 0, 0] : List Int).map (Value.int .i64)).toArray 3)
  simp only [World.size_alloc, List.map_cons, List.map_nil, List.length_cons, List.length_nil] at hA n1 x1 
  have hsz : w2.heap.size + 1 < (World.alloc (World.alloc w2 (.cells #[.slice (some ⟨b, 0, none⟩) 4 cr] 25)) (.cells #[.int .i64 0, .int .i64 0, .int .i64 0, .int .i64 0] 3)).heap.size := by simp
  generalize World.alloc (World.alloc w2 _) _ = V1 at *
  refine (play_int 34 #[.pointer (some ⟨w2.heap.size, 0, none⟩)] ((kesM 5 kr0 kr1 kr2 kr3 1 0).bind fun _ => Prog.ret (0 : Int)) none 0 [] (some ⟨w2.heap.size + 1, 0, none⟩) 4 [0, 0, 0, 0] V1 (Ints.nil _) (by simp) hA (by decide) (fun k hk => by simp only [Value.ownBlock, Option.some.injEq] at hk; omega) (fun _ _ => rfl) (fun W p hxW hP => ?_)).mono ?_
  · exact kal1 _ p 5 _ kr0 kr1 kr2 kr3 b cr w2.heap.size W hP (regsP hb hc (x1.trans hxW) hP x1.size) h0 h1 h2 h3 (by decide) (by decide) (by decide) (by decide) (.inl rfl) (.inl rfl) (.inl rfl) (.inl rfl) (by decide) r1 r2 ((n1.ext hxW).cells 0)
  rintro e y1 ⟨v1, rfl, hO, hx1⟩
  have e1 : (((kesM 5 kr0 kr1 kr2 kr3 1 0).bind fun _ => Prog.ret (0 : Int)).run (TS0 [] [0, 0, 0, 0])).1 = some 0 := by rfl
  have e2 : (((kesM 5 kr0 kr1 kr2 kr3 1 0).bind fun _ => Prog.ret (0 : Int)).run (TS0 [] [0, 0, 0, 0])).2.acc.length = 4 := by rfl
  have e3 : (((kesM 5 kr0 kr1 kr2 kr3 1 0).bind fun _ => Prog.ret (0 : Int)).run (TS0 [] [0, 0, 0, 0])).2.acc[2]? = some ⟨2, 6, 1⟩ := by rfl
  rw [e1] at hO ⊢
  generalize (((kesM 5 kr0 kr1 kr2 kr3 1 0).bind fun _ => Prog.ret (0 : Int)).run (TS0 [] [0, 0, 0, 0])).2 = S1 at *
  obtain ⟨A1, c1, A1', c1', vs1, L1, rfl, hO⟩ := hO
  obtain ⟨As1, k1, hvs1, _, _⟩ := hO.locs.slice
  subst hvs1
  obtain ⟨u1, rfl, hu1, z10, z11, z12⟩ := hO.accs.at_ e3
  simp only [Nat.reduceMul, Nat.reduceAdd] at z10 z11 z12
  unfold outV
  rw [e2] at *
  simp only [Option.getD_some, Option.isSome_some]
  replace n1 := n1.ext hx1
  have s1 := Ext.refl y1
  replace x1 := x1.trans hx1
  clear e1 e2 e3 hO hA hsz hx1 hmf
  have hmf : ∀ (fn : Fn) (first cap : Array Value) (w : World), (Instr.makeFunc fn first cap).run Try.prog w = .ok (.func fn first cap) w := fun _ _ _ _ => rfl
  go_wp2_with fail
  have n2 := Blk.new y1 (.cells #[.bool true, .slice (some ⟨u1, 0, none⟩) 4 c1, .slice A1' S1.nts.length c1', .slice As1 (shortL L1).length k1] 32)
  have hA := ints_new (World.alloc y1 (.cells #[.bool true, .slice (some ⟨u1, 0, none⟩) 4 c1, .slice A1' S1.nts.length c1', .slice As1 (shortL L1).length k1] 32)) [0, 1, 0, 1, 1, 1, 0] (by simp)
  replace n1 := (n1.alloc (.cells #[.bool true, .slice (some ⟨u1, 0, none⟩) 4 c1, .slice A1' S1.nts.length c1', .slice As1 (shortL L1).length k1] 32)).alloc (.cells (([0, 1, 0, 1, 1, 1, 0] : List Int).map (Value.int .i64)).toArray 3)
  replace s1 := (s1.alloc (.cells #[.bool true, .slice (some ⟨u1, 0, none⟩) 4 c1, .slice A1' S1.nts.length c1', .slice As1 (shortL L1).length k1] 32)).alloc (.cells (([0, 1, 0, 1, 1, 1, 0] : List Int).map (Value.int .i64)).toArray 3)
  replace n2 := n2.alloc (.cells (([0, 1, 0, 1, 1, 1, 0] : List Int).map (Value.int .i64)).toArray 3)
  replace x1 := (x1.alloc (.cells #[.bool true, .slice (some ⟨u1, 0, none⟩) 4 c1, .slice A1' S1.nts.length c1', .slice As1 (shortL L1).length k1] 32)).alloc (.cells (([0, 1, 0, 1, 1, 1, 0] : List Int).map (Value.int .i64)).toArray 3)
  simp only [World.size_alloc, List.map_cons, List.map_nil, List.length_cons, List.length_nil] at hA n2 x1 n1 s1
  have hsz : y1.heap.size + 1 < (World.alloc (World.alloc y1 (.cells #[.bool true, .slice (some ⟨u1, 0, none⟩) 4 c1, .slice A1' S1.nts.length c1', .slice As1 (shortL L1).length k1] 32)) (.cells #[.int .i64 0, .int .i64 1, .int .i64 0, .int .i64 1, .int .i64 1, .int .i64 1, .int .i64 0] 3)).heap.size := by simp
  generalize World.alloc (World.alloc y1 _) _ = V2 at *
  refine (play_int 35 #[.pointer (some ⟨w2.heap.size, 0, none⟩)] ((kesM 8 kr0 kr1 kr2 kr3 0 0).bind fun _ => Prog.ret (0 : Int)) none 0 [] (some ⟨y1.heap.size + 1, 0, none⟩) 7 [0, 1, 0, 1, 1, 1, 0] V2 (Ints.nil _) (by simp) hA (by decide) (fun k hk => by simp only [Value.ownBlock, Option.some.injEq] at hk; omega) (fun _ _ => rfl) (fun W p hxW hP => ?_)).mono ?_
  · exact kal2 _ p 8 _ kr0 kr1 kr2 kr3 b cr w2.heap.size W hP (regsP hb hc (x1.trans hxW) hP x1.size) h0 h1 h2 h3 (by decide) (by decide) (by decide) (by decide) (.inl rfl) (.inl rfl) (.inl rfl) (.inl rfl) (by decide) r1 r2 ((n1.ext hxW).cells 0)
  rintro e y2 ⟨v2, rfl, hO, hx2⟩
  have e1 : (((kesM 8 kr0 kr1 kr2 kr3 0 0).bind fun _ => Prog.ret (0 : Int)).run (TS0 [] [0, 1, 0, 1, 1, 1, 0])).1 = some 0 := by rfl
  have e2 : (((kesM 8 kr0 kr1 kr2 kr3 0 0).bind fun _ => Prog.ret (0 : Int)).run (TS0 [] [0, 1, 0, 1, 1, 1, 0])).2.acc.length = 7 := by rfl
  rw [e1] at hO ⊢
  generalize (((kesM 8 kr0 kr1 kr2 kr3 0 0).bind fun _ => Prog.ret (0 : Int)).run (TS0 [] [0, 1, 0, 1, 1, 1, 0])).2 = S2 at *
  obtain ⟨A2, c2, A2', c2', vs2, L2, rfl, hO⟩ := hO
  obtain ⟨As2, k2, hvs2, _, _⟩ := hO.locs.slice
  subst hvs2
  unfold outV
  rw [e2] at *
  simp only [Option.getD_some, Option.isSome_some]
  replace n1 := n1.ext hx2
  replace n2 := n2.ext hx2
  replace s1 := s1.trans hx2
  have s2 := Ext.refl y2
  replace x1 := x1.trans hx2
  clear e1 e2  hO hA hsz hx2 hmf
  have hmf : ∀ (fn : Fn) (first cap : Array Value) (w : World), (Instr.makeFunc fn first cap).run Try.prog w = .ok (.func fn first cap) w := fun _ _ _ _ => rfl
  go_wp2_with fail
  have n3 := Blk.new y2 (.cells #[.bool true, .slice A2 7 c2, .slice A2' S2.nts.length c2', .slice As2 (shortL L2).length k2] 32)
  have hA := ints_new (World.alloc y2 (.cells #[.bool true, .slice A2 7 c2, .slice A2' S2.nts.length c2', .slice As2 (shortL L2).length k2] 32)) [0] (by simp)
  replace n1 := (n1.alloc (.cells #[.bool true, .slice A2 7 c2, .slice A2' S2.nts.length c2', .slice As2 (shortL L2).length k2] 32)).alloc (.cells (([0] : List Int).map (Value.int .i64)).toArray 3)
  replace n2 := (n2.alloc (.cells #[.bool true, .slice A2 7 c2, .slice A2' S2.nts.length c2', .slice As2 (shortL L2).length k2] 32)).alloc (.cells (([0] : List Int).map (Value.int .i64)).toArray 3)
  replace s1 := (s1.alloc (.cells #[.bool true, .slice A2 7 c2, .slice A2' S2.nts.length c2', .slice As2 (shortL L2).length k2] 32)).alloc (.cells (([0] : List Int).map (Value.int .i64)).toArray 3)
  replace s2 := (s2.alloc (.cells #[.bool true, .slice A2 7 c2, .slice A2' S2.nts.length c2', .slice As2 (shortL L2).length k2] 32)).alloc (.cells (([0] : List Int).map (Value.int .i64)).toArray 3)
  replace n3 := n3.alloc (.cells (([0] : List Int).map (Value.int .i64)).toArray 3)
  replace x1 := (x1.alloc (.cells #[.bool true, .slice A2 7 c2, .slice A2' S2.nts.length c2', .slice As2 (shortL L2).length k2] 32)).alloc (.cells (([0] : List Int).map (Value.int .i64)).toArray 3)
  simp only [World.size_alloc, List.map_cons, List.map_nil, List.length_cons, List.length_nil] at hA n3 x1 n1 n2 s1 s2
  have hsz : y2.heap.size + 1 < (World.alloc (World.alloc y2 (.cells #[.bool true, .slice A2 7 c2, .slice A2' S2.nts.length c2', .slice As2 (shortL L2).length k2] 32)) (.cells #[.int .i64 0] 3)).heap.size := by simp
  generalize World.alloc (World.alloc y2 _) _ = V3 at *
  refine (play_int 36 #[.pointer (some ⟨w2.heap.size, 0, none⟩)] ((kesL kr0 kr1 0 0).bind fun _ => Prog.ret (0 : Int)) none 0 [] (some ⟨y2.heap.size + 1, 0, none⟩) 1 [0] V3 (Ints.nil _) (by simp) hA (by decide) (fun k hk => by simp only [Value.ownBlock, Option.some.injEq] at hk; omega) (fun _ _ => rfl) (fun W p hxW hP => ?_)).mono ?_
  · exact kal3 _ p _ kr0 kr1 kr2 kr3 b cr w2.heap.size W hP (regsP hb hc (x1.trans hxW) hP x1.size) h0 h1 (by decide) (by decide) ((n1.ext hxW).cells 0)
  rintro e y3 ⟨v3, rfl, hO, hx3⟩
  have e1 : (((kesL kr0 kr1 0 0).bind fun _ => Prog.ret (0 : Int)).run (TS0 [] [0])).1 = some 0 := by rfl
  have e2 : (((kesL kr0 kr1 0 0).bind fun _ => Prog.ret (0 : Int)).run (TS0 [] [0])).2.acc.length = 1 := by rfl
  have e3 : (((kesL kr0 kr1 0 0).bind fun _ => Prog.ret (0 : Int)).run (TS0 [] [0])).2.acc[0]? = some ⟨2, 3, 0⟩ := by rfl
  rw [e1] at hO ⊢
  generalize (((kesL kr0 kr1 0 0).bind fun _ => Prog.ret (0 : Int)).run (TS0 [] [0])).2 = S3 at *
  obtain ⟨A3, c3, A3', c3', vs3, L3, rfl, hO⟩ := hO
  obtain ⟨As3, k3, hvs3, _, _⟩ := hO.locs.slice
  subst hvs3
  obtain ⟨u3, rfl, hu3, z30, z31, z32⟩ := hO.accs.at_ e3
  simp only [Nat.zero_mul, Nat.zero_add] at z30 z31 z32
  unfold outV
  rw [e2] at *
  simp only [Option.getD_some, Option.isSome_some]
  replace n1 := n1.ext hx3
  replace n2 := n2.ext hx3
  replace n3 := n3.ext hx3
  replace s1 := s1.trans hx3
  replace s2 := s2.trans hx3
  have s3 := Ext.refl y3
  replace x1 := x1.trans hx3
  clear e1 e2 e3 hO hA hsz hx3 hmf
  have hmf : ∀ (fn : Fn) (first cap : Array Value) (w : World), (Instr.makeFunc fn first cap).run Try.prog w = .ok (.func fn first cap) w := fun _ _ _ _ => rfl
  
  have o1 := (n2.alloc (.cells #[.bool true, .slice (some ⟨u3, 0, none⟩) 1 c3, .slice A3' S3.nts.length c3', .slice As3 (shortL L3).length k3] 32)).cells
  have o2 := (n3.alloc (.cells #[.bool true, .slice (some ⟨u3, 0, none⟩) 1 c3, .slice A3' S3.nts.length c3', .slice As3 (shortL L3).length k3] 32)).cells
  have t1 := s1.alloc (.cells #[.bool true, .slice (some ⟨u3, 0, none⟩) 1 c3, .slice A3' S3.nts.length c3', .slice As3 (shortL L3).length k3] 32)
  have t3 := s3.alloc (.cells #[.bool true, .slice (some ⟨u3, 0, none⟩) 1 c3, .slice A3' S3.nts.length c3', .slice As3 (shortL L3).length k3] 32)
  replace z10 := (t1.cell (p := ⟨u1, 6, none⟩) hu1).trans z10
  replace z11 := (t1.cell (p := ⟨u1, 7, none⟩) hu1).trans z11
  replace z12 := (t1.cell (p := ⟨u1, 8, none⟩) hu1).trans z12
  replace z30 := (t3.cell (p := ⟨u3, 0, none⟩) hu3).trans z30
  replace z31 := (t3.cell (p := ⟨u3, 1, none⟩) hu3).trans z31
  replace z32 := (t3.cell (p := ⟨u3, 2, none⟩) hu3).trans z32
  have hfin := Lib.hid (hX.trans (x1.alloc (.cells #[.bool true, .slice (some ⟨u3, 0, none⟩) 1 c3, .slice A3' S3.nts.length c3', .slice As3 (shortL L3).length k3] 32)))
  clear t1 t3 s1 s2 s3 n1 n2 n3
  go_wp2_with fail
  go_ret
  exact ⟨rfl, hfin.out⟩
end Go.Proofs.Ytpcohbpeglledaa
/-
  make([]int, n): a row of noughts.
-/
namespace Kv
/-- So many noughts. -/
def zeros (n : Nat) : List Int := List.replicate n 0
end Kv
namespace Go.Proofs.Ytpcohbpeglledaa
open Go.RowKit Kv
theorem make_ints (l : Int) (k : Nat) (hl : l = k) (hk : k ≤ 100000) (w : World) :
    (Instr.makeSlice 22 (.int .i64 l) (.int .i64 l)).run Try.prog w = .ok (.slice (some ⟨w.heap.size, 0, none⟩) k k) (w.alloc (.cells ((zeros k).map (Value.int .i64)).toArray 3)) := by
  subst hl
  obtain ⟨i0, hi, hz0, hz1, hz2⟩ := info_parts info_int
  have hr := run_makeSlice (P := Try.prog) w 22 3 i0 (.int .i64 0) Try.underlying22 hi hz0 .i64 .i64 k k (by omega) (by omega) (by rw [hz1]; simp; omega) (by rw [hz2]; omega) (by omega)
  rw [Int.toNat_natCast, hz1, Nat.mul_one] at hr
  have he : madeCells (Value.int .i64 0).cells k = ((zeros k).map (Value.int .i64)).toArray := by
    unfold zeros madeCells
    apply Array.ext'
    rw [List.map_replicate]
    apply List.ext_getElem?
    intro j
    by_cases hj : j < k
    · simp [hj, Nat.mod_one, Value.cells]
    · simp [hj]
  rw [hr, he]
end Go.Proofs.Ytpcohbpeglledaa
/-
  KesselsAlone: whoever is alone is in; a side writes its own registers alone.
-/
namespace Kv
/-- An operation whose accesses are all of a kind. -/
inductive Prog.Each {α : Type} (Φ : Acc → Prop) : Prog α → Prop
  | ret (a : α) : Each Φ (.ret a)
  | read (c : Int) {k : Int → Prog α} : Φ ⟨1, c, 0⟩ → (∀ x, Each Φ (k x)) → Each Φ (.read c k)
  | write (c v : Int) {k : Unit → Prog α} : Φ ⟨2, c, v⟩ → Each Φ (k ()) → Each Φ (.write c v k)
  | get (i : Int) {k : Int → Prog α} : (∀ x, Each Φ (k x)) → Each Φ (.get i k)
  | set (i v : Int) {k : Unit → Prog α} : Each Φ (k ()) → Each Φ (.set i v k)
  | note (m : Int) {k : Unit → Prog α} : Each Φ (k ()) → Each Φ (.note m k)
theorem Prog.Each.bind {α β : Type} {Φ : Acc → Prop} {p : Prog α} {f : α → Prog β} (h : p.Each Φ) (hf : ∀ a, (f a).Each Φ) : (p.bind f).Each Φ := by
  induction h with
  | ret a => exact hf a
  | read c h1 _ ih => exact .read c h1 fun x => ih x
  | write c v h1 _ ih => exact .write c v h1 ih
  | get c _ ih => exact .get c fun x => ih x
  | set c v _ ih => exact .set c v ih
  | note m _ ih => exact .note m ih
theorem Prog.Each.run {α : Type} {Φ : Acc → Prop} {p : Prog α} (h : p.Each Φ) : ∀ S : TS, (∀ a ∈ S.acc, Φ a) → ∀ a ∈ (p.run S).2.acc, Φ a := by
  have hput : ∀ (S : TS) (x : Acc), Φ x → (∀ a ∈ S.acc, Φ a) → ∀ a ∈ (S.put x).acc, Φ a := fun S x hx hS a ha => by
    rcases List.mem_append.1 ha with ha | ha
    · exact hS a ha
    · rw [List.mem_singleton.1 ha]; exact hx
  induction h with
  | ret a => intro S hS; exact hS
  | read c h1 _ ih =>
    intro S hS
    simp only [Prog.run]
    cases S.next with
    | none => exact hput S _ h1 hS
    | some v => exact ih v _ (hput S _ h1 hS)
  | write c v h1 _ ih =>
    intro S hS
    simp only [Prog.run]
    cases S.next with
    | none => exact hput S _ h1 hS
    | some _ => exact ih _ (hput S _ h1 hS)
  | get c _ ih => intro S hS; exact ih _ _ hS
  | set j v _ ih => intro S hS; exact ih _ (by rw [TS.upd_acc]; exact hS)
  | note m _ ih => intro S hS; exact ih (S.noted m) hS
/-- A side's own registers are written, all others read. -/
def OwnW (s : Int) (a : Acc) : Prop := (a.cell = 3 + s ∨ a.cell = 5 + s) ↔ a.kind = 2
end Kv
namespace Go.Proofs.Ytpcohbpeglledaa
open Go.RowKit Kv
theorem regW_one {r : Reg} (h : r.kind = 1) (me v : Int) : regW r me v = wr r.base v := by unfold regW; rw [if_pos h]
theorem regR_one {r : Reg} (h : r.kind = 1) (me : Int) : regR r me = rd r.base := by unfold regR; rw [if_pos h]
theorem each_spin {s t : Int} {qo ro : Reg} (h1 : qo.kind = 1) (h2 : ro.kind = 1) (hq : qo.base ≠ 3 + s ∧ qo.base ≠ 5 + s) (hr : ro.base ≠ 3 + s ∧ ro.base ≠ 5 + s) : ∀ n : Nat, (kesSpin qo ro s t 0 n).Each (OwnW s)
  | 0 => .ret _
  | n + 1 => by
    rw [show kesSpin qo ro s t 0 (n + 1) = (regR qo 0).bind fun x => if x = 0 then .ret () else (regR ro 0).bind fun y => if kesFree s t y then .ret () else kesSpin qo ro s t 0 n from rfl]
    rw [regR_one h1, regR_one h2]
    refine (Prog.Each.read _ (by unfold OwnW; simp; omega) fun x => .ret x).bind fun x => ?_
    split
    · exact .ret _
    · refine (Prog.Each.read _ (by unfold OwnW; simp; omega) fun x => .ret x).bind fun y => ?_
      split
      · exact .ret _
      · exact each_spin h1 h2 hq hr n
theorem each_enter {s : Int} {qs qo rs ro : Reg} (n : Nat) (h0 : qs.kind = 1) (h1 : qo.kind = 1) (h2 : ro.kind = 1) (h3 : rs.kind = 1) (hs : qs.base = 3 + s) (hs2 : rs.base = 5 + s) (hq : qo.base ≠ 3 + s ∧ qo.base ≠ 5 + s) (hr : ro.base ≠ 3 + s ∧ ro.base ≠ 5 + s) :
    (kesEnter n qs qo rs ro s 0).Each (OwnW s) := by
  unfold kesEnter
  simp only [regW_one h0, regW_one h3, regR_one h2]
  refine (Prog.Each.write _ _ (by unfold OwnW; simp [hs]) (.ret _)).bind fun _ => ?_
  refine (Prog.Each.read _ (by unfold OwnW; simp; omega) fun x => .ret x).bind fun x => ?_
  exact (Prog.Each.write _ _ (by unfold OwnW; simp [hs2]) (.ret _)).bind fun _ => each_spin h1 h2 hq hr n
/-- Both, one behind the other. -/
def kesBoth (D : Nat) (s : Int) : Prog Int := (kesM D kr0 kr1 kr2 kr3 s 0).bind fun _ => (kesL kr0 kr1 s 0).bind fun _ => .ret 0
theorem each_both (D : Nat) {s : Int} (hs : s = 0 ∨ s = 1) : (kesBoth D s).Each (OwnW s) := by
  rcases hs with rfl | rfl
  · refine (each_enter (s := 0) D (qs := kr0) (qo := kr1) (rs := kr2) (ro := kr3) rfl rfl rfl rfl rfl rfl (by decide) (by decide)).bind fun _ => ?_
    exact (Prog.Each.write _ _ (by unfold OwnW; decide) (.ret _)).bind fun _ => .ret _
  · refine (each_enter (s := 1) D (qs := kr1) (qo := kr0) (rs := kr3) (ro := kr2) rfl rfl rfl rfl rfl rfl (by decide) (by decide)).bind fun _ => ?_
    exact (Prog.Each.write _ _ (by unfold OwnW; decide) (.ret _)).bind fun _ => .ret _
theorem both_lands (D : Nat) {s : Int} (hs : s = 0 ∨ s = 1) (ans : List Int) : ∀ a ∈ ((kesBoth D s).run (TS0 [] ans)).2.acc, OwnW s a :=
  (each_both D hs).run _ fun a ha => by cases ha
theorem kaE (B p N : Nat) (S : TS) (s : Int) (b c bl bs : Nat) (w : World) (h : Plays B w p S) (hl : RegsAt [2, 3, 4] w p b [kr0, kr1, kr2, kr3]) (hN : S.left < N) (hc4 : 4 ≤ c) (hc5 : c ≤ 9223372036854775807)
    (c1 : w.cell? ⟨bl, 0, none⟩ = some (.slice (some ⟨b, 0, none⟩) 4 c)) (c2 : w.cell? ⟨bs, 0, none⟩ = some (.int .i64 s)) :
    Calls Try.prog 13 #[.pointer (some ⟨p, 0, none⟩), .pointer (some ⟨bl, 0, none⟩), .pointer (some ⟨bs, 0, none⟩)] w (Post encI B p w (((kesM N kr0 kr1 kr2 kr3 s 0).bind fun _ => .ret 0).run S)) := by
  have h0 : kr0.ok := ⟨.inl rfl, by decide, by decide, by decide, fun h => by cases h⟩
  have h1 : kr1.ok := ⟨.inl rfl, by decide, by decide, by decide, fun h => by cases h⟩
  have h2 : kr2.ok := ⟨.inl rfl, by decide, by decide, by decide, fun h => by cases h⟩
  have h3 : kr3.ok := ⟨.inl rfl, by decide, by decide, by decide, fun h => by cases h⟩
  have hq := kes_enter_p B p N S kr0 kr1 kr2 kr3 s 0 b c w h hl h0 h1 h2 h3 (by decide) (by decide) (by decide) (by decide) (by decide) (.inl rfl) (.inl rfl) (.inl rfl) (.inl rfl) hN hc4 hc5
  generalize hR : Post encI B p w (((kesM N kr0 kr1 kr2 kr3 s 0).bind fun _ => .ret 0).run S) = R
  have hO : Owes R encI B p w (((kesM N kr0 kr1 kr2 kr3 s 0).bind fun _ => .ret 0).run S) := hR ▸ owes _ _ _ _ _
  clear hR
  have hK := Keep.refl [2, 3, 4] B p w
  clear h0 h1 h2 h3
  go_enter Try.func13, Try.ntmps13
  go_wp2_with fail
  clear c1 c2
  refine tstep hO hK hq (fun _ h => ⟨rfl, h⟩) ?_
  intro v S1 w1 hr hP1 hk1 hK1 hO1
  have hf := hO1.done (v := (0 : Int)) hP1 hK1
  clear hO1 hP1 hK1 hr hk1 hO h hl hK hq
  go_wp2_with fail
  first | exact hf | (go_ret; exact hf)
theorem kaB (B p N : Nat) (S : TS) (s : Int) (b c bl bs : Nat) (w : World) (h : Plays B w p S) (hl : RegsAt [2, 3, 4] w p b [kr0, kr1, kr2, kr3]) (hN : S.left < N) (hc4 : 4 ≤ c) (hc5 : c ≤ 9223372036854775807)
    (g1 : HeldP w p bl (.cells #[.slice (some ⟨b, 0, none⟩) 4 c] 25)) (g2 : HeldP w p bs (.cells #[.int .i64 s] 3)) :
    Calls Try.prog 15 #[.pointer (some ⟨p, 0, none⟩), .pointer (some ⟨bl, 0, none⟩), .pointer (some ⟨bs, 0, none⟩)] w (Post encI B p w ((kesBoth N s).run S)) := by
  have h0 : kr0.ok := ⟨.inl rfl, by decide, by decide, by decide, fun h => by cases h⟩
  have h1 : kr1.ok := ⟨.inl rfl, by decide, by decide, by decide, fun h => by cases h⟩
  have h2 : kr2.ok := ⟨.inl rfl, by decide, by decide, by decide, fun h => by cases h⟩
  have h3 : kr3.ok := ⟨.inl rfl, by decide, by decide, by decide, fun h => by cases h⟩
  have hq := kes_enter_p B p N S kr0 kr1 kr2 kr3 s 0 b c w h hl h0 h1 h2 h3 (by decide) (by decide) (by decide) (by decide) (by decide) (.inl rfl) (.inl rfl) (.inl rfl) (.inl rfl) hN hc4 hc5
  have hq2 := fun S1 w1 (h : Plays B w1 p S1) hl => kes_leave_p B p S1 kr0 kr1 kr2 kr3 s 0 b c w1 h hl h0 h1 (by decide) (by decide) (by decide)
  generalize hR : Post encI B p w ((kesBoth N s).run S) = R
  have hO : Owes R encI B p w ((kesBoth N s).run S) := hR ▸ owes _ _ _ _ _
  clear hR
  unfold kesBoth at hO
  have hK := Keep.refl [2, 3, 4] B p w
  have c1 := g1.cells
  have c2 := g2.cells
  clear h0 h1 h2 h3
  have hq2h := Lib.hid hq2
  clear hq2
  go_enter Try.func15, Try.ntmps15
  go_wp2_with fail
  clear c1 c2
  refine tstep hO hK hq (fun _ h => ⟨rfl, h⟩) ?_
  intro v S1 w1 hr hP1 hk1 hK1 hO1
  replace g1 := g1.keep hk1
  replace g2 := g2.keep hk1
  replace hl := hl.keep hk1
  have c1 := g1.cells
  have c2 := g2.cells
  clear hr hO h hK hq hk1
  go_wp2_with fail
  clear c1 c2
  refine tstep hO1 hK1 (hq2h.out S1 w1 hP1 hl) (fun _ h => ⟨rfl, h⟩) ?_
  intro v S2 w2 hr hP2 hk2 hK2 hO2
  have hf := hO2.done (v := (0 : Int)) hP2 hK2
  clear hO1 hP1 hK1 hr hl hK2 hP2 hO2 hk2
  go_wp2_with fail
  first | exact hf | (go_ret; exact hf)
end Go.Proofs.Ytpcohbpeglledaa
/-
  KesselsAlone: the walk.
-/
namespace Go.Proofs.Ytpcohbpeglledaa
open Go.RowKit Kv
theorem heldB {w0 w1 : World} {B p b : Nat} {S : TS} {o : Obj} (g : Blk w0 b o) (hx : Ext w0 w1) (hP : Plays B w1 p S) (hB : w0.heap.size ≤ B) : HeldP w1 p b o := by
  refine ⟨g.ext hx, fun ho => ?_⟩
  obtain ⟨_, _, _, _, _, _, h⟩ := hP
  have := (h.own ho).1
  have := g.lt
  omega
set_option maxRecDepth 100000 in
set_option maxHeartbeats 1000000 in
theorem kalone_walk (side : Bool) (vA : Value) (La : List Int) (w : World) (hA : Ints w vA La) :
    Calls Try.prog 3 #[.bool side, vA] w fun e w' => e = .returned (.bool true) ∧ Ext w w' := by
  obtain ⟨Aa, ca, rfl, p3, p4⟩ := hA.slice
  have hmf : ∀ (fn : Fn) (first cap : Array Value) (w : World), (Instr.makeFunc fn first cap).run Try.prog w = .ok (.func fn first cap) w := fun _ _ _ _ => rfl
  have hX := Ext.refl w
  go_enter Try.func3, Try.ntmps3
  by_cases h1 : 300 < La.length
  · have d1 : decide ((300 : Int) < (La.length : Int)) = true := by rw [decide_eq_true_eq]; omega
    go_wp2_with fail
    refine (alive29 _).mono ?_
    rintro e w7 ⟨rfl, hx7⟩
    have hf := Lib.hid hx7
    clear hx7
    go_wp2_with fail
    go_ret
    exact ⟨rfl, hf.out⟩
  · have d1 : decide ((300 : Int) < (La.length : Int)) = false := by rw [decide_eq_false_iff_not]; omega
    go_wp2_with fail
    refine (tame_r _ La 2199023255552 _ hA).mono ?_
    rintro e wA ⟨va, rfl, hra, hxa⟩
    have hIa := hra.ints
    have hba : ∀ k, va.ownBlock = some k → k < wA.heap.size := fun k hk => (hra.lt k hk).2
    have la : (tameL La 2199023255552).length ≤ 300 := by unfold tameL; simp; omega
    replace hX := hxa
    clear hra hxa hA
    generalize tameL La 2199023255552 = a at *
    obtain ⟨Aq, cq, rfl, _, _⟩ := hIa.slice
    have hIah := Lib.hid hIa
    clear hIa
    go_wp2_with fail
    refine (kwants_p _).mono ?_
    rintro e w1 ⟨v1, rfl, hW, hx⟩
    replace hX := hX.trans hx
    have hIa2 := Lib.hid (hIah.out.ext hx)
    have hba2 : ∀ k, (Value.slice Aq a.length cq).ownBlock = some k → k < w1.heap.size := fun k hk => Nat.lt_of_lt_of_le (hba k hk) hx.size
    clear hIah hba hx
    have hSm := some_r v1 _ 2 1 w1 hW (by simp)
    have hlay : layM (List.replicate 4 ⟨-1, 1⟩) 2 1 3 2 = some [kr0, kr1, kr2, kr3] := by rfl
    rw [hlay] at hSm
    obtain ⟨Aw, cw, rfl, _, _, _⟩ := hW
    clear hlay
    go_wp2_with fail
    refine hSm.mono ?_
    rintro e w2 ⟨v2, rfl, hx2, hrow⟩
    replace hX := hX.trans hx2
    have hIa := Lib.hid (hIa2.out.ext hx2)
    have hba : ∀ k, (Value.slice Aq a.length cq).ownBlock = some k → k < w2.heap.size := fun k hk => Nat.lt_of_lt_of_le (hba2 k hk) hx2.size
    obtain ⟨Ar, cr, rfl, r1, r2, hV⟩ := Recs.of_row hrow
    clear hSm hrow hx2 hIa2 hba2
    obtain ⟨b, rfl, hb, hc⟩ := hV (by simp [regVals])
    simp only [Option.getD_some, List.length_cons, List.length_nil] at *
    obtain ⟨s, hs⟩ : ∃ s : Int, s = if side then 1 else 0 := ⟨_, rfl⟩
    have hs2 : s = 0 ∨ s = 1 := by rw [hs]; cases side <;> simp
    have n1 := (Blk.new w2 (.cells #[.slice (some ⟨b, 0, none⟩) 4 cr] 25)).alloc (.cells #[.int .i64 s] 3)
    have n2 := Blk.new (w2.alloc (.cells #[.slice (some ⟨b, 0, none⟩) 4 cr] 25)) (.cells #[.int .i64 s] 3)
    have x1 := ((Ext.refl w2).alloc (.cells #[.slice (some ⟨b, 0, none⟩) 4 cr] 25)).alloc (.cells #[.int .i64 s] 3)
    simp only [World.size_alloc] at n2
    go_upto_if 25 with fail
    go_cut [] (fun wx => wx = (w2.alloc (.cells #[.slice (some ⟨b, 0, none⟩) 4 cr] 25)).alloc (.cells #[.int .i64 s] 3))
    case first =>
      cases side
      · obtain rfl : s = 0 := by simpa using hs
        clear hs hs2 n1 n2 x1 hc hV
        go_wp2_with fail
        go_meet
        rfl
      · obtain rfl : s = 1 := by simpa using hs
        clear hs hs2 n1 n2 x1 hc hV
        go_wp2_with fail
        go_meet
        rfl
    case rest =>
      obtain rfl := hcut
      replace hX := hX.trans x1
      have hb3 := Nat.lt_of_lt_of_le hb x1.size
      have hc3 : Hid (∀ (i : Nat) u, (List.flatMap regVals [kr0, kr1, kr2, kr3])[i]? = some u → ((w2.alloc (.cells #[.slice (some ⟨b, 0, none⟩) 4 cr] 25)).alloc (.cells #[.int .i64 s] 3)).cell? ⟨b, i, none⟩ = some u) := Lib.hid fun i u hu => (x1.cell (p := ⟨b, i, none⟩) hb).trans (hc i u hu)
      have hIa3 := Lib.hid (hIa.out.ext x1)
      have hba3 : ∀ k, (Value.slice Aq a.length cq).ownBlock = some k → k < ((w2.alloc (.cells #[.slice (some ⟨b, 0, none⟩) 4 cr] 25)).alloc (.cells #[.int .i64 s] 3)).heap.size := fun k hk => Nat.lt_of_lt_of_le (hba k hk) x1.size
      clear x1 hb hc hIa hba hV hs
      generalize hz2 : w2.heap.size = z at *
      generalize World.alloc (World.alloc w2 _) _ = V0 at *
      clear hz2
      have hA := ints_new V0 [0, 0, 0, 0] (by simp)
      have xa := (Ext.refl V0).alloc (.cells (([0, 0, 0, 0] : List Int).map (Value.int .i64)).toArray 3)
      simp only [List.map_cons, List.map_nil, List.length_cons, List.length_nil] at hA xa
      go_wp2_with fail
      have hsz : V0.heap.size < (V0.alloc (.cells #[.int .i64 0, .int .i64 0, .int .i64 0, .int .i64 0] 3)).heap.size := by simp
      generalize hzv : V0.heap.size = zv at hA hsz ⊢
      generalize V0.alloc _ = V1 at *
      clear hzv
      have hres : (((kesM 5 kr0 kr1 kr2 kr3 s 0).bind fun _ => Prog.ret (0 : Int)).run (TS0 [] [0, 0, 0, 0])).1 = some 0 ∧ (((kesM 5 kr0 kr1 kr2 kr3 s 0).bind fun _ => Prog.ret (0 : Int)).run (TS0 [] [0, 0, 0, 0])).2.acc.length = 4 := by
        rcases hs2 with rfl | rfl <;> exact ⟨rfl, rfl⟩
      have hl1 : (TS0 [] [0, 0, 0, 0]).left < 5 := by decide
      have hPl := play_int 13 #[.pointer (some ⟨z, 0, none⟩), .pointer (some ⟨z + 1, 0, none⟩)] ((kesM 5 kr0 kr1 kr2 kr3 s 0).bind fun _ => Prog.ret (0 : Int)) none 0 [] (some ⟨zv, 0, none⟩) 4 [0, 0, 0, 0] V1 (Ints.nil _) (by simp) hA (by decide) (fun k hk => by simp only [Value.ownBlock, Option.some.injEq] at hk; omega) (fun _ _ => rfl)
        (fun W p hxW hP => kaE _ p 5 _ s b cr z (z + 1) W hP (regsP hb3 hc3.out (xa.trans hxW) hP xa.size) hl1 r1 r2 ((n1.ext (xa.trans hxW)).cells 0) ((n2.ext (xa.trans hxW)).cells 0))
      obtain ⟨e1, e2⟩ := hres
      rw [e1] at hPl
      generalize (((kesM 5 kr0 kr1 kr2 kr3 s 0).bind fun _ => Prog.ret (0 : Int)).run (TS0 [] [0, 0, 0, 0])).2 = S1 at *
      simp only [Option.getD_some, Option.isSome_some] at hPl
      have e2h := Lib.hid e2
      clear e1 e2 hA hsz hl1
      refine hPl.mono ?_
      rintro e y1 ⟨v1, rfl, hO, hx1⟩
      obtain ⟨A1, c1, A1', c1', vs1, L1, rfl, hO⟩ := hO
      obtain ⟨As1, k1, hvs1, _, _⟩ := hO.locs.slice
      subst hvs1
      unfold outV
      rw [e2h.out]
      clear hO hPl
      replace xa := xa.trans hx1
      have m1 := Blk.new y1 (.cells #[.bool true, .slice A1 4 c1, .slice A1' S1.nts.length c1', .slice As1 (shortL L1).length k1] 32)
      replace xa := xa.alloc (.cells #[.bool true, .slice A1 4 c1, .slice A1' S1.nts.length c1', .slice As1 (shortL L1).length k1] 32)
      clear hx1
      go_wp2_with fail
      generalize hzy : y1.heap.size = z1 at *
      generalize y1.alloc _ = Y1 at *
      clear hzy
      have hI4 := hIa3.out.ext xa
      have hba4 : ∀ k, (Value.slice Aq a.length cq).ownBlock = some k → k < Y1.heap.size := fun k hk => Nat.lt_of_lt_of_le (hba3 k hk) xa.size
      have hl2 : (TS0 [] a).left < a.length + 1 := by unfold TS.left TS0; simp
      have hPl := play_int 15 #[.pointer (some ⟨z, 0, none⟩), .pointer (some ⟨z + 1, 0, none⟩)] (kesBoth (a.length + 1) s) none 0 [] Aq cq a Y1 (Ints.nil _) (by simp) hI4 (by unfold maxAns; omega) hba4 (fun _ _ => rfl)
        (fun W p hxW hP => kaB _ p (a.length + 1) _ s b cr z (z + 1) W hP (regsP hb3 hc3.out (xa.trans hxW) hP xa.size) hl2 r1 r2 (heldB n1 (xa.trans hxW) hP xa.size) (heldB n2 (xa.trans hxW) hP xa.size))
      have hland := Lib.hid (both_lands (a.length + 1) hs2 a)
      generalize (kesBoth (a.length + 1) s).run (TS0 [] a) = r at *
      obtain ⟨q, S2⟩ := r
      simp only at hPl hland
      clear hI4 hba4 hl2 hba3
      refine hPl.mono ?_
      rintro e y2 ⟨v2, rfl, hO, hx2⟩
      generalize hD2 : q.isSome = D2 at *
      generalize q.getD 0 = qq at *
      obtain ⟨A2, c2, A2', c2', vs2, L2, rfl, hO⟩ := hO
      obtain ⟨As2, k2, hvs2, _, _⟩ := hO.locs.slice
      subst hvs2
      unfold outV
      have m2 := Blk.new y2 (.cells #[.bool D2, .slice A2 S2.acc.length c2, .slice A2' S2.nts.length c2', .slice As2 (shortL L2).length k2] 32)
      have hO2 := hO.ext ((Ext.refl y2).alloc (.cells #[.bool D2, .slice A2 S2.acc.length c2, .slice A2' S2.nts.length c2', .slice As2 (shortL L2).length k2] 32))
      replace m1 := (m1.ext hx2).alloc (.cells #[.bool D2, .slice A2 S2.acc.length c2, .slice A2' S2.nts.length c2', .slice As2 (shortL L2).length k2] 32)
      replace xa := (xa.trans hx2).alloc (.cells #[.bool D2, .slice A2 S2.acc.length c2, .slice A2' S2.nts.length c2', .slice As2 (shortL L2).length k2] 32)
      clear hO hPl hx2 hD2
      go_wp2_with fail
      generalize hzy : y2.heap.size = z2 at *
      generalize y2.alloc _ = Y2 at *
      clear hzy
      replace n1 := n1.ext xa
      replace n2 := n2.ext xa
      have hcY : Hid (∀ (i : Nat) u, (List.flatMap regVals [kr0, kr1, kr2, kr3])[i]? = some u → Y2.cell? ⟨b, i, none⟩ = some u) := Lib.hid fun i u hu => (xa.cell (p := ⟨b, i, none⟩) hb3).trans (hc3.out i u hu)
      have hXh := Lib.hid (hX.trans xa)
      have hxz := Lib.hid xa
      clear hX xa hc3 hIa3
      have c_m2 := m2.cells
      have hacl := hO2.accc
      have hb9 := Nat.lt_of_lt_of_le hb3 hxz.out.size
      clear hb3
      go_loopw [11] (fun i wr => ∃ j : Nat, i = .int .i64 j ∧ j ≤ S2.acc.length ∧ Ext Y2 wr) (fun i _ => S2.acc.length - (intOf i).toNat)
      case atStart => exact ⟨0, rfl, by omega, Ext.refl _⟩
      case round =>
        obtain ⟨j, rfl, hj, hE2⟩ := hrel
        clear c_m2
        replace m2 := m2.ext hE2
        have c_m2 := m2.cells
        by_cases hl : j < S2.acc.length
        · obtain ⟨x, hx⟩ : ∃ a, S2.acc[j]? = some a := ⟨_, List.getElem?_eq_getElem hl⟩
          have hx1 := hland.out x (List.mem_of_getElem? hx)
          unfold OwnW at hx1
          obtain ⟨u, rfl, hu, z0, z1, z2⟩ := AccAt.at_ (Vals.ext hO2.accs hE2) hx
          have g9 := Blk.new wr (.cells #[.int .i64 x.kind, .int .i64 x.cell, .int .i64 x.val] 39)
          have hE3 := hE2.alloc (.cells #[.int .i64 x.kind, .int .i64 x.cell, .int .i64 x.val] 39)
          have hn1 := Lib.hid ((n1.ext hE2).alloc (.cells #[.int .i64 x.kind, .int .i64 x.cell, .int .i64 x.val] 39))
          have hn2 := Lib.hid ((n2.ext hE2).alloc (.cells #[.int .i64 x.kind, .int .i64 x.cell, .int .i64 x.val] 39))
          clear hx hO2 hland hE2 n1 n2 m1
          have hx1h := Lib.hid hx1
          clear hx1
          go_wp2_with fail
          have hE2 := hE3
          clear hE3 c_m2 m2 z0 z1 z2
          generalize hzr : wr.heap.size = zr at *
          generalize wr.alloc _ = W at *
          clear hzr
          have c_g9 := g9.cells
          have c_n1 := hn1.out.cells
          have c_n2 := hn2.out.cells
          have hx1 := hx1h.out
          clear hx1h hn1 hn2
          rcases hs2 with rfl | rfl
          · have q1 : Y2.cell? ⟨b, 1, none⟩ = some (.int .i64 3) := hcY.out _ _ rfl
            have q2 : Y2.cell? ⟨b, 15, none⟩ = some (.int .i64 5) := hcY.out _ _ rfl
            replace q1 := (hE2.cell (p := ⟨b, 1, none⟩) hb9).trans q1
            replace q2 := (hE2.cell (p := ⟨b, 15, none⟩) hb9).trans q2
            by_cases y1 : x.cell = 3
            · have d1 : (x.cell == 3) = true := by simpa using y1
              have d3 : (x.kind == 2) = true := by rw [beq_iff_eq]; exact hx1.1 (.inl (by omega))
              clear y1 hx1
              go_quiet (fail)
              replace hE2 := hE2.trans ((Ext.refl W).drewN nq)
              replace g9 := g9.ext ((Ext.refl W).drewN nq)
              clear c_g9 c_n1 c_n2 q1 q2
              have c_g9 := g9.cells
              go_wp2_with fail
              refine ⟨⟨j + 1, by go_num, by omega, hE2⟩, ?_⟩
              simp [intOf]; omega
            · have d1 : (x.cell == 3) = false := by simpa using y1
              by_cases y2 : x.cell = 5
              · have d2 : (x.cell == 5) = true := by simpa using y2
                have d3 : (x.kind == 2) = true := by rw [beq_iff_eq]; exact hx1.1 (.inr (by omega))
                clear y1 y2 hx1
                go_quiet (fail)
                replace hE2 := hE2.trans ((Ext.refl W).drewN nq)
                replace g9 := g9.ext ((Ext.refl W).drewN nq)
                clear c_g9 c_n1 c_n2 q1 q2
                have c_g9 := g9.cells
                go_wp2_with fail
                refine ⟨⟨j + 1, by go_num, by omega, hE2⟩, ?_⟩
                simp [intOf]; omega
              · have d2 : (x.cell == 5) = false := by simpa using y2
                have d3 : (x.kind == 2) = false := by rw [beq_eq_false_iff_ne]; intro hk; have := hx1.2 hk; omega
                clear y1 y2 hx1
                go_quiet (fail)
                replace hE2 := hE2.trans ((Ext.refl W).drewN nq)
                replace g9 := g9.ext ((Ext.refl W).drewN nq)
                clear c_g9 c_n1 c_n2 q1 q2
                have c_g9 := g9.cells
                go_wp2_with fail
                refine ⟨⟨j + 1, by go_num, by omega, hE2⟩, ?_⟩
                simp [intOf]; omega
          · have q1 : Y2.cell? ⟨b, 8, none⟩ = some (.int .i64 4) := hcY.out _ _ rfl
            have q2 : Y2.cell? ⟨b, 22, none⟩ = some (.int .i64 6) := hcY.out _ _ rfl
            replace q1 := (hE2.cell (p := ⟨b, 8, none⟩) hb9).trans q1
            replace q2 := (hE2.cell (p := ⟨b, 22, none⟩) hb9).trans q2
            by_cases y1 : x.cell = 4
            · have d1 : (x.cell == 4) = true := by simpa using y1
              have d3 : (x.kind == 2) = true := by rw [beq_iff_eq]; exact hx1.1 (.inl (by omega))
              clear y1 hx1
              go_quiet (fail)
              replace hE2 := hE2.trans ((Ext.refl W).drewN nq)
              replace g9 := g9.ext ((Ext.refl W).drewN nq)
              clear c_g9 c_n1 c_n2 q1 q2
              have c_g9 := g9.cells
              go_wp2_with fail
              refine ⟨⟨j + 1, by go_num, by omega, hE2⟩, ?_⟩
              simp [intOf]; omega
            · have d1 : (x.cell == 4) = false := by simpa using y1
              by_cases y2 : x.cell = 6
              · have d2 : (x.cell == 6) = true := by simpa using y2
                have d3 : (x.kind == 2) = true := by rw [beq_iff_eq]; exact hx1.1 (.inr (by omega))
                clear y1 y2 hx1
                go_quiet (fail)
                replace hE2 := hE2.trans ((Ext.refl W).drewN nq)
                replace g9 := g9.ext ((Ext.refl W).drewN nq)
                clear c_g9 c_n1 c_n2 q1 q2
                have c_g9 := g9.cells
                go_wp2_with fail
                refine ⟨⟨j + 1, by go_num, by omega, hE2⟩, ?_⟩
                simp [intOf]; omega
              · have d2 : (x.cell == 6) = false := by simpa using y2
                have d3 : (x.kind == 2) = false := by rw [beq_eq_false_iff_ne]; intro hk; have := hx1.2 hk; omega
                clear y1 y2 hx1
                go_quiet (fail)
                replace hE2 := hE2.trans ((Ext.refl W).drewN nq)
                replace g9 := g9.ext ((Ext.refl W).drewN nq)
                clear c_g9 c_n1 c_n2 q1 q2
                have c_g9 := g9.cells
                go_wp2_with fail
                refine ⟨⟨j + 1, by go_num, by omega, hE2⟩, ?_⟩
                simp [intOf]; omega
        · obtain rfl : j = S2.acc.length := by omega
          have hf0 := Lib.hid (hXh.out.trans hE2)
          replace m1 := m1.ext hE2
          have c_m1 := m1.cells
          clear hO2 hland n1 n2 hcY
          go_wp2_with fail
          refine (alive29 _).mono ?_
          rintro e w9 ⟨rfl, hx9⟩
          have hf := Lib.hid (hf0.out.trans hx9)
          clear hx9
          go_wp2_with fail
          go_ret
          exact ⟨rfl, hf.out⟩
end Go.Proofs.Ytpcohbpeglledaa
/-
  KesselsAlone: the input opened.
-/
namespace Go.Proofs.Ytpcohbpeglledaa.kesselsAlone
open Go.ChangeShapes Go.WideShapes Go.ChangeAt Go.RowKit Kv
set_option maxRecDepth 100000 in
theorem main (H : Type) (enc : TypeId × Value → H) (W : World) (base : Nat) (args : Array Value) (ds : List (DataW H)) (p : List MemPlace)
    (hval : ∀ (j : Nat) t v, Try.f3.params[j]? = some t → args[j]? = some v → Value.okWide Try.prog W .any base t v)
    (hA : DataW.TrodAll enc Try.prog W 0 (fun _ => true) true Try.f3.params.toList args.toList ds p) (_hL : laidMetH Try.prog Rows.kesselsAloneRow.laid W) :
    Calls Try.prog 3 args W fun e w' => e = .returned (.bool true) ∧ Ext W w' := by
  rw [Try.params3] at hA hval
  obtain ⟨v0, vs0, d0, ds0, p0, q0, hargs, rfl, rfl, h0, r0⟩ := trodAll_cons hA
  obtain ⟨v1, vs1, d1, ds1, p1, q1, rfl, rfl, rfl, h1, r1⟩ := trodAll_cons r0
  obtain ⟨rfl, rfl, rfl⟩ := trodAll_nil r1
  obtain rfl : args = #[v0, v1] := by cases args; simp_all
  obtain ⟨La, hLa, -⟩ := ints_arg (hval 1 22 v1 rfl rfl) h1
  obtain ⟨s, rfl, rfl, rfl⟩ := open_bool Try.underlying4 (hval 0 4 v0 rfl rfl) h0
  exact kalone_walk s v1 La W hLa
end Go.Proofs.Ytpcohbpeglledaa.kesselsAlone
/-
  KesselsAlone holds: whoever is alone enters a Kessels lock by four accesses, and a side writes its own two registers alone.
-/
namespace Go.Proofs.Ytpcohbpeglledaa.kesselsAlone
open Go.ChangeShapes Go.WideShapes Go.ChangeAt Go.RowKit

theorem laidOut : laidOutB Try.prog = true := by kernel_rfl
set_option maxRecDepth 100000 in
theorem contract (H : Type) (enc : TypeId × Value → H) (W : World) (base : Nat) (args : Array Value) (ds gs : List (DataW H)) (before : List MemPlace)
    (hval : ∀ (j : Nat) t v, Try.f3.params[j]? = some t → args[j]? = some v → Value.okWide Try.prog W .any base t v)
    (hW : DataW.Whole enc Try.prog Try.f3.params.toList Rows.kesselsAloneSpec.vars false W args.toList ds gs before) (hL : laidMetH Try.prog Rows.kesselsAloneRow.laid W) :
    Calls Try.prog 3 args W fun e W' => ∃ v, e = .returned v ∧ Rows.kesselsAloneSpec.post enc Try.prog Try.f3 false true false false W args v W' := by
  refine (main H enc W base args ds before hval (by obtain ⟨p, q, hA, hV, hpq, _, _⟩ := hW; obtain ⟨_, rfl⟩ := trodVars_none hV; rw [List.append_nil] at hpq; subst hpq; exact hA) hL).mono fun e W' ⟨he, hg⟩ => ⟨_, he, ?_⟩
  refine law_post (tb := 4) laidOut ?_ (by kernel_rfl) Try.underlying4 rfl ?_ hW hg
  · rw [Try.params3]
    intro t ht
    simp only [List.mem_cons, List.not_mem_nil, or_false] at ht
    rcases ht with rfl | rfl <;> exact ⟨by kernel_rfl, of_decide_eq_true (by kernel_rfl)⟩
  · intro ds hl
    rw [Try.params3] at hl
    match ds, hl with
    | [d0, d1], _ => rfl
set_option maxRecDepth 100000 in
theorem laid_met (os : Os) : laidMet Try.prog Rows.kesselsAloneRow.laid (((World.holding Try.prog os ⟨#[], #[], []⟩)).forCall (fun _ _ => 0) ⟨#[], #[.bool false, .slice none 0 0], []⟩).memory :=
  laidMet_of_run' 8 (by kernel_rfl) (by kernel_rfl)
set_option maxRecDepth 100000 in
theorem reads (os : Os) {H : Type} (enc : TypeId × Value → H) : ∃ places, DataW.whole enc Try.prog (((World.holding Try.prog os ⟨#[], #[], []⟩)).forCall (fun _ _ => 0) ⟨#[], #[.bool false, .slice none 0 0], []⟩).memory Try.f3.params.toList Rows.kesselsAloneSpec.vars false (#[.bool false, .slice none 0 0] : Array Value).toList 8 = some ([.lit (.bool false), .nil], [], places) :=
  ⟨[], by kernel_rfl⟩
set_option maxRecDepth 100000 in
theorem lifted (os : Os) (started : os.Started) (H : Type) (enc : TypeId × Value → H) (F : Stop.Interp) :
    ReturnsInHanded {} Try.checked os 3 .any ((OpenSpec.ofChange Rows.kesselsAloneSpec).preRow enc Try.prog Try.f3 Rows.kesselsAloneRow.domain false Rows.kesselsAloneRow.laid) (((OpenSpec.ofChange Rows.kesselsAloneSpec).at F).post enc Try.prog Try.f3 false true false false) := by
  obtain ⟨places, hx⟩ := reads os enc
  refine returnsInHanded_of_row (C := Try.checked) (s := (OpenSpec.ofChange Rows.kesselsAloneSpec)) own started (by kernel_rfl) Try.func3
    (witness_row_at (enc := enc) (C := Try.checked) false (World.holding Try.prog os ⟨#[], #[], []⟩) #[.bool false, .slice none 0 0] rfl (by kernel_rfl) (by kernel_rfl) (by kernel_rfl)
      (OpenSpec.preRow_of_cond 8 hx (by kernel_rfl) (fun k hk => by cases hk) (by kernel_rfl) (laid_met os))) ?_
  intro W base args ds gs before hval hW _ _ _ hL _ _
  exact contract H enc W base args ds gs before hval hW hL
theorem said : Rows.KesselsAloneSaid :=
  OpenClaim.holds_of_cond 3 Try.f3 rfl rfl rfl rfl rfl rfl rfl ⟨rfl, rfl, rfl, rfl, rfl⟩ rfl rfl rfl rfl rfl (by kernel_rfl) Try.func3 (by kernel_rfl)
    (of_decide_eq_true (by kernel_rfl)) (by unfold Func.isWrapper; first | (rw [if_pos (by decide +kernel)]; kernel_rfl) | (rw [if_neg (by decide +kernel)]; exact ⟨rfl, rfl⟩))
    (fun os started H enc _ F => by rw [OpenClaim.pre_eq_preRow]; exact lifted os started H enc F)

end Go.Proofs.Ytpcohbpeglledaa.kesselsAlone
