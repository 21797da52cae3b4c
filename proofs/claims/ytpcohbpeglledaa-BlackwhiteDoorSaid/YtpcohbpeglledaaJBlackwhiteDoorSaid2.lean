/-
  Peterson's lock of two sides at a node of a tree: entering and leaving, by the program.
-/
import Derived.Test.YtpcohbpeglledaaJBlackwhiteDoorSaid1
import Derived.Laws.EntriesVeiled
import Derived.Deep.Upon
import Derived.ScopeJumps
import Derived.WalkMore
import Derived.Deep.DeepCutAuto
/-
  Peterson's lock of two sides at a node of a tree: entering and leaving, by the program.
-/
namespace Go.Proofs.Ytpcohbpeglledaa
open Go.RowKit Kv
theorem RegsAt.node3 {ix : List Nat} {p b k : Nat} {w : World} {rs : List Reg} {x y z : Reg} (h : RegsAt ix w p b rs) (hi : rs[k]? = some x ∧ rs[k + 1]? = some y ∧ rs[k + 2]? = some z) :
    RegCells w b (k * 7) x ∧ RegCells w b (k * 7 + 7) y ∧ RegCells w b (k * 7 + 14) z := by
  have h1 := h.nth hi.2.1
  have h2 := h.nth hi.2.2
  rw [show (k + 1) * 7 = k * 7 + 7 from by omega] at h1
  rw [show (k + 2) * 7 = k * 7 + 14 from by omega] at h2
  exact ⟨h.nth hi.1, h1, h2⟩
set_option maxRecDepth 100000 in
set_option maxHeartbeats 1000000 in
theorem arbn_enter_p0 (B p N : Nat) (S : TS) (q0 q1 rt : Reg) (side me : Int) (b c k : Nat) (rs : List Reg) (w : World) (h : Plays B w p S) (hl : RegsAt [2, 3, 4] w p b rs) (hi : rs[k]? = some q0 ∧ rs[k + 1]? = some q1 ∧ rs[k + 2]? = some rt) (hq0 : q0.ok) (hq1 : q1.ok) (hrt : rt.ok)
    (hm0 : 0 ≤ me) (hm1 : me < q0.n) (hm2 : me < q1.n) (hm3 : me < rt.n) (ht1 : q1.told me) (hN : S.left < N) (hs : bitM side = 0) :
    Calls Try.prog 20 #[.pointer (some ⟨p, 0, none⟩), .slice (some ⟨b, k * 7, none⟩) 3 c, .int .i64 side, .int .i64 me] w (Post encU B p w ((arbEnter N q0 q1 rt 0 me).run S)) := by
  generalize hR : Post encU B p w ((arbEnter N q0 q1 rt 0 me).run S) = R
  have hO : Owes R encU B p w ((arbEnter N q0 q1 rt 0 me).run S) := hR ▸ owes _ _ _ _ _
  clear hR
  replace hi := Lib.hid hi
  have hP := h
  clear h
  unfold arbEnter at hO
  have hb := abit_p side
  rw [hs] at hb
  clear hs
  have hS : ∀ w', RegsAt [2, 3, 4] w' p b rs → ((w'.cell? ⟨b, k * 7, none⟩ = some (.int .i64 q0.kind) ∧ w'.cell? ⟨b, k * 7 + 1, none⟩ = some (.int .i64 q0.base) ∧ w'.cell? ⟨b, k * 7 + 2, none⟩ = some (.int .i64 q0.loc) ∧ w'.cell? ⟨b, k * 7 + 3, none⟩ = some (.int .i64 q0.n) ∧ w'.cell? ⟨b, k * 7 + 4, none⟩ = some (.int .i64 q0.wr) ∧ w'.cell? ⟨b, k * 7 + 5, none⟩ = some (.int .i64 q0.rd) ∧ w'.cell? ⟨b, k * 7 + 6, none⟩ = some (.int .i64 q0.top)) ∧ (w'.cell? ⟨b, k * 7 + 7, none⟩ = some (.int .i64 q1.kind) ∧ w'.cell? ⟨b, k * 7 + 7 + 1, none⟩ = some (.int .i64 q1.base) ∧ w'.cell? ⟨b, k * 7 + 7 + 2, none⟩ = some (.int .i64 q1.loc) ∧ w'.cell? ⟨b, k * 7 + 7 + 3, none⟩ = some (.int .i64 q1.n) ∧ w'.cell? ⟨b, k * 7 + 7 + 4, none⟩ = some (.int .i64 q1.wr) ∧ w'.cell? ⟨b, k * 7 + 7 + 5, none⟩ = some (.int .i64 q1.rd) ∧ w'.cell? ⟨b, k * 7 + 7 + 6, none⟩ = some (.int .i64 q1.top)) ∧ (w'.cell? ⟨b, k * 7 + 14, none⟩ = some (.int .i64 rt.kind) ∧ w'.cell? ⟨b, k * 7 + 14 + 1, none⟩ = some (.int .i64 rt.base) ∧ w'.cell? ⟨b, k * 7 + 14 + 2, none⟩ = some (.int .i64 rt.loc) ∧ w'.cell? ⟨b, k * 7 + 14 + 3, none⟩ = some (.int .i64 rt.n) ∧ w'.cell? ⟨b, k * 7 + 14 + 4, none⟩ = some (.int .i64 rt.wr) ∧ w'.cell? ⟨b, k * 7 + 14 + 5, none⟩ = some (.int .i64 rt.rd) ∧ w'.cell? ⟨b, k * 7 + 14 + 6, none⟩ = some (.int .i64 rt.top))) := fun w' y => by
    obtain ⟨⟨a0, a1, a2, a3, a4, a5, a6⟩, ⟨e0, e1, e2, e3, e4, e5, e6⟩, ⟨f0, f1, f2, f3, f4, f5, f6⟩⟩ := y.node3 hi.out
    exact ⟨⟨a0, a1, a2, a3, a4, a5, a6⟩, ⟨e0, e1, e2, e3, e4, e5, e6⟩, ⟨f0, f1, f2, f3, f4, f5, f6⟩⟩
  go_enter Try.func20, Try.ntmps20
  go_wp2_with fail
  have hOh := Lib.hid hO
  have hbh := Lib.hid hb
  clear hO hb
  go_upto_region 1 with fail
  go_cut [8, 9] (fun s8 s9 wx => ∃ (x y : Nat), s8 = .pointer (some ⟨x, 0, none⟩) ∧ s9 = .pointer (some ⟨y, 0, none⟩) ∧ HeldP wx p x (.cells #[.int .i64 q0.kind, .int .i64 q0.base, .int .i64 q0.loc, .int .i64 q0.n, .int .i64 q0.wr, .int .i64 q0.rd, .int .i64 q0.top, .int .i64 q1.kind, .int .i64 q1.base, .int .i64 q1.loc, .int .i64 q1.n, .int .i64 q1.wr, .int .i64 q1.rd, .int .i64 q1.top] 71) ∧ HeldP wx p y (.cells #[.int .i64 rt.kind, .int .i64 rt.base, .int .i64 rt.loc, .int .i64 rt.n, .int .i64 rt.wr, .int .i64 rt.rd, .int .i64 rt.top] 41) ∧ Plays B wx p S ∧ KeepP B p w wx ∧ RegsAt [2, 3, 4] wx p b rs)
  case first =>
    have hl2 := hl.extL (Ext.refl w).drew hP.lt
    obtain ⟨⟨a0, a1, a2, a3, a4, a5, a6⟩, ⟨e0, e1, e2, e3, e4, e5, e6⟩, ⟨f0, f1, f2, f3, f4, f5, f6⟩⟩ := hl.node3 hi.out
    go_region_held2 (fun w' => ((w'.cell? ⟨b, k * 7, none⟩ = some (.int .i64 q0.kind) ∧ w'.cell? ⟨b, k * 7 + 1, none⟩ = some (.int .i64 q0.base) ∧ w'.cell? ⟨b, k * 7 + 2, none⟩ = some (.int .i64 q0.loc) ∧ w'.cell? ⟨b, k * 7 + 3, none⟩ = some (.int .i64 q0.n) ∧ w'.cell? ⟨b, k * 7 + 4, none⟩ = some (.int .i64 q0.wr) ∧ w'.cell? ⟨b, k * 7 + 5, none⟩ = some (.int .i64 q0.rd) ∧ w'.cell? ⟨b, k * 7 + 6, none⟩ = some (.int .i64 q0.top)) ∧ (w'.cell? ⟨b, k * 7 + 7, none⟩ = some (.int .i64 q1.kind) ∧ w'.cell? ⟨b, k * 7 + 7 + 1, none⟩ = some (.int .i64 q1.base) ∧ w'.cell? ⟨b, k * 7 + 7 + 2, none⟩ = some (.int .i64 q1.loc) ∧ w'.cell? ⟨b, k * 7 + 7 + 3, none⟩ = some (.int .i64 q1.n) ∧ w'.cell? ⟨b, k * 7 + 7 + 4, none⟩ = some (.int .i64 q1.wr) ∧ w'.cell? ⟨b, k * 7 + 7 + 5, none⟩ = some (.int .i64 q1.rd) ∧ w'.cell? ⟨b, k * 7 + 7 + 6, none⟩ = some (.int .i64 q1.top)) ∧ (w'.cell? ⟨b, k * 7 + 14, none⟩ = some (.int .i64 rt.kind) ∧ w'.cell? ⟨b, k * 7 + 14 + 1, none⟩ = some (.int .i64 rt.base) ∧ w'.cell? ⟨b, k * 7 + 14 + 2, none⟩ = some (.int .i64 rt.loc) ∧ w'.cell? ⟨b, k * 7 + 14 + 3, none⟩ = some (.int .i64 rt.n) ∧ w'.cell? ⟨b, k * 7 + 14 + 4, none⟩ = some (.int .i64 rt.wr) ∧ w'.cell? ⟨b, k * 7 + 14 + 5, none⟩ = some (.int .i64 rt.rd) ∧ w'.cell? ⟨b, k * 7 + 14 + 6, none⟩ = some (.int .i64 rt.top)))) (first | with_reducible exact hS _ hl2 | go_keep) (fail)
    · rename_i hh
      clear hh
      obtain ⟨b1, b2, hP2, hK2, hl3⟩ := two_held hP hl (.cells #[.int .i64 q0.kind, .int .i64 q0.base, .int .i64 q0.loc, .int .i64 q0.n, .int .i64 q0.wr, .int .i64 q0.rd, .int .i64 q0.top, .int .i64 q1.kind, .int .i64 q1.base, .int .i64 q1.loc, .int .i64 q1.n, .int .i64 q1.wr, .int .i64 q1.rd, .int .i64 q1.top] 71) (.cells #[.int .i64 rt.kind, .int .i64 rt.base, .int .i64 rt.loc, .int .i64 rt.n, .int .i64 rt.wr, .int .i64 rt.rd, .int .i64 rt.top] 41)
      clear hS hl2 hl hP a0 a1 a2 a3 a4 a5 a6 e0 e1 e2 e3 e4 e5 e6 f0 f1 f2 f3 f4 f5 f6
      go_wp2_with fail
      go_meet
      exact ⟨_, _, rfl, rfl, b1, b2, hP2, hK2, hl3⟩
    · rename_i hh
      clear hh
      obtain ⟨b2, b1, hP2, hK2, hl3⟩ := two_held hP hl (.cells #[.int .i64 rt.kind, .int .i64 rt.base, .int .i64 rt.loc, .int .i64 rt.n, .int .i64 rt.wr, .int .i64 rt.rd, .int .i64 rt.top] 41) (.cells #[.int .i64 q0.kind, .int .i64 q0.base, .int .i64 q0.loc, .int .i64 q0.n, .int .i64 q0.wr, .int .i64 q0.rd, .int .i64 q0.top, .int .i64 q1.kind, .int .i64 q1.base, .int .i64 q1.loc, .int .i64 q1.n, .int .i64 q1.wr, .int .i64 q1.rd, .int .i64 q1.top] 71)
      clear hS hl2 hl hP a0 a1 a2 a3 a4 a5 a6 e0 e1 e2 e3 e4 e5 e6 f0 f1 f2 f3 f4 f5 f6
      go_wp2_with fail
      go_meet
      exact ⟨_, _, rfl, rfl, b1, b2, hP2, hK2, hl3⟩
  case rest =>
    clear hS hl hP
    obtain ⟨x, y, rfl, rfl, bx, bt, hP, hK, -⟩ := hcut
    go_wp2_with fail
    refine (hbh.out _).mono ?_
    rintro e w' ⟨rfl, rfl⟩
    have c_bx := bx.cells
    clear hbh
    have hPo := hP
    have bn := hP.held (.cells #[.int .i64 q1.kind, .int .i64 q1.base, .int .i64 q1.loc, .int .i64 q1.n, .int .i64 q1.wr, .int .i64 q1.rd, .int .i64 q1.top] 41)
    have hKn := hK.trans (Keep.alloc (.cells #[.int .i64 q1.kind, .int .i64 q1.base, .int .i64 q1.loc, .int .i64 q1.n, .int .i64 q1.wr, .int .i64 q1.rd, .int .i64 q1.top] 41) hP.lt hP.le)
    have hPn := hP.alloc (.cells #[.int .i64 q1.kind, .int .i64 q1.base, .int .i64 q1.loc, .int .i64 q1.n, .int .i64 q1.wr, .int .i64 q1.rd, .int .i64 q1.top] 41)
    have bxn := bx.alloc (.cells #[.int .i64 q1.kind, .int .i64 q1.base, .int .i64 q1.loc, .int .i64 q1.n, .int .i64 q1.wr, .int .i64 q1.rd, .int .i64 q1.top] 41) hP.lt
    have btn := bt.alloc (.cells #[.int .i64 q1.kind, .int .i64 q1.base, .int .i64 q1.loc, .int .i64 q1.n, .int .i64 q1.wr, .int .i64 q1.rd, .int .i64 q1.top] 41) hP.lt
    clear hP hK bx bt hPo
    have c_bxn := bxn.cells
    go_wp2_with fail
    clear c_bx c_bxn
    generalize hzn : wc.heap.size = z at *
    generalize wc.alloc _ = W at *
    clear hzn
    have hP := hPn
    have hK := hKn
    have bx := bxn
    have bt := btn
    clear hPn hKn bxn btn
    replace hO := hOh.out
    clear hOh
    refine tstepL hO hK (reg_write_p B p S q0 me 1 _ hP hq0 ⟨hm0, by omega⟩) (fun _ h => ⟨rfl, h⟩) ?_
    clear hO hK hP
    intro u S2 w2 hlf _ hP hk hK hO
    replace hN := Nat.lt_of_le_of_lt hlf hN
    replace bn := bn.keep hk
    replace bt := bt.keep hk
    have c_bt := bt.cells
    have hOh := Lib.hid hO
    clear hk hlf bx hO
    go_wp2_with fail
    replace hO := hOh.out
    clear hOh c_bt
    refine tstepL hO hK (reg_write_p B p S2 rt me 0 _ hP hrt ⟨hm0, hm3⟩) (fun _ h => ⟨rfl, h⟩) ?_
    clear hO hK hP
    intro u S3 w3 hlf _ hP hk hK hO
    replace hN := Nat.lt_of_le_of_lt hlf hN
    replace bn := bn.keep hk
    replace bt := bt.keep hk
    have hOh := Lib.hid hO
    clear hk hlf hO
    go_wp2_with fail
    go_loopw [] (fun wr => ∃ (n : Nat) (S4 : TS), Plays B wr p S4 ∧ KeepP B p w wr ∧ HeldP wr p z (.cells #[.int .i64 q1.kind, .int .i64 q1.base, .int .i64 q1.loc, .int .i64 q1.n, .int .i64 q1.wr, .int .i64 q1.rd, .int .i64 q1.top] 41) ∧ HeldP wr p y (.cells #[.int .i64 rt.kind, .int .i64 rt.base, .int .i64 rt.loc, .int .i64 rt.n, .int .i64 rt.wr, .int .i64 rt.rd, .int .i64 rt.top] 41) ∧ Hid (Owes R encU B p w ((arbSpin q1 rt 0 me n).run S4)) ∧ S4.left < n) (fun wr => leftW 1 3 wr p)
    case atStart => exact ⟨N, S3, hP, hK, bn, bt, hOh, hN⟩
    case round =>
      clear hP hK bn bt hOh hN
      obtain ⟨n, S4, hP, hK, bn, bt, hO, hN⟩ := hrel
      replace hO := hO.out
      have hlw := Lib.hid hP.left
      cases n with
      | zero => omega
      | succ n =>
        rw [arbSpin_succ] at hO
        have c_bn := bn.cells
        have hOh := Lib.hid hO
        clear hO
        go_wp2_with fail
        replace hO := hOh.out
        clear hOh c_bn
        refine tstepL hO hK (reg_read_p B p S4 q1 me _ hP hq1 ⟨hm0, by omega⟩) (fun _ h => ⟨rfl, h⟩) ?_
        clear hO hK hP
        intro v S5 w4 _ hlf hP hk hK hO
        replace hlf := hlf (asks_regR _ _ ht1)
        replace bn := bn.keep hk
        replace bt := bt.keep hk
        clear hk
        by_cases hv : v = 0
        · rw [if_pos hv] at hO
          subst hv
          have hf : R (.returned (encU ())) w4 := hO.done hP hK
          clear hO hP hK bn bt
          go_wp2_with fail
          first | exact hf | (refine bodyPost_ret (results_none rfl _ _ _) rfl ?_; exact hf)
        · rw [if_neg hv] at hO
          have hv2 : (v == 0) = false := by rw [beq_eq_false_iff_ne]; exact hv
          have c_bt := bt.cells
          have hOh := Lib.hid hO
          clear hv hO
          go_wp2_with fail
          replace hO := hOh.out
          clear hOh c_bt
          refine tstepL hO hK (reg_read_p B p S5 rt me _ hP hrt ⟨hm0, hm3⟩) (fun _ h => ⟨rfl, h⟩) ?_
          clear hO hK hP
          intro y0 S6 w5 hlf2 _ hP hk hK hO
          replace bn := bn.keep hk
          replace bt := bt.keep hk
          clear hk
          by_cases hy : y0 = 0
          · rw [if_pos hy] at hO
            have hy2 : (y0 != 0) = false := by simpa using hy
            have c_bn := bn.cells
            have hOh := Lib.hid hO
            clear hy hO
            go_wp2_with fail
            refine (cells_pm q1 me _ hq1 ht1 ⟨hm0, by omega⟩).mono ?_
            rintro e w6 ⟨cc, rfl, hcc, hx⟩
            replace bn := bn.ext hx hP.lt
            replace bt := bt.ext hx hP.lt
            replace hK := hK.trans (Keep.of_ext hx hP.lt hP.le)
            replace hP := hP.ext hx
            clear hx c_bn
            have hlw2 := Lib.hid hP.left
            go_wp2_with fail
            refine ⟨⟨n, S6, hP, hK, bn, bt, hOh, by omega⟩, ?_⟩
            rw [hlw.out, hlw2.out]
            omega
          · rw [if_neg hy] at hO
            have hy2 : (y0 != 0) = true := by simpa using hy
            have hf : R (.returned (encU ())) w5 := hO.done hP hK
            clear hO hP hK bn bt hy
            go_wp2_with fail
            first | exact hf | (refine bodyPost_ret (results_none rfl _ _ _) rfl ?_; exact hf)
set_option maxRecDepth 100000 in
set_option maxHeartbeats 1000000 in
theorem arbn_enter_p1 (B p N : Nat) (S : TS) (q0 q1 rt : Reg) (side me : Int) (b c k : Nat) (rs : List Reg) (w : World) (h : Plays B w p S) (hl : RegsAt [2, 3, 4] w p b rs) (hi : rs[k]? = some q0 ∧ rs[k + 1]? = some q1 ∧ rs[k + 2]? = some rt) (hq0 : q0.ok) (hq1 : q1.ok) (hrt : rt.ok)
    (hm0 : 0 ≤ me) (hm1 : me < q0.n) (hm2 : me < q1.n) (hm3 : me < rt.n) (ht1 : q0.told me) (hN : S.left < N) (hs : bitM side = 1) :
    Calls Try.prog 20 #[.pointer (some ⟨p, 0, none⟩), .slice (some ⟨b, k * 7, none⟩) 3 c, .int .i64 side, .int .i64 me] w (Post encU B p w ((arbEnter N q1 q0 rt 1 me).run S)) := by
  generalize hR : Post encU B p w ((arbEnter N q1 q0 rt 1 me).run S) = R
  have hO : Owes R encU B p w ((arbEnter N q1 q0 rt 1 me).run S) := hR ▸ owes _ _ _ _ _
  clear hR
  replace hi := Lib.hid hi
  have hP := h
  clear h
  unfold arbEnter at hO
  have hb := abit_p side
  rw [hs] at hb
  clear hs
  have hS : ∀ w', RegsAt [2, 3, 4] w' p b rs → ((w'.cell? ⟨b, k * 7, none⟩ = some (.int .i64 q0.kind) ∧ w'.cell? ⟨b, k * 7 + 1, none⟩ = some (.int .i64 q0.base) ∧ w'.cell? ⟨b, k * 7 + 2, none⟩ = some (.int .i64 q0.loc) ∧ w'.cell? ⟨b, k * 7 + 3, none⟩ = some (.int .i64 q0.n) ∧ w'.cell? ⟨b, k * 7 + 4, none⟩ = some (.int .i64 q0.wr) ∧ w'.cell? ⟨b, k * 7 + 5, none⟩ = some (.int .i64 q0.rd) ∧ w'.cell? ⟨b, k * 7 + 6, none⟩ = some (.int .i64 q0.top)) ∧ (w'.cell? ⟨b, k * 7 + 7, none⟩ = some (.int .i64 q1.kind) ∧ w'.cell? ⟨b, k * 7 + 7 + 1, none⟩ = some (.int .i64 q1.base) ∧ w'.cell? ⟨b, k * 7 + 7 + 2, none⟩ = some (.int .i64 q1.loc) ∧ w'.cell? ⟨b, k * 7 + 7 + 3, none⟩ = some (.int .i64 q1.n) ∧ w'.cell? ⟨b, k * 7 + 7 + 4, none⟩ = some (.int .i64 q1.wr) ∧ w'.cell? ⟨b, k * 7 + 7 + 5, none⟩ = some (.int .i64 q1.rd) ∧ w'.cell? ⟨b, k * 7 + 7 + 6, none⟩ = some (.int .i64 q1.top)) ∧ (w'.cell? ⟨b, k * 7 + 14, none⟩ = some (.int .i64 rt.kind) ∧ w'.cell? ⟨b, k * 7 + 14 + 1, none⟩ = some (.int .i64 rt.base) ∧ w'.cell? ⟨b, k * 7 + 14 + 2, none⟩ = some (.int .i64 rt.loc) ∧ w'.cell? ⟨b, k * 7 + 14 + 3, none⟩ = some (.int .i64 rt.n) ∧ w'.cell? ⟨b, k * 7 + 14 + 4, none⟩ = some (.int .i64 rt.wr) ∧ w'.cell? ⟨b, k * 7 + 14 + 5, none⟩ = some (.int .i64 rt.rd) ∧ w'.cell? ⟨b, k * 7 + 14 + 6, none⟩ = some (.int .i64 rt.top))) := fun w' y => by
    obtain ⟨⟨a0, a1, a2, a3, a4, a5, a6⟩, ⟨e0, e1, e2, e3, e4, e5, e6⟩, ⟨f0, f1, f2, f3, f4, f5, f6⟩⟩ := y.node3 hi.out
    exact ⟨⟨a0, a1, a2, a3, a4, a5, a6⟩, ⟨e0, e1, e2, e3, e4, e5, e6⟩, ⟨f0, f1, f2, f3, f4, f5, f6⟩⟩
  go_enter Try.func20, Try.ntmps20
  go_wp2_with fail
  have hOh := Lib.hid hO
  have hbh := Lib.hid hb
  clear hO hb
  go_upto_region 1 with fail
  go_cut [8, 9] (fun s8 s9 wx => ∃ (x y : Nat), s8 = .pointer (some ⟨x, 0, none⟩) ∧ s9 = .pointer (some ⟨y, 0, none⟩) ∧ HeldP wx p x (.cells #[.int .i64 q0.kind, .int .i64 q0.base, .int .i64 q0.loc, .int .i64 q0.n, .int .i64 q0.wr, .int .i64 q0.rd, .int .i64 q0.top, .int .i64 q1.kind, .int .i64 q1.base, .int .i64 q1.loc, .int .i64 q1.n, .int .i64 q1.wr, .int .i64 q1.rd, .int .i64 q1.top] 71) ∧ HeldP wx p y (.cells #[.int .i64 rt.kind, .int .i64 rt.base, .int .i64 rt.loc, .int .i64 rt.n, .int .i64 rt.wr, .int .i64 rt.rd, .int .i64 rt.top] 41) ∧ Plays B wx p S ∧ KeepP B p w wx ∧ RegsAt [2, 3, 4] wx p b rs)
  case first =>
    have hl2 := hl.extL (Ext.refl w).drew hP.lt
    obtain ⟨⟨a0, a1, a2, a3, a4, a5, a6⟩, ⟨e0, e1, e2, e3, e4, e5, e6⟩, ⟨f0, f1, f2, f3, f4, f5, f6⟩⟩ := hl.node3 hi.out
    go_region_held2 (fun w' => ((w'.cell? ⟨b, k * 7, none⟩ = some (.int .i64 q0.kind) ∧ w'.cell? ⟨b, k * 7 + 1, none⟩ = some (.int .i64 q0.base) ∧ w'.cell? ⟨b, k * 7 + 2, none⟩ = some (.int .i64 q0.loc) ∧ w'.cell? ⟨b, k * 7 + 3, none⟩ = some (.int .i64 q0.n) ∧ w'.cell? ⟨b, k * 7 + 4, none⟩ = some (.int .i64 q0.wr) ∧ w'.cell? ⟨b, k * 7 + 5, none⟩ = some (.int .i64 q0.rd) ∧ w'.cell? ⟨b, k * 7 + 6, none⟩ = some (.int .i64 q0.top)) ∧ (w'.cell? ⟨b, k * 7 + 7, none⟩ = some (.int .i64 q1.kind) ∧ w'.cell? ⟨b, k * 7 + 7 + 1, none⟩ = some (.int .i64 q1.base) ∧ w'.cell? ⟨b, k * 7 + 7 + 2, none⟩ = some (.int .i64 q1.loc) ∧ w'.cell? ⟨b, k * 7 + 7 + 3, none⟩ = some (.int .i64 q1.n) ∧ w'.cell? ⟨b, k * 7 + 7 + 4, none⟩ = some (.int .i64 q1.wr) ∧ w'.cell? ⟨b, k * 7 + 7 + 5, none⟩ = some (.int .i64 q1.rd) ∧ w'.cell? ⟨b, k * 7 + 7 + 6, none⟩ = some (.int .i64 q1.top)) ∧ (w'.cell? ⟨b, k * 7 + 14, none⟩ = some (.int .i64 rt.kind) ∧ w'.cell? ⟨b, k * 7 + 14 + 1, none⟩ = some (.int .i64 rt.base) ∧ w'.cell? ⟨b, k * 7 + 14 + 2, none⟩ = some (.int .i64 rt.loc) ∧ w'.cell? ⟨b, k * 7 + 14 + 3, none⟩ = some (.int .i64 rt.n) ∧ w'.cell? ⟨b, k * 7 + 14 + 4, none⟩ = some (.int .i64 rt.wr) ∧ w'.cell? ⟨b, k * 7 + 14 + 5, none⟩ = some (.int .i64 rt.rd) ∧ w'.cell? ⟨b, k * 7 + 14 + 6, none⟩ = some (.int .i64 rt.top)))) (first | with_reducible exact hS _ hl2 | go_keep) (fail)
    · rename_i hh
      clear hh
      obtain ⟨b1, b2, hP2, hK2, hl3⟩ := two_held hP hl (.cells #[.int .i64 q0.kind, .int .i64 q0.base, .int .i64 q0.loc, .int .i64 q0.n, .int .i64 q0.wr, .int .i64 q0.rd, .int .i64 q0.top, .int .i64 q1.kind, .int .i64 q1.base, .int .i64 q1.loc, .int .i64 q1.n, .int .i64 q1.wr, .int .i64 q1.rd, .int .i64 q1.top] 71) (.cells #[.int .i64 rt.kind, .int .i64 rt.base, .int .i64 rt.loc, .int .i64 rt.n, .int .i64 rt.wr, .int .i64 rt.rd, .int .i64 rt.top] 41)
      clear hS hl2 hl hP a0 a1 a2 a3 a4 a5 a6 e0 e1 e2 e3 e4 e5 e6 f0 f1 f2 f3 f4 f5 f6
      go_wp2_with fail
      go_meet
      exact ⟨_, _, rfl, rfl, b1, b2, hP2, hK2, hl3⟩
    · rename_i hh
      clear hh
      obtain ⟨b2, b1, hP2, hK2, hl3⟩ := two_held hP hl (.cells #[.int .i64 rt.kind, .int .i64 rt.base, .int .i64 rt.loc, .int .i64 rt.n, .int .i64 rt.wr, .int .i64 rt.rd, .int .i64 rt.top] 41) (.cells #[.int .i64 q0.kind, .int .i64 q0.base, .int .i64 q0.loc, .int .i64 q0.n, .int .i64 q0.wr, .int .i64 q0.rd, .int .i64 q0.top, .int .i64 q1.kind, .int .i64 q1.base, .int .i64 q1.loc, .int .i64 q1.n, .int .i64 q1.wr, .int .i64 q1.rd, .int .i64 q1.top] 71)
      clear hS hl2 hl hP a0 a1 a2 a3 a4 a5 a6 e0 e1 e2 e3 e4 e5 e6 f0 f1 f2 f3 f4 f5 f6
      go_wp2_with fail
      go_meet
      exact ⟨_, _, rfl, rfl, b1, b2, hP2, hK2, hl3⟩
  case rest =>
    clear hS hl hP
    obtain ⟨x, y, rfl, rfl, bx, bt, hP, hK, -⟩ := hcut
    go_wp2_with fail
    refine (hbh.out _).mono ?_
    rintro e w' ⟨rfl, rfl⟩
    have c_bx := bx.cells
    clear hbh
    have hPo := hP
    have bn := hP.held (.cells #[.int .i64 q0.kind, .int .i64 q0.base, .int .i64 q0.loc, .int .i64 q0.n, .int .i64 q0.wr, .int .i64 q0.rd, .int .i64 q0.top] 41)
    have hKn := hK.trans (Keep.alloc (.cells #[.int .i64 q0.kind, .int .i64 q0.base, .int .i64 q0.loc, .int .i64 q0.n, .int .i64 q0.wr, .int .i64 q0.rd, .int .i64 q0.top] 41) hP.lt hP.le)
    have hPn := hP.alloc (.cells #[.int .i64 q0.kind, .int .i64 q0.base, .int .i64 q0.loc, .int .i64 q0.n, .int .i64 q0.wr, .int .i64 q0.rd, .int .i64 q0.top] 41)
    have bxn := bx.alloc (.cells #[.int .i64 q0.kind, .int .i64 q0.base, .int .i64 q0.loc, .int .i64 q0.n, .int .i64 q0.wr, .int .i64 q0.rd, .int .i64 q0.top] 41) hP.lt
    have btn := bt.alloc (.cells #[.int .i64 q0.kind, .int .i64 q0.base, .int .i64 q0.loc, .int .i64 q0.n, .int .i64 q0.wr, .int .i64 q0.rd, .int .i64 q0.top] 41) hP.lt
    clear hP hK bx bt hPo
    have c_bxn := bxn.cells
    go_wp2_with fail
    clear c_bx c_bxn
    generalize hzn : wc.heap.size = z at *
    generalize wc.alloc _ = W at *
    clear hzn
    have hP := hPn
    have hK := hKn
    have bx := bxn
    have bt := btn
    clear hPn hKn bxn btn
    replace hO := hOh.out
    clear hOh
    refine tstepL hO hK (reg_write_p B p S q1 me 1 _ hP hq1 ⟨hm0, by omega⟩) (fun _ h => ⟨rfl, h⟩) ?_
    clear hO hK hP
    intro u S2 w2 hlf _ hP hk hK hO
    replace hN := Nat.lt_of_le_of_lt hlf hN
    replace bn := bn.keep hk
    replace bt := bt.keep hk
    have c_bt := bt.cells
    have hOh := Lib.hid hO
    clear hk hlf bx hO
    go_wp2_with fail
    replace hO := hOh.out
    clear hOh c_bt
    refine tstepL hO hK (reg_write_p B p S2 rt me 1 _ hP hrt ⟨hm0, hm3⟩) (fun _ h => ⟨rfl, h⟩) ?_
    clear hO hK hP
    intro u S3 w3 hlf _ hP hk hK hO
    replace hN := Nat.lt_of_le_of_lt hlf hN
    replace bn := bn.keep hk
    replace bt := bt.keep hk
    have hOh := Lib.hid hO
    clear hk hlf hO
    go_wp2_with fail
    go_loopw [] (fun wr => ∃ (n : Nat) (S4 : TS), Plays B wr p S4 ∧ KeepP B p w wr ∧ HeldP wr p z (.cells #[.int .i64 q0.kind, .int .i64 q0.base, .int .i64 q0.loc, .int .i64 q0.n, .int .i64 q0.wr, .int .i64 q0.rd, .int .i64 q0.top] 41) ∧ HeldP wr p y (.cells #[.int .i64 rt.kind, .int .i64 rt.base, .int .i64 rt.loc, .int .i64 rt.n, .int .i64 rt.wr, .int .i64 rt.rd, .int .i64 rt.top] 41) ∧ Hid (Owes R encU B p w ((arbSpin q0 rt 1 me n).run S4)) ∧ S4.left < n) (fun wr => leftW 1 3 wr p)
    case atStart => exact ⟨N, S3, hP, hK, bn, bt, hOh, hN⟩
    case round =>
      clear hP hK bn bt hOh hN
      obtain ⟨n, S4, hP, hK, bn, bt, hO, hN⟩ := hrel
      replace hO := hO.out
      have hlw := Lib.hid hP.left
      cases n with
      | zero => omega
      | succ n =>
        rw [arbSpin_succ] at hO
        have c_bn := bn.cells
        have hOh := Lib.hid hO
        clear hO
        go_wp2_with fail
        replace hO := hOh.out
        clear hOh c_bn
        refine tstepL hO hK (reg_read_p B p S4 q0 me _ hP hq0 ⟨hm0, by omega⟩) (fun _ h => ⟨rfl, h⟩) ?_
        clear hO hK hP
        intro v S5 w4 _ hlf hP hk hK hO
        replace hlf := hlf (asks_regR _ _ ht1)
        replace bn := bn.keep hk
        replace bt := bt.keep hk
        clear hk
        by_cases hv : v = 0
        · rw [if_pos hv] at hO
          subst hv
          have hf : R (.returned (encU ())) w4 := hO.done hP hK
          clear hO hP hK bn bt
          go_wp2_with fail
          first | exact hf | (refine bodyPost_ret (results_none rfl _ _ _) rfl ?_; exact hf)
        · rw [if_neg hv] at hO
          have hv2 : (v == 0) = false := by rw [beq_eq_false_iff_ne]; exact hv
          have c_bt := bt.cells
          have hOh := Lib.hid hO
          clear hv hO
          go_wp2_with fail
          replace hO := hOh.out
          clear hOh c_bt
          refine tstepL hO hK (reg_read_p B p S5 rt me _ hP hrt ⟨hm0, hm3⟩) (fun _ h => ⟨rfl, h⟩) ?_
          clear hO hK hP
          intro y0 S6 w5 hlf2 _ hP hk hK hO
          replace bn := bn.keep hk
          replace bt := bt.keep hk
          clear hk
          by_cases hy : y0 = 1
          · rw [if_pos hy] at hO
            have hy2 : (y0 != 1) = false := by simpa using hy
            have c_bn := bn.cells
            have hOh := Lib.hid hO
            clear hy hO
            go_wp2_with fail
            refine (cells_pm q0 me _ hq0 ht1 ⟨hm0, by omega⟩).mono ?_
            rintro e w6 ⟨cc, rfl, hcc, hx⟩
            replace bn := bn.ext hx hP.lt
            replace bt := bt.ext hx hP.lt
            replace hK := hK.trans (Keep.of_ext hx hP.lt hP.le)
            replace hP := hP.ext hx
            clear hx c_bn
            have hlw2 := Lib.hid hP.left
            go_wp2_with fail
            refine ⟨⟨n, S6, hP, hK, bn, bt, hOh, by omega⟩, ?_⟩
            rw [hlw.out, hlw2.out]
            omega
          · rw [if_neg hy] at hO
            have hy2 : (y0 != 1) = true := by simpa using hy
            have hf : R (.returned (encU ())) w5 := hO.done hP hK
            clear hO hP hK bn bt hy
            go_wp2_with fail
            first | exact hf | (refine bodyPost_ret (results_none rfl _ _ _) rfl ?_; exact hf)
set_option maxRecDepth 100000 in
theorem arbn_leave_p0 (B p : Nat) (S : TS) (q0 q1 rt : Reg) (side me : Int) (b c k : Nat) (rs : List Reg) (w : World) (h : Plays B w p S) (hl : RegsAt [2, 3, 4] w p b rs) (hi : rs[k]? = some q0 ∧ rs[k + 1]? = some q1 ∧ rs[k + 2]? = some rt) (hq : q0.ok)
    (hm0 : 0 ≤ me) (hm1 : me < q0.n) (hs : bitM side = 0) :
    Calls Try.prog 51 #[.pointer (some ⟨p, 0, none⟩), .slice (some ⟨b, k * 7, none⟩) 3 c, .int .i64 side, .int .i64 me] w (Post encU B p w ((regW q0 me 0).run S)) := by
  generalize hR : Post encU B p w ((regW q0 me 0).run S) = R
  have hO : Owes R encU B p w ((regW q0 me 0).run S) := hR ▸ owes _ _ _ _ _
  clear hR
  replace hi := Lib.hid hi
  have hK := Keep.refl [2, 3, 4] B p w
  have hP := h
  clear h
  have hb := abit_p side
  rw [hs] at hb
  clear hs
  have hS : ∀ w', RegsAt [2, 3, 4] w' p b rs → ((w'.cell? ⟨b, k * 7, none⟩ = some (.int .i64 q0.kind) ∧ w'.cell? ⟨b, k * 7 + 1, none⟩ = some (.int .i64 q0.base) ∧ w'.cell? ⟨b, k * 7 + 2, none⟩ = some (.int .i64 q0.loc) ∧ w'.cell? ⟨b, k * 7 + 3, none⟩ = some (.int .i64 q0.n) ∧ w'.cell? ⟨b, k * 7 + 4, none⟩ = some (.int .i64 q0.wr) ∧ w'.cell? ⟨b, k * 7 + 5, none⟩ = some (.int .i64 q0.rd) ∧ w'.cell? ⟨b, k * 7 + 6, none⟩ = some (.int .i64 q0.top)) ∧ (w'.cell? ⟨b, k * 7 + 7, none⟩ = some (.int .i64 q1.kind) ∧ w'.cell? ⟨b, k * 7 + 7 + 1, none⟩ = some (.int .i64 q1.base) ∧ w'.cell? ⟨b, k * 7 + 7 + 2, none⟩ = some (.int .i64 q1.loc) ∧ w'.cell? ⟨b, k * 7 + 7 + 3, none⟩ = some (.int .i64 q1.n) ∧ w'.cell? ⟨b, k * 7 + 7 + 4, none⟩ = some (.int .i64 q1.wr) ∧ w'.cell? ⟨b, k * 7 + 7 + 5, none⟩ = some (.int .i64 q1.rd) ∧ w'.cell? ⟨b, k * 7 + 7 + 6, none⟩ = some (.int .i64 q1.top)) ∧ (w'.cell? ⟨b, k * 7 + 14, none⟩ = some (.int .i64 rt.kind) ∧ w'.cell? ⟨b, k * 7 + 14 + 1, none⟩ = some (.int .i64 rt.base) ∧ w'.cell? ⟨b, k * 7 + 14 + 2, none⟩ = some (.int .i64 rt.loc) ∧ w'.cell? ⟨b, k * 7 + 14 + 3, none⟩ = some (.int .i64 rt.n) ∧ w'.cell? ⟨b, k * 7 + 14 + 4, none⟩ = some (.int .i64 rt.wr) ∧ w'.cell? ⟨b, k * 7 + 14 + 5, none⟩ = some (.int .i64 rt.rd) ∧ w'.cell? ⟨b, k * 7 + 14 + 6, none⟩ = some (.int .i64 rt.top))) := fun w' y => by
    obtain ⟨⟨a0, a1, a2, a3, a4, a5, a6⟩, ⟨e0, e1, e2, e3, e4, e5, e6⟩, ⟨f0, f1, f2, f3, f4, f5, f6⟩⟩ := y.node3 hi.out
    exact ⟨⟨a0, a1, a2, a3, a4, a5, a6⟩, ⟨e0, e1, e2, e3, e4, e5, e6⟩, ⟨f0, f1, f2, f3, f4, f5, f6⟩⟩
  go_enter Try.func51, Try.ntmps51
  go_wp2_with fail
  have hOh := Lib.hid hO
  have hbh := Lib.hid hb
  clear hO hb
  have hl2 := hl.extL (Ext.refl w).drew hP.lt
  obtain ⟨⟨a0, a1, a2, a3, a4, a5, a6⟩, ⟨e0, e1, e2, e3, e4, e5, e6⟩, ⟨f0, f1, f2, f3, f4, f5, f6⟩⟩ := hl.node3 hi.out
  go_region_held2 (fun w' => ((w'.cell? ⟨b, k * 7, none⟩ = some (.int .i64 q0.kind) ∧ w'.cell? ⟨b, k * 7 + 1, none⟩ = some (.int .i64 q0.base) ∧ w'.cell? ⟨b, k * 7 + 2, none⟩ = some (.int .i64 q0.loc) ∧ w'.cell? ⟨b, k * 7 + 3, none⟩ = some (.int .i64 q0.n) ∧ w'.cell? ⟨b, k * 7 + 4, none⟩ = some (.int .i64 q0.wr) ∧ w'.cell? ⟨b, k * 7 + 5, none⟩ = some (.int .i64 q0.rd) ∧ w'.cell? ⟨b, k * 7 + 6, none⟩ = some (.int .i64 q0.top)) ∧ (w'.cell? ⟨b, k * 7 + 7, none⟩ = some (.int .i64 q1.kind) ∧ w'.cell? ⟨b, k * 7 + 7 + 1, none⟩ = some (.int .i64 q1.base) ∧ w'.cell? ⟨b, k * 7 + 7 + 2, none⟩ = some (.int .i64 q1.loc) ∧ w'.cell? ⟨b, k * 7 + 7 + 3, none⟩ = some (.int .i64 q1.n) ∧ w'.cell? ⟨b, k * 7 + 7 + 4, none⟩ = some (.int .i64 q1.wr) ∧ w'.cell? ⟨b, k * 7 + 7 + 5, none⟩ = some (.int .i64 q1.rd) ∧ w'.cell? ⟨b, k * 7 + 7 + 6, none⟩ = some (.int .i64 q1.top)) ∧ (w'.cell? ⟨b, k * 7 + 14, none⟩ = some (.int .i64 rt.kind) ∧ w'.cell? ⟨b, k * 7 + 14 + 1, none⟩ = some (.int .i64 rt.base) ∧ w'.cell? ⟨b, k * 7 + 14 + 2, none⟩ = some (.int .i64 rt.loc) ∧ w'.cell? ⟨b, k * 7 + 14 + 3, none⟩ = some (.int .i64 rt.n) ∧ w'.cell? ⟨b, k * 7 + 14 + 4, none⟩ = some (.int .i64 rt.wr) ∧ w'.cell? ⟨b, k * 7 + 14 + 5, none⟩ = some (.int .i64 rt.rd) ∧ w'.cell? ⟨b, k * 7 + 14 + 6, none⟩ = some (.int .i64 rt.top)))) (first | with_reducible exact hS _ hl2 | go_keep) (fail)
  rename_i hh
  clear hh
  have bx := (hP.held (.cells #[.int .i64 q0.kind, .int .i64 q0.base, .int .i64 q0.loc, .int .i64 q0.n, .int .i64 q0.wr, .int .i64 q0.rd, .int .i64 q0.top, .int .i64 q1.kind, .int .i64 q1.base, .int .i64 q1.loc, .int .i64 q1.n, .int .i64 q1.wr, .int .i64 q1.rd, .int .i64 q1.top] 71)).drew
  replace hK := (hK.trans (Keep.alloc (.cells #[.int .i64 q0.kind, .int .i64 q0.base, .int .i64 q0.loc, .int .i64 q0.n, .int .i64 q0.wr, .int .i64 q0.rd, .int .i64 q0.top, .int .i64 q1.kind, .int .i64 q1.base, .int .i64 q1.loc, .int .i64 q1.n, .int .i64 q1.wr, .int .i64 q1.rd, .int .i64 q1.top] 71) hP.lt hP.le)).drew
  replace hP := (hP.alloc (.cells #[.int .i64 q0.kind, .int .i64 q0.base, .int .i64 q0.loc, .int .i64 q0.n, .int .i64 q0.wr, .int .i64 q0.rd, .int .i64 q0.top, .int .i64 q1.kind, .int .i64 q1.base, .int .i64 q1.loc, .int .i64 q1.n, .int .i64 q1.wr, .int .i64 q1.rd, .int .i64 q1.top] 71)).drew
  clear hS hl2 hl a0 a1 a2 a3 a4 a5 a6 e0 e1 e2 e3 e4 e5 e6 f0 f1 f2 f3 f4 f5 f6
  have c_bx := bx.cells
  go_wp2_with fail
  refine (hbh.out _).mono ?_
  rintro e w' ⟨rfl, rfl⟩
  go_wp2_with fail
  replace hO := hOh.out
  clear hOh c_bx bx
  refine tlast hO hK (reg_write_p B p S q0 me 0 _ hP hq ⟨hm0, hm1⟩) (fun _ h => ⟨rfl, h⟩) ?_
  clear hO hK hP
  intro u S2 w3 hr hP hk hK hO
  have hf := hO.done hP hK
  clear hO hP hK hr hk
  go_wp2_with fail
  first | exact hf | (refine bodyPost_ret (results_none rfl _ _ _) rfl ?_; exact hf)
set_option maxRecDepth 100000 in
theorem arbn_leave_p1 (B p : Nat) (S : TS) (q0 q1 rt : Reg) (side me : Int) (b c k : Nat) (rs : List Reg) (w : World) (h : Plays B w p S) (hl : RegsAt [2, 3, 4] w p b rs) (hi : rs[k]? = some q0 ∧ rs[k + 1]? = some q1 ∧ rs[k + 2]? = some rt) (hq : q1.ok)
    (hm0 : 0 ≤ me) (hm1 : me < q1.n) (hs : bitM side = 1) :
    Calls Try.prog 51 #[.pointer (some ⟨p, 0, none⟩), .slice (some ⟨b, k * 7, none⟩) 3 c, .int .i64 side, .int .i64 me] w (Post encU B p w ((regW q1 me 0).run S)) := by
  generalize hR : Post encU B p w ((regW q1 me 0).run S) = R
  have hO : Owes R encU B p w ((regW q1 me 0).run S) := hR ▸ owes _ _ _ _ _
  clear hR
  replace hi := Lib.hid hi
  have hK := Keep.refl [2, 3, 4] B p w
  have hP := h
  clear h
  have hb := abit_p side
  rw [hs] at hb
  clear hs
  have hS : ∀ w', RegsAt [2, 3, 4] w' p b rs → ((w'.cell? ⟨b, k * 7, none⟩ = some (.int .i64 q0.kind) ∧ w'.cell? ⟨b, k * 7 + 1, none⟩ = some (.int .i64 q0.base) ∧ w'.cell? ⟨b, k * 7 + 2, none⟩ = some (.int .i64 q0.loc) ∧ w'.cell? ⟨b, k * 7 + 3, none⟩ = some (.int .i64 q0.n) ∧ w'.cell? ⟨b, k * 7 + 4, none⟩ = some (.int .i64 q0.wr) ∧ w'.cell? ⟨b, k * 7 + 5, none⟩ = some (.int .i64 q0.rd) ∧ w'.cell? ⟨b, k * 7 + 6, none⟩ = some (.int .i64 q0.top)) ∧ (w'.cell? ⟨b, k * 7 + 7, none⟩ = some (.int .i64 q1.kind) ∧ w'.cell? ⟨b, k * 7 + 7 + 1, none⟩ = some (.int .i64 q1.base) ∧ w'.cell? ⟨b, k * 7 + 7 + 2, none⟩ = some (.int .i64 q1.loc) ∧ w'.cell? ⟨b, k * 7 + 7 + 3, none⟩ = some (.int .i64 q1.n) ∧ w'.cell? ⟨b, k * 7 + 7 + 4, none⟩ = some (.int .i64 q1.wr) ∧ w'.cell? ⟨b, k * 7 + 7 + 5, none⟩ = some (.int .i64 q1.rd) ∧ w'.cell? ⟨b, k * 7 + 7 + 6, none⟩ = some (.int .i64 q1.top)) ∧ (w'.cell? ⟨b, k * 7 + 14, none⟩ = some (.int .i64 rt.kind) ∧ w'.cell? ⟨b, k * 7 + 14 + 1, none⟩ = some (.int .i64 rt.base) ∧ w'.cell? ⟨b, k * 7 + 14 + 2, none⟩ = some (.int .i64 rt.loc) ∧ w'.cell? ⟨b, k * 7 + 14 + 3, none⟩ = some (.int .i64 rt.n) ∧ w'.cell? ⟨b, k * 7 + 14 + 4, none⟩ = some (.int .i64 rt.wr) ∧ w'.cell? ⟨b, k * 7 + 14 + 5, none⟩ = some (.int .i64 rt.rd) ∧ w'.cell? ⟨b, k * 7 + 14 + 6, none⟩ = some (.int .i64 rt.top))) := fun w' y => by
    obtain ⟨⟨a0, a1, a2, a3, a4, a5, a6⟩, ⟨e0, e1, e2, e3, e4, e5, e6⟩, ⟨f0, f1, f2, f3, f4, f5, f6⟩⟩ := y.node3 hi.out
    exact ⟨⟨a0, a1, a2, a3, a4, a5, a6⟩, ⟨e0, e1, e2, e3, e4, e5, e6⟩, ⟨f0, f1, f2, f3, f4, f5, f6⟩⟩
  go_enter Try.func51, Try.ntmps51
  go_wp2_with fail
  have hOh := Lib.hid hO
  have hbh := Lib.hid hb
  clear hO hb
  have hl2 := hl.extL (Ext.refl w).drew hP.lt
  obtain ⟨⟨a0, a1, a2, a3, a4, a5, a6⟩, ⟨e0, e1, e2, e3, e4, e5, e6⟩, ⟨f0, f1, f2, f3, f4, f5, f6⟩⟩ := hl.node3 hi.out
  go_region_held2 (fun w' => ((w'.cell? ⟨b, k * 7, none⟩ = some (.int .i64 q0.kind) ∧ w'.cell? ⟨b, k * 7 + 1, none⟩ = some (.int .i64 q0.base) ∧ w'.cell? ⟨b, k * 7 + 2, none⟩ = some (.int .i64 q0.loc) ∧ w'.cell? ⟨b, k * 7 + 3, none⟩ = some (.int .i64 q0.n) ∧ w'.cell? ⟨b, k * 7 + 4, none⟩ = some (.int .i64 q0.wr) ∧ w'.cell? ⟨b, k * 7 + 5, none⟩ = some (.int .i64 q0.rd) ∧ w'.cell? ⟨b, k * 7 + 6, none⟩ = some (.int .i64 q0.top)) ∧ (w'.cell? ⟨b, k * 7 + 7, none⟩ = some (.int .i64 q1.kind) ∧ w'.cell? ⟨b, k * 7 + 7 + 1, none⟩ = some (.int .i64 q1.base) ∧ w'.cell? ⟨b, k * 7 + 7 + 2, none⟩ = some (.int .i64 q1.loc) ∧ w'.cell? ⟨b, k * 7 + 7 + 3, none⟩ = some (.int .i64 q1.n) ∧ w'.cell? ⟨b, k * 7 + 7 + 4, none⟩ = some (.int .i64 q1.wr) ∧ w'.cell? ⟨b, k * 7 + 7 + 5, none⟩ = some (.int .i64 q1.rd) ∧ w'.cell? ⟨b, k * 7 + 7 + 6, none⟩ = some (.int .i64 q1.top)) ∧ (w'.cell? ⟨b, k * 7 + 14, none⟩ = some (.int .i64 rt.kind) ∧ w'.cell? ⟨b, k * 7 + 14 + 1, none⟩ = some (.int .i64 rt.base) ∧ w'.cell? ⟨b, k * 7 + 14 + 2, none⟩ = some (.int .i64 rt.loc) ∧ w'.cell? ⟨b, k * 7 + 14 + 3, none⟩ = some (.int .i64 rt.n) ∧ w'.cell? ⟨b, k * 7 + 14 + 4, none⟩ = some (.int .i64 rt.wr) ∧ w'.cell? ⟨b, k * 7 + 14 + 5, none⟩ = some (.int .i64 rt.rd) ∧ w'.cell? ⟨b, k * 7 + 14 + 6, none⟩ = some (.int .i64 rt.top)))) (first | with_reducible exact hS _ hl2 | go_keep) (fail)
  rename_i hh
  clear hh
  have bx := (hP.held (.cells #[.int .i64 q0.kind, .int .i64 q0.base, .int .i64 q0.loc, .int .i64 q0.n, .int .i64 q0.wr, .int .i64 q0.rd, .int .i64 q0.top, .int .i64 q1.kind, .int .i64 q1.base, .int .i64 q1.loc, .int .i64 q1.n, .int .i64 q1.wr, .int .i64 q1.rd, .int .i64 q1.top] 71)).drew
  replace hK := (hK.trans (Keep.alloc (.cells #[.int .i64 q0.kind, .int .i64 q0.base, .int .i64 q0.loc, .int .i64 q0.n, .int .i64 q0.wr, .int .i64 q0.rd, .int .i64 q0.top, .int .i64 q1.kind, .int .i64 q1.base, .int .i64 q1.loc, .int .i64 q1.n, .int .i64 q1.wr, .int .i64 q1.rd, .int .i64 q1.top] 71) hP.lt hP.le)).drew
  replace hP := (hP.alloc (.cells #[.int .i64 q0.kind, .int .i64 q0.base, .int .i64 q0.loc, .int .i64 q0.n, .int .i64 q0.wr, .int .i64 q0.rd, .int .i64 q0.top, .int .i64 q1.kind, .int .i64 q1.base, .int .i64 q1.loc, .int .i64 q1.n, .int .i64 q1.wr, .int .i64 q1.rd, .int .i64 q1.top] 71)).drew
  clear hS hl2 hl a0 a1 a2 a3 a4 a5 a6 e0 e1 e2 e3 e4 e5 e6 f0 f1 f2 f3 f4 f5 f6
  have c_bx := bx.cells
  go_wp2_with fail
  refine (hbh.out _).mono ?_
  rintro e w' ⟨rfl, rfl⟩
  go_wp2_with fail
  replace hO := hOh.out
  clear hOh c_bx bx
  refine tlast hO hK (reg_write_p B p S q1 me 0 _ hP hq ⟨hm0, hm1⟩) (fun _ h => ⟨rfl, h⟩) ?_
  clear hO hK hP
  intro u S2 w3 hr hP hk hK hO
  have hf := hO.done hP hK
  clear hO hP hK hr hk
  go_wp2_with fail
  first | exact hf | (refine bodyPost_ret (results_none rfl _ _ _) rfl ?_; exact hf)
theorem arbn_enter_p (B p N : Nat) (S : TS) (q0 q1 rt : Reg) (side me : Int) (b c k : Nat) (rs : List Reg) (w : World) (h : Plays B w p S) (hl : RegsAt [2, 3, 4] w p b rs) (hi : rs[k]? = some q0 ∧ rs[k + 1]? = some q1 ∧ rs[k + 2]? = some rt) (hq0 : q0.ok) (hq1 : q1.ok) (hrt : rt.ok)
    (hm0 : 0 ≤ me) (hm1 : me < q0.n) (hm2 : me < q1.n) (hm3 : me < rt.n) (ht0 : q0.told me) (ht1 : q1.told me) (hN : S.left < N) :
    Calls Try.prog 20 #[.pointer (some ⟨p, 0, none⟩), .slice (some ⟨b, k * 7, none⟩) 3 c, .int .i64 side, .int .i64 me] w (Post encU B p w ((arbM N q0 q1 rt side me).run S)) := by
  unfold arbM
  rcases bitM_or side with hs | hs
  · rw [if_neg (by omega)]
    exact arbn_enter_p0 B p N S q0 q1 rt side me b c k rs w h hl hi hq0 hq1 hrt hm0 hm1 hm2 hm3 ht1 hN hs
  · rw [if_pos hs]
    exact arbn_enter_p1 B p N S q0 q1 rt side me b c k rs w h hl hi hq0 hq1 hrt hm0 hm1 hm2 hm3 ht0 hN hs
theorem arbn_leave_p (B p : Nat) (S : TS) (q0 q1 rt : Reg) (side me : Int) (b c k : Nat) (rs : List Reg) (w : World) (h : Plays B w p S) (hl : RegsAt [2, 3, 4] w p b rs) (hi : rs[k]? = some q0 ∧ rs[k + 1]? = some q1 ∧ rs[k + 2]? = some rt) (hq0 : q0.ok) (hq1 : q1.ok)
    (hm0 : 0 ≤ me) (hm1 : me < q0.n) (hm2 : me < q1.n) :
    Calls Try.prog 51 #[.pointer (some ⟨p, 0, none⟩), .slice (some ⟨b, k * 7, none⟩) 3 c, .int .i64 side, .int .i64 me] w (Post encU B p w ((kesL q0 q1 side me).run S)) := by
  unfold kesL
  rcases bitM_or side with hs | hs
  · rw [hs, if_neg (by omega)]
    exact arbn_leave_p0 B p S q0 q1 rt side me b c k rs w h hl hi hq0 hm0 hm1 hs
  · rw [hs, if_pos rfl]
    exact arbn_leave_p1 B p S q0 q1 rt side me b c k rs w h hl hi hq1 hm0 hm2 hs
end Go.Proofs.Ytpcohbpeglledaa
/-
  Kessels' lock at a node of a tree: entering and leaving, both sides.
-/
namespace Go.Proofs.Ytpcohbpeglledaa
open Go.RowKit Kv
theorem RegsAt.node4r {ix : List Nat} {p b k : Nat} {w : World} {rs : List Reg} {x y z u : Reg} (h : RegsAt ix w p b rs) (hi : rs[k]? = some x ∧ rs[k + 1]? = some y ∧ rs[k + 2]? = some z ∧ rs[k + 3]? = some u) :
    RegCells w b (k * 7) x ∧ RegCells w b (k * 7 + 7) y ∧ RegCells w b (k * 7 + 14) z ∧ RegCells w b (k * 7 + 21) u := by
  have h1 := h.nth hi.2.1
  have h2 := h.nth hi.2.2.1
  have h3 := h.nth hi.2.2.2
  rw [show (k + 1) * 7 = k * 7 + 7 from by omega] at h1
  rw [show (k + 2) * 7 = k * 7 + 14 from by omega] at h2
  rw [show (k + 3) * 7 = k * 7 + 21 from by omega] at h3
  exact ⟨h.nth hi.1, h1, h2, h3⟩
theorem RegsAt.node4 {ix : List Nat} {p b k : Nat} {w : World} {rs : List Reg} {x y z u : Reg} (h : RegsAt ix w p b rs) (hi : rs[k]? = some x ∧ rs[k + 1]? = some y ∧ rs[k + 2]? = some z ∧ rs[k + 3]? = some u) :
    RegCells w b (k * 7) x ∧ RegCells w b (k * 7 + 7) y ∧ RegCells w b (k * 7 + 14) z ∧ RegCells w b (k * 7 + 14 + 7) u := by
  obtain ⟨h0, h1, h2, h3⟩ := h.node4r hi
  rw [show k * 7 + 21 = k * 7 + 14 + 7 from by omega] at h3
  exact ⟨h0, h1, h2, h3⟩
set_option maxRecDepth 100000 in
set_option maxHeartbeats 1000000 in
theorem kesn_enter_p0 (B p N : Nat) (S : TS) (q0 q1 r0 r1 : Reg) (side me : Int) (b c k : Nat) (rs : List Reg) (w : World) (h : Plays B w p S) (hl : RegsAt [2, 3, 4] w p b rs) (hi : rs[k]? = some q0 ∧ rs[k + 1]? = some q1 ∧ rs[k + 2]? = some r0 ∧ rs[k + 3]? = some r1) (hq0 : q0.ok) (hq1 : q1.ok) (hr0 : r0.ok) (hr1 : r1.ok)
    (hm0 : 0 ≤ me) (hm1 : me < q0.n) (hm2 : me < q1.n) (hm3 : me < r0.n) (hm4 : me < r1.n) (ht1 : q1.told me) (_ht2 : r1.told me) (hN : S.left < N) (hs : bitM side = 0) (hc4 : 4 ≤ c) (hc5 : c ≤ 9223372036854775807) :
    Calls Try.prog 14 #[.pointer (some ⟨p, 0, none⟩), .slice (some ⟨b, k * 7, none⟩) 4 c, .int .i64 side, .int .i64 me] w (Post encU B p w ((kesEnter N q0 q1 r0 r1 0 me).run S)) := by
  generalize hR : Post encU B p w ((kesEnter N q0 q1 r0 r1 0 me).run S) = R
  have hO : Owes R encU B p w ((kesEnter N q0 q1 r0 r1 0 me).run S) := hR ▸ owes _ _ _ _ _
  clear hR
  replace hi := Lib.hid hi
  have hmf : ∀ (fn : Fn) (first cap : Array Value) (w : World), (Instr.makeFunc fn first cap).run Try.prog w = .ok (.func fn first cap) w := fun _ _ _ _ => rfl
  have hK := Keep.refl [2, 3, 4] B p w
  have hP := h
  clear h
  unfold kesEnter at hO
  obtain ⟨⟨a0, a1, a2, a3, a4, a5, a6⟩, ⟨e0, e1, e2, e3, e4, e5, e6⟩, ⟨f0, f1, f2, f3, f4, f5, f6⟩, ⟨g0, g1, g2, g3, g4, g5, g6⟩⟩ := hl.node4 hi.out
  have hc6 : (2 : Int) ≤ (c : Int) := by omega
  have hc7 : (4 : Int) ≤ (c : Int) := by omega
  have hb := kbit_p side w
  rw [hs] at hb
  clear hs
  go_enter Try.func14, Try.ntmps14
  go_wp2_with fail
  refine hb.mono ?_
  rintro e w' ⟨rfl, rfl⟩
  clear hb
  go_wp2_with fail
  go_quiet (fail)
  have hx := (Ext.refl w).drewN nq
  replace hl := hl.extL hx hP.lt
  replace hK := hK.trans (Keep.of_ext hx hP.lt hP.le)
  replace hP := hP.ext hx
  clear a0 a1 a2 a3 a4 a5 a6 e0 e1 e2 e3 e4 e5 e6 f0 f1 f2 f3 f4 f5 f6 g0 g1 g2 g3 g4 g5 g6 hx
  generalize w.drewN nq = wz at *
  obtain ⟨⟨a0, a1, a2, a3, a4, a5, a6⟩, ⟨e0, e1, e2, e3, e4, e5, e6⟩, ⟨f0, f1, f2, f3, f4, f5, f6⟩, ⟨g0, g1, g2, g3, g4, g5, g6⟩⟩ := hl.node4 hi.out
  go_wp2_with fail
  refine tstepL hO hK (reg_write_p B p S q0 me 1 _ hP hq0 ⟨hm0, by omega⟩) (fun _ h => ⟨rfl, h⟩) ?_
  clear hO hK hP
  intro u S w1 hlf _ hP hk hK hO
  replace hN := Nat.lt_of_le_of_lt hlf hN
  replace hl := hl.keep hk
  clear a0 a1 a2 a3 a4 a5 a6 e0 e1 e2 e3 e4 e5 e6 f0 f1 f2 f3 f4 f5 f6 g0 g1 g2 g3 g4 g5 g6 hk hlf
  obtain ⟨⟨a0, a1, a2, a3, a4, a5, a6⟩, ⟨e0, e1, e2, e3, e4, e5, e6⟩, ⟨f0, f1, f2, f3, f4, f5, f6⟩, ⟨g0, g1, g2, g3, g4, g5, g6⟩⟩ := hl.node4 hi.out
  go_wp2_with fail
  refine tstepL hO hK (reg_read_p B p S r1 me _ hP hr1 ⟨hm0, by omega⟩) (fun _ h => ⟨rfl, h⟩) ?_
  clear hO hK hP
  intro x S w2 hlf _ hP hk hK hO
  replace hN := Nat.lt_of_le_of_lt hlf hN
  replace hl := hl.keep hk
  clear a0 a1 a2 a3 a4 a5 a6 e0 e1 e2 e3 e4 e5 e6 f0 f1 f2 f3 f4 f5 f6 g0 g1 g2 g3 g4 g5 g6 hk hlf
  obtain ⟨⟨a0, a1, a2, a3, a4, a5, a6⟩, ⟨e0, e1, e2, e3, e4, e5, e6⟩, ⟨f0, f1, f2, f3, f4, f5, f6⟩, ⟨g0, g1, g2, g3, g4, g5, g6⟩⟩ := hl.node4 hi.out
  go_wp2_with fail
  have hbx : 0 ≤ bitM x ∧ bitM x ≤ 1 := by unfold bitM; split <;> omega
  have hwx := w64 (1 - bitM x) (by omega) (by omega)
  refine (kbit_p x _).mono ?_
  rintro e w' ⟨rfl, rfl⟩
  go_wp2_with fail
  have hPo := hP
  have bT := hP.held (.cells #[.int .i64 (bitM x)] 3)
  replace hK := hK.trans (Keep.alloc (.cells #[.int .i64 (bitM x)] 3) hP.lt hP.le)
  replace hP := hP.alloc (.cells #[.int .i64 (bitM x)] 3)
  have c_bT := bT.cells
  replace hl := hl.extL ((Ext.refl _).alloc (.cells #[.int .i64 (bitM x)] 3)) hPo.lt
  clear hPo
  clear a0 a1 a2 a3 a4 a5 a6 e0 e1 e2 e3 e4 e5 e6 f0 f1 f2 f3 f4 f5 f6 g0 g1 g2 g3 g4 g5 g6
  rw [show kesT 0 x = (bitM x) from rfl] at hO
  replace hP := hP.drew
  replace hK := hK.drew
  replace bT := bT.drew
  replace hl := hl.extL (Ext.refl _).drew hP.lt
  have hS : ∀ w', RegsAt [2, 3, 4] w' p b rs → HeldP w' p w2.heap.size (.cells #[.int .i64 (bitM x)] 3) → (w'.cell? ⟨b, k * 7 + 14, none⟩ = some (.int .i64 r0.kind) ∧ w'.cell? ⟨b, k * 7 + 14 + 1, none⟩ = some (.int .i64 r0.base) ∧ w'.cell? ⟨b, k * 7 + 14 + 2, none⟩ = some (.int .i64 r0.loc) ∧ w'.cell? ⟨b, k * 7 + 14 + 3, none⟩ = some (.int .i64 r0.n) ∧ w'.cell? ⟨b, k * 7 + 14 + 4, none⟩ = some (.int .i64 r0.wr) ∧ w'.cell? ⟨b, k * 7 + 14 + 5, none⟩ = some (.int .i64 r0.rd) ∧ w'.cell? ⟨b, k * 7 + 14 + 6, none⟩ = some (.int .i64 r0.top)) ∧ (∀ i, w'.cell? ⟨w2.heap.size, i, none⟩ = (#[.int .i64 (bitM x)] : Array Value)[i]?) := fun w' h1 h2 => by
    obtain ⟨y0, y1, y2, y3, y4, y5, y6⟩ := (h1.node4 hi.out).2.2.1
    exact ⟨⟨y0, y1, y2, y3, y4, y5, y6⟩, h2.cells⟩
  go_region_held2 (fun w' => (w'.cell? ⟨b, k * 7 + 14, none⟩ = some (.int .i64 r0.kind) ∧ w'.cell? ⟨b, k * 7 + 14 + 1, none⟩ = some (.int .i64 r0.base) ∧ w'.cell? ⟨b, k * 7 + 14 + 2, none⟩ = some (.int .i64 r0.loc) ∧ w'.cell? ⟨b, k * 7 + 14 + 3, none⟩ = some (.int .i64 r0.n) ∧ w'.cell? ⟨b, k * 7 + 14 + 4, none⟩ = some (.int .i64 r0.wr) ∧ w'.cell? ⟨b, k * 7 + 14 + 5, none⟩ = some (.int .i64 r0.rd) ∧ w'.cell? ⟨b, k * 7 + 14 + 6, none⟩ = some (.int .i64 r0.top)) ∧ (∀ i, w'.cell? ⟨w2.heap.size, i, none⟩ = (#[.int .i64 (bitM x)] : Array Value)[i]?)) (exact hS _ hl bT)
    (first
      | (go_at_call 43
         refine tstepL hO hK (reg_write_p B p S r0 me (bitM x) _ hP hr0 ⟨hm0, by omega⟩) (fun _ h => ⟨rfl, h⟩) ?_
         clear hO hK hP
         intro u S w3 hlf _ hP hk hK hO
         replace hN := Nat.lt_of_le_of_lt hlf hN
         replace hl := hl.keep hk
         replace bT := bT.keep hk
         clear hk hlf))
  rename_i hh
  clear hh c_bT
  generalize htx : (bitM x) = t at *
  go_wp2_with fail
  go_loopw [] (fun wr => ∃ (n : Nat) (S1 : TS), Plays B wr p S1 ∧ KeepP B p w wr ∧ HeldP wr p w2.heap.size (.cells #[.int .i64 t] 3) ∧ RegsAt [2, 3, 4] wr p b rs ∧ Hid (Owes R encU B p w ((kesSpin q1 r1 0 t me n).run S1)) ∧ S1.left < n) (fun wr => leftW 1 3 wr p)
  case atStart => exact ⟨N, S, hP, hK, bT, hl, hO, hN⟩
  case round =>
    clear hS hP hK bT hl hO hN
    obtain ⟨n, S1, hP, hK, bT, hl, hO, hN⟩ := hrel
    have hO := hO.out
    have hlw := Lib.hid hP.left
    cases n with
    | zero => omega
    | succ n =>
      unfold kesSpin at hO
      obtain ⟨⟨a0, a1, a2, a3, a4, a5, a6⟩, ⟨e0, e1, e2, e3, e4, e5, e6⟩, ⟨f0, f1, f2, f3, f4, f5, f6⟩, ⟨g0, g1, g2, g3, g4, g5, g6⟩⟩ := hl.node4 hi.out
      go_wp2_with fail
      refine tstepL hO hK (reg_read_p B p S1 q1 me _ hP hq1 ⟨hm0, by omega⟩) (fun _ h => ⟨rfl, h⟩) ?_
      clear hO hK hP
      intro v S2 w4 _ hlf hP hk hK hO
      replace hlf := hlf (asks_regR _ _ ht1)
      replace hl := hl.keep hk
      replace bT := bT.keep hk
      clear a0 a1 a2 a3 a4 a5 a6 e0 e1 e2 e3 e4 e5 e6 f0 f1 f2 f3 f4 f5 f6 g0 g1 g2 g3 g4 g5 g6 hk
      by_cases hv : v = 0
      · rw [if_pos hv] at hO
        subst hv
        have hf : R (.returned (encU ())) w4 := hO.done hP hK
        clear hO hP hK hl bT
        go_wp2_with fail
        first | exact hf | (refine bodyPost_ret (results_none rfl _ _ _) rfl ?_; exact hf)
      · rw [if_neg hv] at hO
        have hv2 : (v == 0) = false := by rw [beq_eq_false_iff_ne]; exact hv
        obtain ⟨⟨a0, a1, a2, a3, a4, a5, a6⟩, ⟨e0, e1, e2, e3, e4, e5, e6⟩, ⟨f0, f1, f2, f3, f4, f5, f6⟩, ⟨g0, g1, g2, g3, g4, g5, g6⟩⟩ := hl.node4 hi.out
        clear hv
        go_wp2_with fail
        refine tstepL hO hK (reg_read_p B p S2 r1 me _ hP hr1 ⟨hm0, by omega⟩) (fun _ h => ⟨rfl, h⟩) ?_
        clear hO hK hP
        intro y S3 w5 hlf2 _ hP hk hK hO
        replace hl := hl.keep hk
        replace bT := bT.keep hk
        clear a0 a1 a2 a3 a4 a5 a6 e0 e1 e2 e3 e4 e5 e6 f0 f1 f2 f3 f4 f5 f6 g0 g1 g2 g3 g4 g5 g6 hk
        have c_bT := bT.cells
        go_wp2_with fail
        refine (kbit_p y _).mono ?_
        rintro e w' ⟨rfl, rfl⟩
        go_wp2_with fail
        refine (kfree0_p (bitM y) t _ _ (c_bT 0)).mono ?_
        rintro e w' ⟨rfl, rfl⟩
        by_cases hy : kesFree 0 t y = true
        · rw [if_pos hy] at hO
          have hy2 : (bitM y != t) = true := by unfold kesFree at hy; simpa using hy
          have hf : R (.returned (encU ())) w5 := hO.done hP hK
          clear hO hP hK hl bT hy
          go_wp2_with fail
          first | exact hf | (refine bodyPost_ret (results_none rfl _ _ _) rfl ?_; exact hf)
        · rw [if_neg hy] at hO
          have hy2 : (bitM y != t) = false := by unfold kesFree at hy; simpa using hy
          obtain ⟨⟨a0, a1, a2, a3, a4, a5, a6⟩, ⟨e0, e1, e2, e3, e4, e5, e6⟩, ⟨f0, f1, f2, f3, f4, f5, f6⟩, ⟨g0, g1, g2, g3, g4, g5, g6⟩⟩ := hl.node4 hi.out
          clear hy c_bT
          go_wp2_with fail
          refine (cells_pm q1 me _ hq1 ht1 ⟨hm0, by omega⟩).mono ?_
          rintro e w6 ⟨cc, rfl, hcc, hx⟩
          replace hl := hl.extL hx hP.lt
          replace bT := bT.ext hx hP.lt
          replace hK := hK.trans (Keep.of_ext hx hP.lt hP.le)
          replace hP := hP.ext hx
          clear a0 a1 a2 a3 a4 a5 a6 e0 e1 e2 e3 e4 e5 e6 f0 f1 f2 f3 f4 f5 f6 g0 g1 g2 g3 g4 g5 g6 hx
          have hlw2 := Lib.hid hP.left
          have hOh := Lib.hid hO
          clear hO
          go_wp2_with fail
          refine ⟨⟨n, S3, hP, hK, bT, hl, hOh, by omega⟩, ?_⟩
          rw [hlw.out, hlw2.out]
          omega
set_option maxRecDepth 100000 in
set_option maxHeartbeats 1000000 in
theorem kesn_enter_p1 (B p N : Nat) (S : TS) (q0 q1 r0 r1 : Reg) (side me : Int) (b c k : Nat) (rs : List Reg) (w : World) (h : Plays B w p S) (hl : RegsAt [2, 3, 4] w p b rs) (hi : rs[k]? = some q0 ∧ rs[k + 1]? = some q1 ∧ rs[k + 2]? = some r0 ∧ rs[k + 3]? = some r1) (hq0 : q0.ok) (hq1 : q1.ok) (hr0 : r0.ok) (hr1 : r1.ok)
    (hm0 : 0 ≤ me) (hm1 : me < q0.n) (hm2 : me < q1.n) (hm3 : me < r0.n) (hm4 : me < r1.n) (ht1 : q0.told me) (_ht2 : r0.told me) (hN : S.left < N) (hs : bitM side = 1) (hc4 : 4 ≤ c) (hc5 : c ≤ 9223372036854775807) :
    Calls Try.prog 14 #[.pointer (some ⟨p, 0, none⟩), .slice (some ⟨b, k * 7, none⟩) 4 c, .int .i64 side, .int .i64 me] w (Post encU B p w ((kesEnter N q1 q0 r1 r0 1 me).run S)) := by
  generalize hR : Post encU B p w ((kesEnter N q1 q0 r1 r0 1 me).run S) = R
  have hO : Owes R encU B p w ((kesEnter N q1 q0 r1 r0 1 me).run S) := hR ▸ owes _ _ _ _ _
  clear hR
  replace hi := Lib.hid hi
  have hmf : ∀ (fn : Fn) (first cap : Array Value) (w : World), (Instr.makeFunc fn first cap).run Try.prog w = .ok (.func fn first cap) w := fun _ _ _ _ => rfl
  have hK := Keep.refl [2, 3, 4] B p w
  have hP := h
  clear h
  unfold kesEnter at hO
  obtain ⟨⟨a0, a1, a2, a3, a4, a5, a6⟩, ⟨e0, e1, e2, e3, e4, e5, e6⟩, ⟨f0, f1, f2, f3, f4, f5, f6⟩, ⟨g0, g1, g2, g3, g4, g5, g6⟩⟩ := hl.node4 hi.out
  have hc6 : (2 : Int) ≤ (c : Int) := by omega
  have hc7 : (4 : Int) ≤ (c : Int) := by omega
  have hb := kbit_p side w
  rw [hs] at hb
  clear hs
  go_enter Try.func14, Try.ntmps14
  go_wp2_with fail
  refine hb.mono ?_
  rintro e w' ⟨rfl, rfl⟩
  clear hb
  go_wp2_with fail
  go_quiet (fail)
  have hx := (Ext.refl w).drewN nq
  replace hl := hl.extL hx hP.lt
  replace hK := hK.trans (Keep.of_ext hx hP.lt hP.le)
  replace hP := hP.ext hx
  clear a0 a1 a2 a3 a4 a5 a6 e0 e1 e2 e3 e4 e5 e6 f0 f1 f2 f3 f4 f5 f6 g0 g1 g2 g3 g4 g5 g6 hx
  generalize w.drewN nq = wz at *
  obtain ⟨⟨a0, a1, a2, a3, a4, a5, a6⟩, ⟨e0, e1, e2, e3, e4, e5, e6⟩, ⟨f0, f1, f2, f3, f4, f5, f6⟩, ⟨g0, g1, g2, g3, g4, g5, g6⟩⟩ := hl.node4 hi.out
  go_wp2_with fail
  refine tstepL hO hK (reg_write_p B p S q1 me 1 _ hP hq1 ⟨hm0, by omega⟩) (fun _ h => ⟨rfl, h⟩) ?_
  clear hO hK hP
  intro u S w1 hlf _ hP hk hK hO
  replace hN := Nat.lt_of_le_of_lt hlf hN
  replace hl := hl.keep hk
  clear a0 a1 a2 a3 a4 a5 a6 e0 e1 e2 e3 e4 e5 e6 f0 f1 f2 f3 f4 f5 f6 g0 g1 g2 g3 g4 g5 g6 hk hlf
  obtain ⟨⟨a0, a1, a2, a3, a4, a5, a6⟩, ⟨e0, e1, e2, e3, e4, e5, e6⟩, ⟨f0, f1, f2, f3, f4, f5, f6⟩, ⟨g0, g1, g2, g3, g4, g5, g6⟩⟩ := hl.node4 hi.out
  go_wp2_with fail
  refine tstepL hO hK (reg_read_p B p S r0 me _ hP hr0 ⟨hm0, by omega⟩) (fun _ h => ⟨rfl, h⟩) ?_
  clear hO hK hP
  intro x S w2 hlf _ hP hk hK hO
  replace hN := Nat.lt_of_le_of_lt hlf hN
  replace hl := hl.keep hk
  clear a0 a1 a2 a3 a4 a5 a6 e0 e1 e2 e3 e4 e5 e6 f0 f1 f2 f3 f4 f5 f6 g0 g1 g2 g3 g4 g5 g6 hk hlf
  obtain ⟨⟨a0, a1, a2, a3, a4, a5, a6⟩, ⟨e0, e1, e2, e3, e4, e5, e6⟩, ⟨f0, f1, f2, f3, f4, f5, f6⟩, ⟨g0, g1, g2, g3, g4, g5, g6⟩⟩ := hl.node4 hi.out
  go_wp2_with fail
  have hbx : 0 ≤ bitM x ∧ bitM x ≤ 1 := by unfold bitM; split <;> omega
  have hwx := w64 (1 - bitM x) (by omega) (by omega)
  refine (kbit_p x _).mono ?_
  rintro e w' ⟨rfl, rfl⟩
  go_wp2_with fail
  have hPo := hP
  have bT := hP.held (.cells #[.int .i64 (1 - bitM x)] 3)
  replace hK := hK.trans (Keep.alloc (.cells #[.int .i64 (1 - bitM x)] 3) hP.lt hP.le)
  replace hP := hP.alloc (.cells #[.int .i64 (1 - bitM x)] 3)
  have c_bT := bT.cells
  replace hl := hl.extL ((Ext.refl _).alloc (.cells #[.int .i64 (1 - bitM x)] 3)) hPo.lt
  clear hPo
  clear a0 a1 a2 a3 a4 a5 a6 e0 e1 e2 e3 e4 e5 e6 f0 f1 f2 f3 f4 f5 f6 g0 g1 g2 g3 g4 g5 g6
  rw [show kesT 1 x = (1 - bitM x) from rfl] at hO
  replace hP := hP.drew
  replace hK := hK.drew
  replace bT := bT.drew
  replace hl := hl.extL (Ext.refl _).drew hP.lt
  have hS : ∀ w', RegsAt [2, 3, 4] w' p b rs → HeldP w' p w2.heap.size (.cells #[.int .i64 (1 - bitM x)] 3) → (w'.cell? ⟨b, k * 7 + 14 + 7, none⟩ = some (.int .i64 r1.kind) ∧ w'.cell? ⟨b, k * 7 + 14 + 7 + 1, none⟩ = some (.int .i64 r1.base) ∧ w'.cell? ⟨b, k * 7 + 14 + 7 + 2, none⟩ = some (.int .i64 r1.loc) ∧ w'.cell? ⟨b, k * 7 + 14 + 7 + 3, none⟩ = some (.int .i64 r1.n) ∧ w'.cell? ⟨b, k * 7 + 14 + 7 + 4, none⟩ = some (.int .i64 r1.wr) ∧ w'.cell? ⟨b, k * 7 + 14 + 7 + 5, none⟩ = some (.int .i64 r1.rd) ∧ w'.cell? ⟨b, k * 7 + 14 + 7 + 6, none⟩ = some (.int .i64 r1.top)) ∧ (∀ i, w'.cell? ⟨w2.heap.size, i, none⟩ = (#[.int .i64 (1 - bitM x)] : Array Value)[i]?) := fun w' h1 h2 => by
    obtain ⟨y0, y1, y2, y3, y4, y5, y6⟩ := (h1.node4 hi.out).2.2.2
    exact ⟨⟨y0, y1, y2, y3, y4, y5, y6⟩, h2.cells⟩
  go_region_held2 (fun w' => (w'.cell? ⟨b, k * 7 + 14 + 7, none⟩ = some (.int .i64 r1.kind) ∧ w'.cell? ⟨b, k * 7 + 14 + 7 + 1, none⟩ = some (.int .i64 r1.base) ∧ w'.cell? ⟨b, k * 7 + 14 + 7 + 2, none⟩ = some (.int .i64 r1.loc) ∧ w'.cell? ⟨b, k * 7 + 14 + 7 + 3, none⟩ = some (.int .i64 r1.n) ∧ w'.cell? ⟨b, k * 7 + 14 + 7 + 4, none⟩ = some (.int .i64 r1.wr) ∧ w'.cell? ⟨b, k * 7 + 14 + 7 + 5, none⟩ = some (.int .i64 r1.rd) ∧ w'.cell? ⟨b, k * 7 + 14 + 7 + 6, none⟩ = some (.int .i64 r1.top)) ∧ (∀ i, w'.cell? ⟨w2.heap.size, i, none⟩ = (#[.int .i64 (1 - bitM x)] : Array Value)[i]?)) (exact hS _ hl bT)
    (first
      | (go_at_call 43
         refine tstepL hO hK (reg_write_p B p S r1 me (1 - bitM x) _ hP hr1 ⟨hm0, by omega⟩) (fun _ h => ⟨rfl, h⟩) ?_
         clear hO hK hP
         intro u S w3 hlf _ hP hk hK hO
         replace hN := Nat.lt_of_le_of_lt hlf hN
         replace hl := hl.keep hk
         replace bT := bT.keep hk
         clear hk hlf))
  rename_i hh
  clear hh c_bT
  generalize htx : (1 - bitM x) = t at *
  go_wp2_with fail
  go_loopw [] (fun wr => ∃ (n : Nat) (S1 : TS), Plays B wr p S1 ∧ KeepP B p w wr ∧ HeldP wr p w2.heap.size (.cells #[.int .i64 t] 3) ∧ RegsAt [2, 3, 4] wr p b rs ∧ Hid (Owes R encU B p w ((kesSpin q0 r0 1 t me n).run S1)) ∧ S1.left < n) (fun wr => leftW 1 3 wr p)
  case atStart => exact ⟨N, S, hP, hK, bT, hl, hO, hN⟩
  case round =>
    clear hS hP hK bT hl hO hN
    obtain ⟨n, S1, hP, hK, bT, hl, hO, hN⟩ := hrel
    have hO := hO.out
    have hlw := Lib.hid hP.left
    cases n with
    | zero => omega
    | succ n =>
      unfold kesSpin at hO
      obtain ⟨⟨a0, a1, a2, a3, a4, a5, a6⟩, ⟨e0, e1, e2, e3, e4, e5, e6⟩, ⟨f0, f1, f2, f3, f4, f5, f6⟩, ⟨g0, g1, g2, g3, g4, g5, g6⟩⟩ := hl.node4 hi.out
      go_wp2_with fail
      refine tstepL hO hK (reg_read_p B p S1 q0 me _ hP hq0 ⟨hm0, by omega⟩) (fun _ h => ⟨rfl, h⟩) ?_
      clear hO hK hP
      intro v S2 w4 _ hlf hP hk hK hO
      replace hlf := hlf (asks_regR _ _ ht1)
      replace hl := hl.keep hk
      replace bT := bT.keep hk
      clear a0 a1 a2 a3 a4 a5 a6 e0 e1 e2 e3 e4 e5 e6 f0 f1 f2 f3 f4 f5 f6 g0 g1 g2 g3 g4 g5 g6 hk
      by_cases hv : v = 0
      · rw [if_pos hv] at hO
        subst hv
        have hf : R (.returned (encU ())) w4 := hO.done hP hK
        clear hO hP hK hl bT
        go_wp2_with fail
        first | exact hf | (refine bodyPost_ret (results_none rfl _ _ _) rfl ?_; exact hf)
      · rw [if_neg hv] at hO
        have hv2 : (v == 0) = false := by rw [beq_eq_false_iff_ne]; exact hv
        obtain ⟨⟨a0, a1, a2, a3, a4, a5, a6⟩, ⟨e0, e1, e2, e3, e4, e5, e6⟩, ⟨f0, f1, f2, f3, f4, f5, f6⟩, ⟨g0, g1, g2, g3, g4, g5, g6⟩⟩ := hl.node4 hi.out
        clear hv
        go_wp2_with fail
        refine tstepL hO hK (reg_read_p B p S2 r0 me _ hP hr0 ⟨hm0, by omega⟩) (fun _ h => ⟨rfl, h⟩) ?_
        clear hO hK hP
        intro y S3 w5 hlf2 _ hP hk hK hO
        replace hl := hl.keep hk
        replace bT := bT.keep hk
        clear a0 a1 a2 a3 a4 a5 a6 e0 e1 e2 e3 e4 e5 e6 f0 f1 f2 f3 f4 f5 f6 g0 g1 g2 g3 g4 g5 g6 hk
        have c_bT := bT.cells
        go_wp2_with fail
        refine (kbit_p y _).mono ?_
        rintro e w' ⟨rfl, rfl⟩
        go_wp2_with fail
        refine (kfree1_p (bitM y) t _ _ (c_bT 0)).mono ?_
        rintro e w' ⟨rfl, rfl⟩
        by_cases hy : kesFree 1 t y = true
        · rw [if_pos hy] at hO
          have hy2 : (bitM y == t) = true := by unfold kesFree at hy; simpa using hy
          have hf : R (.returned (encU ())) w5 := hO.done hP hK
          clear hO hP hK hl bT hy
          go_wp2_with fail
          first | exact hf | (refine bodyPost_ret (results_none rfl _ _ _) rfl ?_; exact hf)
        · rw [if_neg hy] at hO
          have hy2 : (bitM y == t) = false := by unfold kesFree at hy; simpa using hy
          obtain ⟨⟨a0, a1, a2, a3, a4, a5, a6⟩, ⟨e0, e1, e2, e3, e4, e5, e6⟩, ⟨f0, f1, f2, f3, f4, f5, f6⟩, ⟨g0, g1, g2, g3, g4, g5, g6⟩⟩ := hl.node4 hi.out
          clear hy c_bT
          go_wp2_with fail
          refine (cells_pm q0 me _ hq0 ht1 ⟨hm0, by omega⟩).mono ?_
          rintro e w6 ⟨cc, rfl, hcc, hx⟩
          replace hl := hl.extL hx hP.lt
          replace bT := bT.ext hx hP.lt
          replace hK := hK.trans (Keep.of_ext hx hP.lt hP.le)
          replace hP := hP.ext hx
          clear a0 a1 a2 a3 a4 a5 a6 e0 e1 e2 e3 e4 e5 e6 f0 f1 f2 f3 f4 f5 f6 g0 g1 g2 g3 g4 g5 g6 hx
          have hlw2 := Lib.hid hP.left
          have hOh := Lib.hid hO
          clear hO
          go_wp2_with fail
          refine ⟨⟨n, S3, hP, hK, bT, hl, hOh, by omega⟩, ?_⟩
          rw [hlw.out, hlw2.out]
          omega
theorem kesn_leave_p (B p : Nat) (S : TS) (q0 q1 r0 r1 : Reg) (side me : Int) (b c k : Nat) (rs : List Reg) (w : World) (h : Plays B w p S) (hl : RegsAt [2, 3, 4] w p b rs) (hi : rs[k]? = some q0 ∧ rs[k + 1]? = some q1 ∧ rs[k + 2]? = some r0 ∧ rs[k + 3]? = some r1) (hq0 : q0.ok) (hq1 : q1.ok)
    (hm0 : 0 ≤ me) (hm1 : me < q0.n) (hm2 : me < q1.n) :
    Calls Try.prog 16 #[.pointer (some ⟨p, 0, none⟩), .slice (some ⟨b, k * 7, none⟩) 4 c, .int .i64 side, .int .i64 me] w (Post encU B p w ((regW (if bitM side = 1 then q1 else q0) me 0).run S)) := by
  replace hi := Lib.hid hi
  have hb := kbit_p' side w
  obtain ⟨⟨a0, a1, a2, a3, a4, a5, a6⟩, ⟨e0, e1, e2, e3, e4, e5, e6⟩, -, -⟩ := hl.node4 hi.out
  have hs : bitM side = 0 ∨ bitM side = 1 := by unfold bitM; split <;> simp
  rcases hs with hs | hs
  · rw [hs] at hb ⊢
    rw [if_neg (by omega)]
    generalize hR : Post encU B p w ((regW q0 me 0).run S) = R
    have hO : Owes R encU B p w ((regW q0 me 0).run S) := hR ▸ owes _ _ _ _ _
    clear hR
    go_enter Try.func16, Try.ntmps16
    go_wp2_with fail
    refine hb.mono ?_
    rintro e w' ⟨rfl, rfl⟩
    go_wp2_with fail
    clear a0 a1 a2 a3 a4 a5 a6 e0 e1 e2 e3 e4 e5 e6 hl hb
    refine tlast hO (Keep.refl _ _ _ _) (reg_write_p B p S q0 me 0 _ h hq0 ⟨hm0, hm1⟩) (fun _ h => ⟨rfl, h⟩) ?_
    intro v S1 w1 hr hP1 hk1 hK1 hO1
    have hf := hO1.done hP1 hK1
    clear hO1 hP1 hK1 hr hk1 hO h
    go_wp2_with fail
    first | exact hf | (refine bodyPost_ret (results_none rfl _ _ _) rfl ?_; exact hf)
  · rw [hs] at hb ⊢
    rw [if_pos rfl]
    generalize hR : Post encU B p w ((regW q1 me 0).run S) = R
    have hO : Owes R encU B p w ((regW q1 me 0).run S) := hR ▸ owes _ _ _ _ _
    clear hR
    go_enter Try.func16, Try.ntmps16
    go_wp2_with fail
    refine hb.mono ?_
    rintro e w' ⟨rfl, rfl⟩
    go_wp2_with fail
    clear a0 a1 a2 a3 a4 a5 a6 e0 e1 e2 e3 e4 e5 e6 hl hb
    refine tlast hO (Keep.refl _ _ _ _) (reg_write_p B p S q1 me 0 _ h hq1 ⟨hm0, hm2⟩) (fun _ h => ⟨rfl, h⟩) ?_
    intro v S1 w1 hr hP1 hk1 hK1 hO1
    have hf := hO1.done hP1 hK1
    clear hO1 hP1 hK1 hr hk1 hO h
    go_wp2_with fail
    first | exact hf | (refine bodyPost_ret (results_none rfl _ _ _) rfl ?_; exact hf)
theorem kesn_enter_p (B p N : Nat) (S : TS) (q0 q1 r0 r1 : Reg) (side me : Int) (b c k : Nat) (rs : List Reg) (w : World) (h : Plays B w p S) (hl : RegsAt [2, 3, 4] w p b rs) (hi : rs[k]? = some q0 ∧ rs[k + 1]? = some q1 ∧ rs[k + 2]? = some r0 ∧ rs[k + 3]? = some r1) (hq0 : q0.ok) (hq1 : q1.ok) (hr0 : r0.ok) (hr1 : r1.ok)
    (hm0 : 0 ≤ me) (hm1 : me < q0.n) (hm2 : me < q1.n) (hm3 : me < r0.n) (hm4 : me < r1.n) (ht1 : q0.told me) (ht2 : q1.told me) (ht3 : r0.told me) (ht4 : r1.told me) (hN : S.left < N) (hc4 : 4 ≤ c) (hc5 : c ≤ 9223372036854775807) :
    Calls Try.prog 14 #[.pointer (some ⟨p, 0, none⟩), .slice (some ⟨b, k * 7, none⟩) 4 c, .int .i64 side, .int .i64 me] w (Post encU B p w ((kesM N q0 q1 r0 r1 side me).run S)) := by
  unfold kesM
  rcases bitM_or side with hs | hs
  · rw [if_neg (by omega)]
    exact kesn_enter_p0 B p N S q0 q1 r0 r1 side me b c k rs w h hl hi hq0 hq1 hr0 hr1 hm0 hm1 hm2 hm3 hm4 ht2 ht4 hN hs hc4 hc5
  · rw [if_pos hs]
    exact kesn_enter_p1 B p N S q0 q1 r0 r1 side me b c k rs w h hl hi hq0 hq1 hr0 hr1 hm0 hm1 hm2 hm3 hm4 ht1 ht3 hN hs hc4 hc5
end Go.Proofs.Ytpcohbpeglledaa
/-
  Peterson's lock of two sides at a node of a tree, by the document.
-/
namespace Go.Proofs.Ytpcohbpeglledaa
open Go.RowKit Kv
end Go.Proofs.Ytpcohbpeglledaa
/-
  Kessels: what the law plays.
-/
namespace Go.Proofs.Ytpcohbpeglledaa
open Go.RowKit Kv
theorem kwants_p (w : World) : Calls Try.prog 11 #[] w fun e w' => ∃ v, e = .returned v ∧ WantsAt w' v (List.replicate 4 ⟨-1, 1⟩) ∧ Ext w w' := by
  go_enter Try.func11, Try.ntmps11
  go_wp2_with fail
  go_loopw [1, 2] (fun v i wr => ∃ j : Nat, i = .int .i64 j ∧ j ≤ 4 ∧ wr.ownsRow w.heap.size 59 2 v j ((List.replicate j (⟨-1, 1⟩ : Want)).flatMap wantVals) ∧ Ext w wr) (fun _ i _ => 4 - (intOf i).toNat)
  case atStart => exact ⟨0, rfl, by omega, World.ownsRow_nil _ _ _ _, Ext.refl _⟩
  case round =>
    obtain ⟨j, rfl, hj, hown, hE⟩ := hrel
    by_cases hl : j < 4
    · go_wp2_with (at_builtin; refine append_rec info_want Try.underlying27 rfl (by decide) (by decide) rfl _ _ rfl _ j _ [.int .i64 (-1), .int .i64 1] hE hown rfl rfl rfl (by simp [Value.oneCell']) (by omega) ?_)
      intro v' w' ho hx _
      have hoh := Lib.hid ho
      clear hown ho
      go_wp2_with fail
      refine ⟨⟨j + 1, by go_num, by omega, ?_, hx⟩, ?_⟩
      · rw [List.replicate_succ', List.flatMap_append]; exact hoh.out
      · simp [intOf]; omega
    · obtain rfl : j = 4 := by omega
      have hownh := Lib.hid hown
      clear hown
      go_wp2_with fail
      go_ret
      exact ⟨_, rfl, Recs.of_row hownh.out, hE⟩
end Go.Proofs.Ytpcohbpeglledaa
/-
  Trees of locks of two sides: plain mathematics, and the program's pure parts.
-/
namespace Kv
/-- The nodes above a place, the lowest first. -/
def pathN : Nat → Nat → List Int
  | 0, _ => []
  | f + 1, x => if x ≤ 1 then [] else (x : Int) :: pathN f (x / 2)
theorem pathN_fuel : ∀ (f g x : Nat), x ≤ f → x ≤ g → pathN f x = pathN g x
  | 0, 0, x, _, _ => rfl
  | 0, g + 1, x, h, _ => by unfold pathN; rw [if_pos (by omega)]
  | f + 1, 0, x, _, h => by unfold pathN; rw [if_pos (by omega)]
  | f + 1, g + 1, x, h1, h2 => by
    unfold pathN
    split
    · rfl
    · rw [pathN_fuel f g (x / 2) (by omega) (by omega)]
theorem pathN_cons {x : Nat} (h : 1 < x) : pathN x x = (x : Int) :: pathN (x / 2) (x / 2) := by
  obtain ⟨y, rfl⟩ : ∃ y, x = y + 1 := ⟨x - 1, by omega⟩
  rw [show pathN (y + 1) (y + 1) = (if y + 1 ≤ 1 then [] else ((y + 1 : Nat) : Int) :: pathN y ((y + 1) / 2)) from rfl, if_neg (by omega), pathN_fuel y ((y + 1) / 2) _ (by omega) (by omega)]
theorem pathN_nil {x : Nat} (h : x ≤ 1) : pathN x x = [] := by
  cases x with
  | zero => rfl
  | succ x => rw [show pathN (x + 1) (x + 1) = (if x + 1 ≤ 1 then [] else ((x + 1 : Nat) : Int) :: pathN x ((x + 1) / 2)) from rfl, if_pos h]
theorem pathN_len : ∀ (f x : Nat), (pathN f x).length ≤ f
  | 0, _ => by simp [pathN]
  | f + 1, x => by
    unfold pathN
    split
    · simp
    · have := pathN_len f (x / 2)
      simp; omega
/-- The nodes above a place of a tree of so many places. -/
def pathL (m place : Nat) : List Int := pathN (2 ^ levels m + place) (2 ^ levels m + place)
theorem lev_le {m : Nat} (h : m ≤ 64) : levels m ≤ 6 := by
  have : ∀ m : Nat, m < 65 → levels m ≤ 6 := by decide +kernel
  exact this m (by omega)
theorem pow_le {k : Nat} (h : k ≤ 6) : 1 ≤ 2 ^ k ∧ 2 ^ k ≤ 64 := by
  have : ∀ k : Nat, k < 7 → 1 ≤ 2 ^ k ∧ 2 ^ k ≤ 64 := by decide
  exact this k (by omega)
end Kv
namespace Go.Proofs.Ytpcohbpeglledaa
open Go.RowKit Kv
end Go.Proofs.Ytpcohbpeglledaa
/-
  Trees of locks of two sides: nodes, wants and registers, by the program.
-/
namespace Go.Proofs.Ytpcohbpeglledaa
open Go.RowKit Kv
def fnV (n : Nat) : Value := .func (.func n) #[] #[]
/-- How many registers a node of a kind of tree has. -/
def eachK (kind : Int) : Nat := if kind = 7 then 4 else 3
def nodeV (kind : Int) : Value := if kind = 7 then .agg #[fnV 11, fnV 14, fnV 16] else .agg #[fnV 18, fnV 20, fnV 51]
theorem wants_node (kind : Int) (w : World) : ∃ n, ((kind = 7 ∧ n = 11) ∨ (kind ≠ 7 ∧ n = 18)) ∧ Calls Try.prog n #[] w fun e w' => ∃ v, e = .returned v ∧ WantsAt w' v (List.replicate (eachK kind) ⟨-1, 1⟩) ∧ Ext w w' := by
  unfold eachK
  by_cases h : kind = 7
  · rw [if_pos h]
    exact ⟨_, .inl ⟨h, rfl⟩, kwants_p w⟩
  · rw [if_neg h]
    exact ⟨_, .inr ⟨h, rfl⟩, awants_p w⟩
end Go.Proofs.Ytpcohbpeglledaa
/-
  Trees of locks of two sides: wants and registers, by the program.
-/
namespace Go.Proofs.Ytpcohbpeglledaa
open Go.RowKit Kv
end Go.Proofs.Ytpcohbpeglledaa
/-
  Trees of locks of two sides: climbing and going down, by the program.
-/
namespace Kv
def nthR (rs : List Reg) (i : Nat) : Reg := rs.getD i ⟨1, 0, 0, 1, -1, -1, 1⟩
theorem nthR_of {rs : List Reg} {i : Nat} (h : i < rs.length) : rs[i]? = some (nthR rs i) := by
  unfold nthR
  rw [List.getD_eq_getElem?_getD, List.getElem?_eq_getElem h]; rfl
/-- Entering, and leaving, a node of so many registers. -/
def nodeE (E D : Nat) (rs : List Reg) (me : Int) (x : Int) : Prog Unit :=
  if E = 4 then kesM D (nthR rs (4 * ((x / 2).toNat - 1))) (nthR rs (4 * ((x / 2).toNat - 1) + 1)) (nthR rs (4 * ((x / 2).toNat - 1) + 2)) (nthR rs (4 * ((x / 2).toNat - 1) + 3)) (x % 2) me
  else arbM D (nthR rs (3 * ((x / 2).toNat - 1))) (nthR rs (3 * ((x / 2).toNat - 1) + 1)) (nthR rs (3 * ((x / 2).toNat - 1) + 2)) (x % 2) me
def nodeL (E : Nat) (rs : List Reg) (me : Int) (x : Int) : Prog Unit := kesL (nthR rs (E * ((x / 2).toNat - 1))) (nthR rs (E * ((x / 2).toNat - 1) + 1)) (x % 2) me
theorem pathN_mem : ∀ (f x : Nat) {y : Int}, y ∈ pathN f x → 2 ≤ y ∧ y ≤ x
  | 0, _, y, h => by simp [pathN] at h
  | f + 1, x, y, h => by
    unfold pathN at h
    split at h
    · simp at h
    · rcases List.mem_cons.1 h with rfl | h
      · omega
      · have := pathN_mem f (x / 2) h
        omega
theorem lev_ge {m : Nat} (h : m ≤ 64) : m ≤ 2 ^ levels m := by
  have : ∀ m : Nat, m < 65 → m ≤ 2 ^ levels m := by decide +kernel
  exact this m (by omega)
theorem pathL_mem {m place : Nat} (h : m ≤ 64) (hp : place < m) {y : Int} (hy : y ∈ pathL m place) : 2 ≤ y ∧ y < 2 * 2 ^ levels m := by
  have h1 := pathN_mem _ _ hy
  have h2 := lev_ge h
  have e : (2 : Int) ^ levels m = ((2 ^ levels m : Nat) : Int) := by rw [Int.natCast_pow]; rfl
  rw [e]
  generalize 2 ^ levels m = P at *
  omega
end Kv
namespace Go.Proofs.Ytpcohbpeglledaa
open Go.RowKit Kv
/-- A row of ints beside what a Mem owns. -/
def RowH (ix : List Nat) (w : World) (p : Nat) (A : Option Addr) (l : List Int) : Prop := l ≠ [] → ∃ g cur, A = some ⟨g, 0, none⟩ ∧ Held ix w p g (.cells cur 3) ∧ ∀ (i : Nat) y, l[i]? = some y → cur[i]? = some (.int .i64 y)
theorem RowH.of_row {ix : List Nat} {w : World} {p base : Nat} {v : Value} {l : List Int} (h : IntRow w base v l) (hn : ∀ b, base ≤ b → ¬ ownR ix w p b) : ∃ A c, v = .slice A l.length c ∧ RowH ix w p A l := by
  rcases h.2 with ⟨rfl, h0⟩ | ⟨g, cap, cur, rfl, hb, hg, h1, h2, h3, h4⟩
  · exact ⟨none, 0, by rw [h0], fun hne => absurd (List.length_eq_zero_iff.1 h0) hne⟩
  · refine ⟨_, cap, rfl, fun _ => ⟨g, cur, rfl, ⟨hg, hn g hb⟩, fun i y hy => ?_⟩⟩
    have e : (cur.toList.take (l.length * 1))[i]? = some (.int .i64 y) := by rw [h4, List.getElem?_map, hy]; rfl
    rw [List.getElem?_take] at e
    split at e
    · rw [← e]; simp
    · cases e
theorem Held.at_ {ix : List Nat} {w : World} {p g : Nat} {cur : Array Value} {l : List Int} (h : Held ix w p g (.cells cur 3)) (hc : ∀ (i : Nat) y, l[i]? = some y → cur[i]? = some (.int .i64 y)) {i : Nat} {y : Int} (hy : l[i]? = some y) : w.cell? ⟨g, i, none⟩ = some (.int .i64 y) := by
  rw [h.cells i]; exact hc i y hy
theorem node_enter_p7 (B p D n : Nat) (S : TS) (rs : List Reg) (x me : Int) (b c : Nat) (w : World) (h : Plays B w p S) (hl : RegsAt [2, 3, 4] w p b rs) (hall : ∀ r ∈ rs, r.ok ∧ me < r.n ∧ r.told me) (hm0 : 0 ≤ me) (hn : x / 2 = n) (hn1 : 1 ≤ n) (hn2 : n * 4 ≤ rs.length) (hD : S.left < D) (hc4 : 4 ≤ c) (hc5 : c ≤ 9223372036854775807) :
    Calls Try.prog 14 #[.pointer (some ⟨p, 0, none⟩), .slice (some ⟨b, 4 * (n - 1) * 7, none⟩) 4 c, .int .i64 (x % 2), .int .i64 me] w (Post encU B p w ((nodeE 4 D rs me x).run S)) := by
  unfold nodeE
  rw [if_pos rfl, hn, Int.toNat_natCast]
  obtain ⟨k0, l0, t0⟩ := hall _ (List.mem_of_getElem? (nthR_of (rs := rs) (i := 4 * (n - 1)) (by omega)))
  obtain ⟨k1, l1, t1⟩ := hall _ (List.mem_of_getElem? (nthR_of (rs := rs) (i := 4 * (n - 1) + 1) (by omega)))
  obtain ⟨k2, l2, t2⟩ := hall _ (List.mem_of_getElem? (nthR_of (rs := rs) (i := 4 * (n - 1) + 2) (by omega)))
  obtain ⟨k3, l3, t3⟩ := hall _ (List.mem_of_getElem? (nthR_of (rs := rs) (i := 4 * (n - 1) + 3) (by omega)))
  exact kesn_enter_p B p D S _ _ _ _ (x % 2) me b c (4 * (n - 1)) rs w h hl ⟨nthR_of (i := 4 * (n - 1)) (by omega), nthR_of (i := 4 * (n - 1) + 1) (by omega), nthR_of (i := 4 * (n - 1) + 2) (by omega), nthR_of (i := 4 * (n - 1) + 3) (by omega)⟩ k0 k1 k2 k3 hm0 l0 l1 l2 l3 t0 t1 t2 t3 hD hc4 hc5
theorem node_leave_p7 (B p n : Nat) (S : TS) (rs : List Reg) (x me : Int) (b c : Nat) (w : World) (h : Plays B w p S) (hl : RegsAt [2, 3, 4] w p b rs) (hall : ∀ r ∈ rs, r.ok ∧ me < r.n ∧ r.told me) (hm0 : 0 ≤ me) (hn : x / 2 = n) (hn1 : 1 ≤ n) (hn2 : n * 4 ≤ rs.length) :
    Calls Try.prog 16 #[.pointer (some ⟨p, 0, none⟩), .slice (some ⟨b, 4 * (n - 1) * 7, none⟩) 4 c, .int .i64 (x % 2), .int .i64 me] w (Post encU B p w ((nodeL 4 rs me x).run S)) := by
  unfold nodeL
  rw [hn, Int.toNat_natCast]
  obtain ⟨k0, l0, t0⟩ := hall _ (List.mem_of_getElem? (nthR_of (rs := rs) (i := 4 * (n - 1)) (by omega)))
  obtain ⟨k1, l1, t1⟩ := hall _ (List.mem_of_getElem? (nthR_of (rs := rs) (i := 4 * (n - 1) + 1) (by omega)))
  obtain ⟨k2, l2, t2⟩ := hall _ (List.mem_of_getElem? (nthR_of (rs := rs) (i := 4 * (n - 1) + 2) (by omega)))
  obtain ⟨k3, l3, t3⟩ := hall _ (List.mem_of_getElem? (nthR_of (rs := rs) (i := 4 * (n - 1) + 3) (by omega)))
  exact kesn_leave_p B p S _ _ (nthR rs (4 * (n - 1) + 2)) (nthR rs (4 * (n - 1) + 3)) (x % 2) me b c (4 * (n - 1)) rs w h hl ⟨nthR_of (i := 4 * (n - 1)) (by omega), nthR_of (i := 4 * (n - 1) + 1) (by omega), nthR_of (i := 4 * (n - 1) + 2) (by omega), nthR_of (i := 4 * (n - 1) + 3) (by omega)⟩ k0 k1 hm0 l0 l1
theorem node_enter_p3 (B p D n : Nat) (S : TS) (rs : List Reg) (x me : Int) (b c : Nat) (w : World) (h : Plays B w p S) (hl : RegsAt [2, 3, 4] w p b rs) (hall : ∀ r ∈ rs, r.ok ∧ me < r.n ∧ r.told me) (hm0 : 0 ≤ me) (hn : x / 2 = n) (hn1 : 1 ≤ n) (hn2 : n * 3 ≤ rs.length) (hD : S.left < D) (_hc4 : 3 ≤ c) (_hc5 : c ≤ 9223372036854775807) :
    Calls Try.prog 20 #[.pointer (some ⟨p, 0, none⟩), .slice (some ⟨b, 3 * (n - 1) * 7, none⟩) 3 c, .int .i64 (x % 2), .int .i64 me] w (Post encU B p w ((nodeE 3 D rs me x).run S)) := by
  unfold nodeE
  rw [if_neg (by decide), hn, Int.toNat_natCast]
  obtain ⟨k0, l0, t0⟩ := hall _ (List.mem_of_getElem? (nthR_of (rs := rs) (i := 3 * (n - 1)) (by omega)))
  obtain ⟨k1, l1, t1⟩ := hall _ (List.mem_of_getElem? (nthR_of (rs := rs) (i := 3 * (n - 1) + 1) (by omega)))
  obtain ⟨k2, l2, t2⟩ := hall _ (List.mem_of_getElem? (nthR_of (rs := rs) (i := 3 * (n - 1) + 2) (by omega)))
  exact arbn_enter_p B p D S _ _ _ (x % 2) me b c (3 * (n - 1)) rs w h hl ⟨nthR_of (i := 3 * (n - 1)) (by omega), nthR_of (i := 3 * (n - 1) + 1) (by omega), nthR_of (i := 3 * (n - 1) + 2) (by omega)⟩ k0 k1 k2 hm0 l0 l1 l2 t0 t1 hD
theorem node_leave_p3 (B p n : Nat) (S : TS) (rs : List Reg) (x me : Int) (b c : Nat) (w : World) (h : Plays B w p S) (hl : RegsAt [2, 3, 4] w p b rs) (hall : ∀ r ∈ rs, r.ok ∧ me < r.n ∧ r.told me) (hm0 : 0 ≤ me) (hn : x / 2 = n) (hn1 : 1 ≤ n) (hn2 : n * 3 ≤ rs.length) :
    Calls Try.prog 51 #[.pointer (some ⟨p, 0, none⟩), .slice (some ⟨b, 3 * (n - 1) * 7, none⟩) 3 c, .int .i64 (x % 2), .int .i64 me] w (Post encU B p w ((nodeL 3 rs me x).run S)) := by
  unfold nodeL
  rw [hn, Int.toNat_natCast]
  obtain ⟨k0, l0, t0⟩ := hall _ (List.mem_of_getElem? (nthR_of (rs := rs) (i := 3 * (n - 1)) (by omega)))
  obtain ⟨k1, l1, t1⟩ := hall _ (List.mem_of_getElem? (nthR_of (rs := rs) (i := 3 * (n - 1) + 1) (by omega)))
  obtain ⟨k2, l2, t2⟩ := hall _ (List.mem_of_getElem? (nthR_of (rs := rs) (i := 3 * (n - 1) + 2) (by omega)))
  exact arbn_leave_p B p S _ _ (nthR rs (3 * (n - 1) + 2)) (x % 2) me b c (3 * (n - 1)) rs w h hl ⟨nthR_of (i := 3 * (n - 1)) (by omega), nthR_of (i := 3 * (n - 1) + 1) (by omega), nthR_of (i := 3 * (n - 1) + 2) (by omega)⟩ k0 k1 hm0 l0 l1
end Go.Proofs.Ytpcohbpeglledaa
/-
  A row of ints turned round in place.
-/
namespace Go.Proofs.Ytpcohbpeglledaa
open Go.RowKit Kv
theorem heap_setCells_ex (g : Nat) (t : TypeId) : ∀ (vs : List Value) (o : Nat) (w : World) (cur : Array Value), w.heap[g]? = some (.cells cur t (0, 0)) → ∃ cur', (w.setCells g o vs).heap[g]? = some (.cells cur' t (0, 0)) ∧ cur'.size = cur.size
  | [], _, _, cur, h => ⟨cur, h, rfl⟩
  | v :: r, o, w, cur, h => by
    obtain ⟨cur', h1, h2⟩ := heap_setCells_ex g t r (o + 1) (w.setCell ⟨g, o, none⟩ v) _ (heap_setCell_same w g o cur t v h)
    exact ⟨cur', h1, h2.trans (by simp)⟩
theorem Ext.setCells {w0 w : World} (h : Ext w0 w) {g : Nat} (hg : w0.heap.size ≤ g) : ∀ (vs : List Value) (o : Nat), Ext w0 (w.setCells g o vs) := by
  intro vs
  induction vs generalizing w with
  | nil => intro o; exact h
  | cons v r ih => intro o; exact ih (Below.setCell (p := ⟨g, o, none⟩) h hg v) (o + 1)
end Go.Proofs.Ytpcohbpeglledaa
/-
  The black-white bakery laid, by the program.
-/
namespace Go.Proofs.Ytpcohbpeglledaa
open Go.RowKit Kv
theorem heap_setCells_all {w : World} {z : Nat} {t : TypeId} {cur : Array Value} (h : w.heap[z]? = some (.cells cur t (0, 0))) (vs : List Value) (hl : vs.length = cur.size) : (w.setCells z 0 vs).heap[z]? = some (.cells vs.toArray t (0, 0)) := by
  obtain ⟨cur', h1, h2⟩ := heap_setCells_ex z t vs 0 w cur h
  rw [h1]
  congr 2
  apply Array.ext_getElem?
  intro i
  by_cases hi : i < vs.length
  · have hc := World.cell?_setCells_in z vs 0 w (fun j hj => by
      rw [Nat.zero_add, cell_of_heap h]
      have : j < cur.size := by omega
      simp [this]) i hi
    rw [Nat.zero_add, cell_of_heap h1] at hc
    rw [hc]
    simp [hi]
  · rw [Array.getElem?_eq_none (by omega), Array.getElem?_eq_none (by simpa using hi)]
set_option maxRecDepth 100000 in
set_option maxHeartbeats 1000000 in
theorem bwlay_p (alg mode base loc room me : Int) (N : Nat) (rs : List Reg) (w : World) (h1 : 1 ≤ N) (h2 : N ≤ 8) (hl : layM (bwWants N) N mode base loc = some rs) (hlc : 0 ≤ loc ∧ loc ≤ 32768) (hm0 : 0 ≤ me) (hm1 : me < N) (r0 : Reg) (hr0 : rs[0]? = some r0) :
    Calls Try.prog 66 #[.agg #[.int .i64 alg, .int .i64 N, .int .i64 mode, .int .i64 base, .int .i64 loc, .int .i64 room], .int .i64 me] w fun e w' => ∃ b c1 c2, e = .returned (.tuple #[.agg #[.int .i64 r0.kind, .int .i64 r0.base, .int .i64 r0.loc, .int .i64 r0.n, .int .i64 r0.wr, .int .i64 r0.rd, .int .i64 r0.top, .slice (some ⟨b, 7, none⟩) N c1, .slice (some ⟨b, (1 + N) * 7, none⟩) N c2, .int .i64 (loc + sumL rs)], .int .i64 0]) ∧ w.heap.size ≤ b ∧ b < w'.heap.size ∧ (∀ (i : Nat) u, (rs.flatMap regVals)[i]? = some u → w'.cell? ⟨b, i, none⟩ = some u) ∧ Ext w w' := by
  have hlen := layM_len hl
  rw [bwWants_len] at hlen
  have hok : ∀ r ∈ rs, r.ok := fun r hr => (laid_all hl r hr).1
  have hbd := sum_bd hok rs.length (Nat.le_refl _)
  rw [List.take_length] at hbd
  have hw := IntWalk.i64_in (loc + sumL rs) (by omega)
  have hw2 := IntWalk.i64_in ((1 : Int) + (N : Int)) (by omega)
  replace hl := Lib.hid hl
  have hlenh := Lib.hid hlen
  have hokh := Lib.hid hok
  have hr0h := Lib.hid hr0
  clear hlen hok hbd hr0
  have d1 : decide (me < 0) = false := by rw [decide_eq_false_iff_not]; omega
  have d2 : decide ((N : Int) ≤ me) = false := by rw [decide_eq_false_iff_not]; omega
  have hX := Ext.refl w
  have b1 := Blk.new w (.cells #[.int .i64 alg, .int .i64 N, .int .i64 mode, .int .i64 base, .int .i64 loc, .int .i64 room] 44)
  replace hX := hX.alloc (.cells #[.int .i64 alg, .int .i64 N, .int .i64 mode, .int .i64 base, .int .i64 loc, .int .i64 room] 44)
  have c_b1 := b1.cells
  go_enter Try.func66, Try.ntmps66
  go_wp2_with fail
  have z1 := Blk.new (w.alloc (.cells #[.int .i64 alg, .int .i64 N, .int .i64 mode, .int .i64 base, .int .i64 loc, .int .i64 room] 44)) (.cells #[.int .i64 0, .int .i64 0, .int .i64 0, .int .i64 0, .int .i64 0, .int .i64 0, .int .i64 0, .slice none 0 0, .slice none 0 0, .int .i64 0] 79)
  rw [World.size_alloc] at z1
  replace b1 := b1.alloc (.cells #[.int .i64 0, .int .i64 0, .int .i64 0, .int .i64 0, .int .i64 0, .int .i64 0, .int .i64 0, .slice none 0 0, .slice none 0 0, .int .i64 0] 79)
  replace hX := hX.alloc (.cells #[.int .i64 0, .int .i64 0, .int .i64 0, .int .i64 0, .int .i64 0, .int .i64 0, .int .i64 0, .slice none 0 0, .slice none 0 0, .int .i64 0] 79)
  clear c_b1
  generalize World.alloc (World.alloc w _) _ = W at *
  have hXW := hX
  clear hX
  have hX := (Ext.refl W).drew
  have hS : ∀ w', Ext W w' → (∀ i, w'.cell? ⟨w.heap.size, i, none⟩ = (#[.int .i64 alg, .int .i64 N, .int .i64 mode, .int .i64 base, .int .i64 loc, .int .i64 room] : Array Value)[i]?) := fun w' hx => (b1.ext hx).cells
  go_region_held2 (fun w' => ∀ i, w'.cell? ⟨w.heap.size, i, none⟩ = (#[.int .i64 alg, .int .i64 N, .int .i64 mode, .int .i64 base, .int .i64 loc, .int .i64 room] : Array Value)[i]?) (exact hS _ hX)
    (first
      | (go_at_call 65
         refine (bwwants_p N _ h1 h2).mono ?_
         rintro e w2 ⟨v2, rfl, hw2, hx⟩
         replace hX := hX.trans hx
         have hz2 := hX.size
         clear hx)
      | (go_at_call 90
         refine (layp_some hl.out _ (hw2.ext (Ext.refl _)) (by rw [bwWants_len]; omega)).mono ?_
         rintro e w3 ⟨v3, rfl, hr3, hx⟩
         replace hX := hX.trans hx
         clear hx))
  rename_i hh
  clear hh
  obtain ⟨⟨A, c0, rfl, q1, q2, hV⟩, hown⟩ := hr3
  obtain ⟨c, rfl⟩ : ∃ c, c0 = c + N + 2 := ⟨c0 - N - 2, by have := hlenh.out; omega⟩
  obtain ⟨b, rfl, hb, hcells⟩ := hV (by cases rs with | nil => have := hlenh.out; simp only [List.length_nil] at this; omega | cons r l => simp [regVals])
  have hgeW : W.heap.size ≤ b := Nat.le_trans hz2 (hown b rfl)
  have hge : w.heap.size ≤ b := Nat.le_trans hXW.size hgeW
  have hch := Lib.hid hcells
  clear hcells hV hown hz2
  go_wp2_with fail
  refine (size_p b (c + N + 2) rs w3 hb hch.out hokh.out (by have := hlenh.out; omega)).mono ?_
  rintro e w4 ⟨rfl, hx4⟩
  have hX4 := hX.trans hx4
  have hcells4 : ∀ (i : Nat) u, (rs.flatMap regVals)[i]? = some u → w4.cell? ⟨b, i, none⟩ = some u := fun i u hu => (hx4.cell (p := ⟨b, i, none⟩) hb).trans (hch.out i u hu)
  have hb4 := Nat.lt_of_lt_of_le hb hx4.size
  obtain ⟨a0, a1, a2, a3, a4, a5, a6⟩ := reg_cells (w := w4) (b := b) hcells4 hr0h.out
  simp only [Nat.zero_mul, Nat.zero_add] at a0 a1 a2 a3 a4 a5 a6
  have c_b4 := (b1.ext hX4).cells
  have z4 := z1.ext hX4
  have hlen9 : (rs.length : Int) = 2 * (N : Int) + 1 := by have := hlenh.out; omega
  have hcells4h := Lib.hid hcells4
  have c_z4 := z4.cells
  have hfz : ∀ i, w4.frozen? ⟨w.heap.size + 1, i, none⟩ = false := fun i => by
    have z5 := z4
    unfold Blk at z5
    simp [World.frozen?, z5]
  have l1 : (0 : Int) < 2 * (N : Int) + 1 := by omega
  clear hcells4 hx4 hX hch hb
  go_wp2_with fail
  go_region
  have hne : w.heap.size + 1 ≠ b := by have := z1.lt; omega
  have hE4 : Ext w w4 := hXW.trans hX4
  have hg9 : w.heap.size ≤ w.heap.size + 1 := Nat.le_succ _
  have hWW : ((((((((((w4.setCell ⟨w.heap.size + 1, 0, none⟩ (.int .i64 r0.kind)).setCell ⟨w.heap.size + 1, 1, none⟩ (.int .i64 r0.base)).setCell ⟨w.heap.size + 1, 2, none⟩ (.int .i64 r0.loc)).setCell ⟨w.heap.size + 1, 3, none⟩ (.int .i64 r0.n)).setCell ⟨w.heap.size + 1, 4, none⟩ (.int .i64 r0.wr)).setCell ⟨w.heap.size + 1, 5, none⟩ (.int .i64 r0.rd)).setCell ⟨w.heap.size + 1, 6, none⟩ (.int .i64 r0.top)).setCell ⟨w.heap.size + 1, 7, none⟩ (.slice (some ⟨b, 7, none⟩) N (c + N + 1))).setCell ⟨w.heap.size + 1, 8, none⟩ (.slice (some ⟨b, (1 + N) * 7, none⟩) (rs.length - (1 + N)) (c + N + 2 - (1 + N)))).setCell ⟨w.heap.size + 1, 9, none⟩ (.int .i64 (loc + sumL rs))) = w4.setCells (w.heap.size + 1) 0 [.int .i64 r0.kind, .int .i64 r0.base, .int .i64 r0.loc, .int .i64 r0.n, .int .i64 r0.wr, .int .i64 r0.rd, .int .i64 r0.top, .slice (some ⟨b, 7, none⟩) N (c + N + 1), .slice (some ⟨b, (1 + N) * 7, none⟩) (rs.length - (1 + N)) (c + N + 2 - (1 + N)), .int .i64 (loc + sumL rs)] := rfl
  obtain ⟨W5, hW5⟩ : ∃ W5, W5 = w4.setCells (w.heap.size + 1) 0 [.int .i64 r0.kind, .int .i64 r0.base, .int .i64 r0.loc, .int .i64 r0.n, .int .i64 r0.wr, .int .i64 r0.rd, .int .i64 r0.top, .slice (some ⟨b, 7, none⟩) N (c + N + 1), .slice (some ⟨b, (1 + N) * 7, none⟩) (rs.length - (1 + N)) (c + N + 2 - (1 + N)), .int .i64 (loc + sumL rs)] := ⟨_, rfl⟩
  have z5 : W5.heap[w.heap.size + 1]? = some (.cells #[.int .i64 r0.kind, .int .i64 r0.base, .int .i64 r0.loc, .int .i64 r0.n, .int .i64 r0.wr, .int .i64 r0.rd, .int .i64 r0.top, .slice (some ⟨b, 7, none⟩) N (c + N + 1), .slice (some ⟨b, (1 + N) * 7, none⟩) (rs.length - (1 + N)) (c + N + 2 - (1 + N)), .int .i64 (loc + sumL rs)] 79 (0, 0)) := by
    rw [hW5]
    exact heap_setCells_all z4 [.int .i64 r0.kind, .int .i64 r0.base, .int .i64 r0.loc, .int .i64 r0.n, .int .i64 r0.wr, .int .i64 r0.rd, .int .i64 r0.top, .slice (some ⟨b, 7, none⟩) N (c + N + 1), .slice (some ⟨b, (1 + N) * 7, none⟩) (rs.length - (1 + N)) (c + N + 2 - (1 + N)), .int .i64 (loc + sumL rs)] rfl
  have hE5 : Ext w W5 := by
    rw [hW5]
    exact Ext.setCells hE4 hg9 _ _
  have hB : W5.heap[b]? = w4.heap[b]? := by
    rw [hW5]
    exact World.heap_setCells_other _ _ _ _ hb4 (fun h => hne h.symm)
  rw [← hW5] at hWW
  clear hW5
  have hcl : ∀ i, W5.cell? ⟨b, i, none⟩ = w4.cell? ⟨b, i, none⟩ := fun i => World.cell?_of_block (w := w4) (a := ⟨b, i, none⟩) hB
  have hb5 : b < W5.heap.size := by
    have : W5.heap[b]? = some w4.heap[b] := by rw [hB]; exact Array.getElem?_eq_getElem hb4
    exact (Array.getElem?_eq_some_iff.1 this).1
  have hcells5 : Hid (∀ (i : Nat) u, (rs.flatMap regVals)[i]? = some u → W5.cell? ⟨b, i, none⟩ = some u) := Lib.hid fun i u hu => (hcl i).trans (hcells4h.out i u hu)
  have c_z5 := fun i => cell_of_heap z5 i
  try rw [hWW]
  clear a0 a1 a2 a3 a4 a5 a6 c_b4 c_z4 hfz hcl hB hcells4h z4 z1 b1
  go_wp2_with fail
  refine bodyPost_ret (v := .tuple #[.agg #[.int .i64 r0.kind, .int .i64 r0.base, .int .i64 r0.loc, .int .i64 r0.n, .int .i64 r0.wr, .int .i64 r0.rd, .int .i64 r0.top, .slice (some ⟨b, 7, none⟩) N (c + N + 1), .slice (some ⟨b, (1 + N) * 7, none⟩) (rs.length - (1 + N)) (c + N + 2 - (1 + N)), .int .i64 (loc + sumL rs)], .int .i64 0]) (by simp [results, Try.results66, go_sem, c_z5]) rfl ?_
  rw [show rs.length - (1 + N) = N from by have := hlenh.out; omega]
  exact ⟨_, _, _, rfl, hge, hb5, hcells5.out, hE5.drew⟩
end Go.Proofs.Ytpcohbpeglledaa
/-
  The black-white bakery released, by the document.
-/
namespace Kv
/-- As bwR, the local read ahead of the note. -/
def bwR2 (l : List Reg) (own n me : Int) : Prog Unit :=
  (gt own).bind fun x => (nt 5).bind fun _ => (regW (regAt l 0) me (1 - bitM x)).bind fun _ => regW (regAt l (1 + n + me)) me (bitM x)
theorem bwR_run (l : List Reg) (own n me : Int) (S : TS) : (bwR2 l own n me).run S = (bwR l own n me).run S := rfl
theorem Ref.congr {α : Type} {T T' : Prog α} (h : ∀ S, T.run S = T'.run S) {o o' : Bool} {S S' : TS} {a : α} (hr : Ref T o S a o' S') : Ref T' o S a o' S' := by
  cases hr with
  | over => exact .over _ _
  | done k => exact .done ((h _).symm.trans k)
  | stop _ k => exact .stop _ ((h _).symm.trans k)
end Kv
namespace Go.Proofs.Ytpcohbpeglledaa
open Go.RowKit Kv
end Go.Proofs.Ytpcohbpeglledaa
/-
  The black-white bakery released, by the program.
-/
namespace Go.Proofs.Ytpcohbpeglledaa
open Go.RowKit Kv
theorem bwbit_p (x : Int) (w : World) : Calls Try.prog 67 #[.int .i64 x] w fun e w' => e = .returned (.int .i64 (bitM x)) ∧ w = w' := by
  unfold bitM
  by_cases h : x = 0
  · rw [if_pos h]
    go_enter Try.func67, Try.ntmps67
    go_wp2_with fail
    go_ret
    exact ⟨rfl, rfl⟩
  · rw [if_neg h]
    have hb : (x != 0) = true := by rw [bne_iff_ne]; exact h
    go_enter Try.func67, Try.ntmps67
    go_wp2_with fail
    go_ret
    exact ⟨rfl, rfl⟩
end Go.Proofs.Ytpcohbpeglledaa
/-
  The fast lock: reading a register till it tells 0, both sides; writing it unless it is over.
-/
namespace Kv
theorem zeroP_succ (r : Reg) (me : Int) (n : Nat) : zeroP r me (n + 1) = (regR r me).bind fun x => if x = 0 then .ret () else zeroP r me n := rfl
end Kv
namespace Go.Proofs.Ytpcohbpeglledaa
open Go.RowKit Kv
set_option maxRecDepth 100000 in
set_option maxHeartbeats 1000000 in
theorem fwait_p (B p D : Nat) (S : TS) (r : Reg) (me : Int) (w : World) (h : Plays B w p S) (hr : r.ok) (hm0 : 0 ≤ me) (hmr : me < r.n) (ht : r.told me) (hD : S.left < D) :
    Calls Try.prog 60 #[.pointer (some ⟨p, 0, none⟩), encR r, .int .i64 me] w (Post encB B p w (((zeroP r me D).bind fun _ => .ret true).run S)) := by
  generalize hR : Post encB B p w (((zeroP r me D).bind fun _ => .ret true).run S) = R
  have hO : Owes R encB B p w (((zeroP r me D).bind fun _ => .ret true).run S) := hR ▸ owes _ _ _ _ _
  clear hR
  have hCm := fun w => cells_pm r me w hr ht ⟨hm0, hmr⟩
  have hRd := fun S w (h : Plays B w p S) => reg_read_p B p S r me w h hr ⟨hm0, hmr⟩
  unfold encR at hCm hRd ⊢
  have hK := Keep.refl [2, 3, 4] B p w
  have hP := h
  have b1 := hP.held (.cells #[.int .i64 r.kind, .int .i64 r.base, .int .i64 r.loc, .int .i64 r.n, .int .i64 r.wr, .int .i64 r.rd, .int .i64 r.top] 41)
  replace hK := hK.trans (Keep.alloc (.cells #[.int .i64 r.kind, .int .i64 r.base, .int .i64 r.loc, .int .i64 r.n, .int .i64 r.wr, .int .i64 r.rd, .int .i64 r.top] 41) hP.lt hP.le)
  replace hP := hP.alloc (.cells #[.int .i64 r.kind, .int .i64 r.base, .int .i64 r.loc, .int .i64 r.n, .int .i64 r.wr, .int .i64 r.rd, .int .i64 r.top] 41)
  have c_b1 := b1.cells
  clear h
  have hRh := Lib.hid hRd
  clear hRd
  go_enter Try.func60, Try.ntmps60
  go_wp2_with fail
  clear c_b1
  generalize hbb : w.heap.size = b at *
  generalize World.alloc _ _ = W0 at *
  have hOh := Lib.hid hO
  clear hO hbb
  go_loopw [] (fun wr => ∃ (n : Nat) (S2 : TS), Plays B wr p S2 ∧ KeepP B p w wr ∧ HeldP wr p b (.cells #[.int .i64 r.kind, .int .i64 r.base, .int .i64 r.loc, .int .i64 r.n, .int .i64 r.wr, .int .i64 r.rd, .int .i64 r.top] 41) ∧ Hid (Owes R encB B p w (((zeroP r me n).bind fun _ => .ret true).run S2)) ∧ S2.left < n) (fun wr => leftW 1 3 wr p)
  case atStart => exact ⟨D, S, hP, hK, b1, hOh, hD⟩
  case round =>
    clear hP hK b1 hOh hD
    obtain ⟨n, S2, hP, hK, b1, hO, hD⟩ := hrel
    replace hO := hO.out
    have hlw := Lib.hid hP.left
    cases n with
    | zero => omega
    | succ n =>
      rw [zeroP_bind] at hO
      have c_b1 := b1.cells
      have hOh := Lib.hid hO
      clear hO
      go_wp2_with fail
      replace hO := hOh.out
      clear c_b1 hOh
      refine tstepL hO hK (hRh.out S2 _ hP) (fun _ h => ⟨rfl, h⟩) ?_
      clear hO hK hP
      intro x S3 w4 _ hlf hP hk hK hO
      replace hlf := hlf (asks_regR _ _ ht)
      replace b1 := b1.keep hk
      clear hk
      by_cases hx : x = 0
      · have dx : (x != 0) = false := by simpa using hx
        rw [if_pos hx] at hO
        have hf : R (.returned (encB true)) w4 := hO.done (v := true) hP hK
        clear hO hP hK hx b1
        go_wp2_with fail
        first | exact hf | (go_ret; exact hf)
      · have dx : (x != 0) = true := by simpa using hx
        rw [if_neg hx] at hO
        clear hx
        have c_b1 := b1.cells
        have hOh := Lib.hid hO
        clear hO
        go_wp2_with fail
        refine (hCm _).mono ?_
        rintro e w6 ⟨cc, rfl, hcc, hx⟩
        replace b1 := b1.ext hx hP.lt
        replace hK := hK.trans (Keep.of_ext hx hP.lt hP.le)
        replace hP := hP.ext hx
        clear hx c_b1
        have hlw2 := Lib.hid hP.left
        go_wp2_with fail
        refine ⟨⟨n, S3, hP, hK, b1, hOh, by omega⟩, ?_⟩
        rw [hlw.out, hlw2.out]
        omega
set_option maxRecDepth 100000 in
theorem fwait_z (B p D : Nat) (S : TS) (r : Reg) (me : Int) (w : World) (h : Plays B w p S) (hr : r.ok) (hm0 : 0 ≤ me) (hmr : me < r.n) (hz : (regR r me).run S = (some 0, S)) :
    Calls Try.prog 60 #[.pointer (some ⟨p, 0, none⟩), encR r, .int .i64 me] w (Post encB B p w (((zeroP r me (D + 1)).bind fun _ => .ret true).run S)) := by
  generalize hR : Post encB B p w (((zeroP r me (D + 1)).bind fun _ => .ret true).run S) = R
  have hO : Owes R encB B p w (((zeroP r me (D + 1)).bind fun _ => .ret true).run S) := hR ▸ owes _ _ _ _ _
  clear hR
  have hRd := fun S w (h : Plays B w p S) => reg_read_p B p S r me w h hr ⟨hm0, hmr⟩
  unfold encR at hRd ⊢
  have hK := Keep.refl [2, 3, 4] B p w
  have hP := h
  have b1 := hP.held (.cells #[.int .i64 r.kind, .int .i64 r.base, .int .i64 r.loc, .int .i64 r.n, .int .i64 r.wr, .int .i64 r.rd, .int .i64 r.top] 41)
  replace hK := hK.trans (Keep.alloc (.cells #[.int .i64 r.kind, .int .i64 r.base, .int .i64 r.loc, .int .i64 r.n, .int .i64 r.wr, .int .i64 r.rd, .int .i64 r.top] 41) hP.lt hP.le)
  replace hP := hP.alloc (.cells #[.int .i64 r.kind, .int .i64 r.base, .int .i64 r.loc, .int .i64 r.n, .int .i64 r.wr, .int .i64 r.rd, .int .i64 r.top] 41)
  have c_b1 := b1.cells
  clear h
  have hRh := Lib.hid hRd
  have hzh := Lib.hid hz
  clear hRd hz
  go_enter Try.func60, Try.ntmps60
  go_wp2_with fail
  clear c_b1
  generalize hbb : w.heap.size = b at *
  generalize World.alloc _ _ = W0 at *
  have hOh := Lib.hid hO
  clear hO hbb
  go_loopw [] (fun wr => W0 = wr) (fun _ => 0)
  case atStart => rfl
  case round =>
    subst hrel
    have hO := hOh.out
    rw [zeroP_bind] at hO
    have c_b1 := b1.cells
    have hOk := Lib.hid hO
    clear hO hOh
    go_wp2_with fail
    replace hO := hOk.out
    clear c_b1 hOk
    refine tstep hO hK (hRh.out S _ hP) (fun _ h => ⟨rfl, h⟩) ?_
    clear hO hK hP
    intro x S3 w4 hr3 hP hk hK hO
    rw [hzh.out] at hr3
    obtain ⟨rfl, rfl⟩ : 0 = x ∧ S = S3 := by simpa using hr3
    rw [if_pos rfl] at hO
    have hf : R (.returned (encB true)) w4 := hO.done (v := true) hP hK
    clear hO hP hK b1 hk hr3
    go_wp2_with fail
    first | exact hf | (go_ret; exact hf)
end Go.Proofs.Ytpcohbpeglledaa
/-
  The fast lock: releasing, both sides.
-/
namespace Go.Proofs.Ytpcohbpeglledaa
open Go.RowKit Kv
set_option maxRecDepth 100000 in
set_option maxHeartbeats 1000000 in
theorem fastrel_p (B p N : Nat) (S : TS) (alg mode base loc room : Int) (m : Nat) (rs : List Reg) (w : World) (h : Plays B w p S) (h1 : 1 ≤ N) (h2 : N ≤ 8) (hm1 : m < N) (hl : layM (fastWants N) N mode base loc = some rs)
    (hok : ∀ r ∈ rs, r.ok ∧ r.n = N) (hn0 : S.nts.length = 0) :
    Calls Try.prog 29 #[.pointer (some ⟨p, 0, none⟩), .agg #[.int .i64 alg, .int .i64 N, .int .i64 mode, .int .i64 base, .int .i64 loc, .int .i64 room], .int .i64 m] w (Post encU B p w ((fastR rs m).run S)) := by
  have hlen := layM_len hl
  rw [fastWants_len] at hlen
  generalize hR : Post encU B p w ((fastR rs m).run S) = R
  have hO : Owes R encU B p w ((fastR rs m).run S) := hR ▸ owes _ _ _ _ _
  clear hR
  have hK := Keep.refl [2, 3, 4] B p w
  have hP := h
  have b1 := hP.held (.cells #[.int .i64 alg, .int .i64 N, .int .i64 mode, .int .i64 base, .int .i64 loc, .int .i64 room] 44)
  replace hK := hK.trans (Keep.alloc (.cells #[.int .i64 alg, .int .i64 N, .int .i64 mode, .int .i64 base, .int .i64 loc, .int .i64 room] 44) hP.lt hP.le)
  replace hP := hP.alloc (.cells #[.int .i64 alg, .int .i64 N, .int .i64 mode, .int .i64 base, .int .i64 loc, .int .i64 room] 44)
  have c_b1 := b1.cells
  clear h
  unfold fastR at hO
  go_enter Try.func29, Try.ntmps29
  go_wp2_with fail
  refine (fastlay_p alg mode base loc room m N rs _ h1 h2 hl (by omega) (by omega)).mono ?_
  rintro e w1 ⟨b, c, rfl, hge, hb, hcells, q1, q2, hx⟩
  have hreg : RegsAt [2, 3, 4] w1 p b rs := ⟨hb, hP.fresh hx hge, hcells⟩
  replace hK := hK.trans (Keep.of_ext hx hP.lt hP.le)
  replace hP := hP.ext hx
  obtain ⟨r1, hr1⟩ : ∃ r, rs[1]? = some r := ⟨_, List.getElem?_eq_getElem (by omega)⟩
  obtain ⟨rm, hrm⟩ : ∃ r, rs[2 + m]? = some r := ⟨_, List.getElem?_eq_getElem (by omega)⟩
  have hok1 := (hok _ (List.mem_of_getElem? hr1)).1
  have hm1' : (m : Int) < r1.n := by rw [(hok _ (List.mem_of_getElem? hr1)).2]; omega
  have hokm := (hok _ (List.mem_of_getElem? hrm)).1
  have hmm : (m : Int) < rm.n := by rw [(hok _ (List.mem_of_getElem? hrm)).2]; omega
  rw [regAt_of (show (1 : Int) = ((1 : Nat) : Int) from rfl) hr1, regAt_of (show (2 : Int) + (m : Int) = ((2 + m : Nat) : Int) from by omega) hrm] at hO
  have hw1 := IntWalk.i64_in ((2 : Int) + (m : Int)) (by omega)
  have hi2 : (2 : Int) + (m : Int) < (rs.length : Int) := by omega
  have hi0 : 0 ≤ (2 : Int) + (m : Int) := by omega
  have hi1 : ((2 : Int) + (m : Int)).toNat = 2 + m := by omega
  have hj2 : (1 : Nat) < rs.length := by omega
  have hj3 : (1 : Int) < (rs.length : Int) := by omega
  have hrh := Lib.hid (And.intro hr1 hrm)
  clear hx hcells hge hb b1 c_b1 hlen hr1 hrm hl hok
  go_wp2_with fail
  refine tstepN (notes_nt 5) hO hK (noteO hP (by unfold maxAns; omega)) (fun _ h => ⟨rfl, h⟩) ?_
  clear hO hK hP
  intro u S1 w2 _ _ _ hP hk hK hO
  replace hreg := hreg.keep hk
  clear hk
  obtain ⟨a0, a1, a2, a3, a4, a5, a6⟩ := hreg.nth hrh.out.1
  go_wp2_with fail
  clear a0 a1 a2 a3 a4 a5 a6
  refine tstepN (notes_regW _ _ _) hO hK (reg_write_p B p S1 r1 m 0 _ hP hok1 ⟨by omega, hm1'⟩) (fun _ h => ⟨rfl, h⟩) ?_
  clear hO hK hP
  intro u S2 w3 _ _ _ hP hk hK hO
  replace hreg := hreg.keep hk
  clear hk
  obtain ⟨a0, a1, a2, a3, a4, a5, a6⟩ := hreg.nth hrh.out.2
  go_wp2_with fail
  clear a0 a1 a2 a3 a4 a5 a6 hrh hreg
  refine tlast hO hK (reg_write_p B p S2 rm m 0 _ hP hokm ⟨by omega, hmm⟩) (fun _ h => ⟨rfl, h⟩) ?_
  clear hO hK hP
  intro u S3 w4 hr hP hk hK hO
  have hf := hO.done hP hK
  clear hO hP hK hr hk
  go_wp2_with fail
  first | exact hf | (refine bodyPost_ret (results_none rfl _ _ _) rfl ?_; exact hf)
end Go.Proofs.Ytpcohbpeglledaa
/-
  A scope in which the run jumps to several labels.
-/
namespace Kv
open Go
/-- So many values, one behind the other. -/
def Fr : Nat → (List Value → Prop) → Prop
  | 0, G => G []
  | n + 1, G => ∀ u : Value, Fr n fun l => G (u :: l)
theorem fr_list : ∀ (n : Nat) (G : List Value → Prop), Fr n G → ∀ l : List Value, l.length = n → G l
  | 0, G, h, [], _ => h
  | n + 1, G, h, u :: l, hl => fr_list n (fun l => G (u :: l)) (h u) l (by simpa using hl)
/-- A frame of so many slots is its slots. -/
theorem fr_act (n : Nat) (G : Act → Prop) (h : Fr n fun l => G ⟨l.toArray, []⟩) (a : Act) (hd : a.defers = []) (hs : a.tmps.size = n) : G a := by
  obtain ⟨⟨l⟩, d⟩ := a
  obtain rfl : d = [] := hd
  exact fr_list n (fun l => G ⟨l.toArray, []⟩) h l (by simpa using hs)
/-- As Q; by a goto to label l: what J asks there. -/
def Jumps (J : Nat → Act → World → Prop) (Q : Exit → Act → World → Prop) : Exit → Act → World → Prop
  | .goto l, a, w => J l a w
  | e, a, w => Q e a w
section
variable {P : Program} {a : Act} {w : World} {J : Nat → Act → World → Prop} {Q : Exit → Act → World → Prop}
@[go_sem] theorem jumps_normal : Jumps J Q .normal a w = Q .normal a w := rfl
@[go_sem] theorem jumps_exit (id : Nat) : Jumps J Q (.exit id) a w = Q (.exit id) a w := rfl
@[go_sem] theorem jumps_ret : Jumps J Q .ret a w = Q .ret a w := rfl
@[go_sem] theorem jumps_panic (c : List PanicEntry) : Jumps J Q (.panic c) a w = Q (.panic c) a w := rfl
@[go_sem] theorem jumps_goto (l : Nat) : Jumps J Q (.goto l) a w = J l a w := rfl
/-- Each label with what holds where it is jumped to, and a measure that each pass lowers. -/
theorem wp_scope_labels {c : Code} (J : Nat → Act → World → Prop) (μ : Nat → Act → World → Nat) (first : c.wp P (Jumps J Q) a w)
    (pass : ∀ l a w, J l a w → ∃ rest, findLabel c l = some rest ∧ rest.wp P (Jumps (fun l' a' w' => J l' a' w' ∧ μ l' a' w' < μ l a w) Q) a w) : (Code.scope c).wp P Q a w := by
  intro b k cs
  have key : ∀ n l a w rest, findLabel c l = some rest → μ l a w = n → J l a w → ∃ e a' w', Q e a' w' ∧ Arrives P (lone (b.at a (.code rest :: .inScope c :: k)) cs w) b k cs e a' w' := by
    intro n
    induction n using Nat.strongRecOn with
    | _ n ih =>
      intro l a w rest hf hn hJ
      obtain ⟨rest', hf', hp⟩ := pass l a w hJ
      obtain rfl : rest = rest' := by rw [hf] at hf'; injection hf'
      obtain ⟨e, a₁, w₁, hq, harr⟩ := hp b (.inScope c :: k) cs
      cases e with
      | normal => exact ⟨.normal, a₁, w₁, hq, Steps.trans harr (.one step_inScope)⟩
      | exit id => exact ⟨.exit id, a₁, w₁, hq, fun k' hk => harr k' (by simp [exitTo, hk])⟩
      | goto l' =>
        obtain ⟨hJ', hlt⟩ := hq
        obtain ⟨rest2, hf2, _⟩ := pass l' a₁ w₁ hJ'
        have hg : gotoIn l' (.inScope c :: k) = some (.code rest2 :: .inScope c :: k) := by simp [gotoIn, hf2]
        obtain ⟨e₂, a₂, w₂, hq₂, harr₂⟩ := ih _ (by omega) l' a₁ w₁ rest2 hf2 rfl hJ'
        exact ⟨e₂, a₂, w₂, hq₂, .of_steps (harr _ hg) harr₂⟩
      | ret => exact ⟨_, a₁, w₁, hq, harr⟩
      | panic ch => exact ⟨_, a₁, w₁, hq, harr⟩
      | outgrown => exact ⟨_, a₁, w₁, hq, harr⟩
  obtain ⟨e, a₁, w₁, hq, harr⟩ := first b (.inScope c :: k) cs
  cases e with
  | normal => exact ⟨.normal, a₁, w₁, hq, .head step_scope (Steps.trans harr (.one step_inScope))⟩
  | exit id => exact ⟨.exit id, a₁, w₁, hq, fun k' hk => .head step_scope (harr k' (by simp [exitTo, hk]))⟩
  | goto l' =>
    obtain ⟨rest2, hf2, _⟩ := pass l' a₁ w₁ hq
    have hg : gotoIn l' (.inScope c :: k) = some (.code rest2 :: .inScope c :: k) := by simp [gotoIn, hf2]
    obtain ⟨e₂, a₂, w₂, hq₂, harr₂⟩ := key _ l' a₁ w₁ rest2 hf2 rfl hq
    exact ⟨e₂, a₂, w₂, hq₂, .of_steps (.head step_scope (harr _ hg)) harr₂⟩
  | ret => exact ⟨_, a₁, w₁, hq, .of_steps (.one step_scope) harr⟩
  | panic ch => exact ⟨_, a₁, w₁, hq, .of_steps (.one step_scope) harr⟩
  | outgrown => exact ⟨_, a₁, w₁, hq, .of_steps (.one step_scope) harr⟩
/-- As above; who runs into a label holds what holds where it is jumped to. -/
theorem wp_scope_fall {c : Code} (J : Nat → Act → World → Prop) (μ : Nat → Act → World → Nat)
    (pass : ∀ l a w, J l a w → ∃ rest, findLabel c l = some (.seq .skip rest) ∧ rest.wp P (Jumps (fun l' a' w' => J l' a' w' ∧ μ l' a' w' < μ l a w) Q) a w)
    (first : (∀ l rest a w, findLabel c l = some (.seq .skip rest) → J l a w → rest.wp P (Jumps J Q) a w) → c.wp P (Jumps J Q) a w) : (Code.scope c).wp P Q a w := by
  refine wp_scope_labels J μ (first fun l rest a w hf hJ => ?_) fun l a w hJ => ?_
  · obtain ⟨rest', hf', hp⟩ := pass l a w hJ
    obtain rfl : rest = rest' := by rw [hf] at hf'; simpa using hf'
    refine Code.wp_mono (fun e a2 w2 hq => ?_) hp
    cases e with
    | goto l' => exact hq.1
    | normal => exact hq
    | exit id => exact hq
    | ret => exact hq
    | panic ch => exact hq
    | outgrown => exact hq
  · obtain ⟨rest, hf, hp⟩ := pass l a w hJ
    exact ⟨_, hf, wp_seq (wp_skip hp)⟩
end
end Kv
/-
  The fast lock's tries, as the program walks them; steps that tell all.
-/
namespace Kv
theorem fastTry_bind {β : Type} (N : Nat) (l : List Reg) (n me : Int) (k : Nat) (f : Unit → Prog β) : (fastTry N l n me (k + 1)).bind f =
    (regW (regAt l (2 + me)) me 1).bind fun _ => (regW (regAt l 0) me (me + 1)).bind fun _ => (regR (regAt l 1) me).bind fun y =>
      if y = 0 then
        (regW (regAt l 1) me (me + 1)).bind fun _ => (regR (regAt l 0) me).bind fun x =>
          if x = me + 1 then f () else
            (regW (regAt l (2 + me)) me 0).bind fun _ => (forP (fun j _ => zeroP (regAt l (2 + j)) me N) (ranksFrom (-1) n.toNat 0) ()).bind fun _ =>
              (regR (regAt l 1) me).bind fun y => if y = me + 1 then f () else (zeroP (regAt l 1) me N).bind fun _ => (fastTry N l n me k).bind f
      else (regW (regAt l (2 + me)) me 0).bind fun _ => (zeroP (regAt l 1) me N).bind fun _ => (fastTry N l n me k).bind f := by
  simp only [fastTry, Prog.bind_assoc]
  congr 1; funext _; congr 1; funext _; congr 1; funext y
  by_cases hy : y = 0
  · simp only [if_pos hy, Prog.bind_assoc]
    congr 1; funext _; congr 1; funext x
    by_cases hx : x = me + 1
    · simp only [if_pos hx]; rfl
    · simp only [if_neg hx, Prog.bind_assoc]
      congr 1; funext _; congr 1; funext _; congr 1; funext z
      by_cases hz : z = me + 1
      · simp only [if_pos hz]; rfl
      · simp only [if_neg hz, Prog.bind_assoc]
  · simp only [if_neg hy, Prog.bind_assoc]
theorem zeroT_bind {β : Type} (r : Reg) (me : Int) (D : Nat) (f : Unit → Prog β) : (zeroP r me D).bind f = ((zeroP r me D).bind fun _ => Prog.ret true).bind fun _ => f () := by
  rw [Prog.bind_assoc]; rfl
theorem zeroT_run {r : Reg} {me : Int} {D : Nat} {S S1 : TS} {v : Bool} (h : ((zeroP r me D).bind fun _ => Prog.ret true).run S = (some v, S1)) : v = true ∧ (zeroP r me D).run S = (some (), S1) := by
  rw [Prog.run_bind] at h
  rcases hr : (zeroP r me D).run S with ⟨o, S2⟩
  rw [hr] at h
  cases o with
  | none => simp [thenR] at h
  | some u =>
    simp only [thenR, Prog.run, Prod.mk.injEq, Option.some.injEq] at h
    exact ⟨h.1.symm, by rw [← h.2]⟩
theorem notes_zeroT (r : Reg) (me : Int) (D : Nat) : ((zeroP r me D).bind fun _ => Prog.ret true).Notes 0 := (notes_zeroP r me D).bind0 fun _ => .ret _ _
end Kv
namespace Go.Proofs.Ytpcohbpeglledaa
open Go.RowKit Kv
/-- A step: what it told, what is left of the answers, how many notes there are. -/
theorem tstepA {α β : Type} {B p : Nat} {w0 w : World} {S : TS} {R : Ending → World → Prop} {P : Program} {f : FuncId} {args : Array Value} {K : Ending → World → Prop} {enc : α → Value} {enc' : β → Value} {T : Prog α} {g : α → Prog β} {k : Nat} (hN : T.Notes k)
    (hO : Owes R enc' B p w0 ((T.bind g).run S)) (hB : KeepP B p w0 w) (h : Calls P f args w (Post enc B p w (T.run S))) (hp : ∀ w', R (stopE p) w' → K (stopE p) w')
    (hk : ∀ v S1 w1, T.run S = (some v, S1) → S1.left ≤ S.left → (T.Asks → S1.left < S.left) → S1.nts.length ≤ S.nts.length + k → Plays B w1 p S1 → KeepP B p w w1 → KeepP B p w0 w1 → Owes R enc' B p w0 ((g v).run S1) → K (.returned (enc v)) w1) : Calls P f args w K := by
  refine tstep hO hB h hp fun v S1 w1 hr hP hk1 hk2 hO1 => hk v S1 w1 hr ?_ (fun ha => ha.left hr hP.1) ?_ hP hk1 hk2 hO1
  · have := Prog.run_left T S
    rw [hr] at this
    exact this
  · have := hN.run S
    rw [hr] at this
    exact this
/-- Two objects laid one behind the other. -/
theorem two_laid {B p b : Nat} {w : World} {S : TS} {rs : List Reg} (h : Plays B w p S) (hl : RegsAt [2, 3, 4] w p b rs) (o1 o2 : Obj) :
    HeldP ((w.alloc o1).alloc o2).drew p w.heap.size o1 ∧ HeldP ((w.alloc o1).alloc o2).drew p (w.heap.size + 1) o2 ∧ Plays B ((w.alloc o1).alloc o2).drew p S ∧ KeepP B p w ((w.alloc o1).alloc o2).drew ∧ RegsAt [2, 3, 4] ((w.alloc o1).alloc o2).drew p b rs := by
  have h2 := (h.alloc o1).held o2
  rw [World.size_alloc] at h2
  exact ⟨((h.held o1).alloc o2 (h.alloc o1).lt).drew, h2.drew, ((h.alloc o1).alloc o2).drew, ((Keep.alloc o1 h.lt h.le).trans (Keep.alloc o2 (h.alloc o1).lt (h.alloc o1).le)).drew, hl.extL ((((Ext.refl w).alloc o1).alloc o2).drew) h.lt⟩
end Go.Proofs.Ytpcohbpeglledaa
/-
  A scope in which the run jumps to several labels, inside a loop's round: but for some slots the frame stays as it was at the scope's start.
-/
namespace Kv
open Go
/-- A frame's slots, those of the mask at will. -/
def FrG : List Bool → List Value → (List Value → Prop) → Prop
  | [], l, G => G l
  | _ :: _, [], G => G []
  | true :: m, _ :: l, G => ∀ u : Value, FrG m l fun r => G (u :: r)
  | false :: m, v :: l, G => FrG m l fun r => G (v :: r)
/-- The second frame's slots where the mask says so, else the first one's. -/
def fillM : List Bool → List Value → List Value → List Value
  | [], l, _ => l
  | _ :: _, [], _ => []
  | _ :: _, _ :: _, [] => []
  | true :: m, _ :: l, u :: r => u :: fillM m l r
  | false :: m, v :: l, _ :: r => v :: fillM m l r
theorem frG_all : ∀ (m : List Bool) (l : List Value) (G : List Value → Prop), FrG m l G → ∀ r, r.length = l.length → r = fillM m l r → G r
  | [], l, G, h, r, _, he => by
    rw [fillM] at he
    rw [he]
    exact h
  | _ :: _, [], G, h, r, hl, _ => by
    obtain rfl : r = [] := List.length_eq_zero_iff.1 hl
    exact h
  | _ :: _, _ :: _, G, h, [], hl, _ => by simp at hl
  | true :: m, v :: l, G, h, u :: r, hl, he => by
    rw [FrG] at h
    rw [fillM] at he
    injection he with _ he
    exact frG_all m l (fun r => G (u :: r)) (h u) r (by simpa using hl) he
  | false :: m, v :: l, G, h, u :: r, hl, he => by
    rw [FrG] at h
    rw [fillM] at he
    injection he with h1 he
    subst h1
    exact frG_all m l (fun r => G (u :: r)) h r (by simpa using hl) he
/-- But for the mask's slots the frame is as t. -/
structure SameM (m : List Bool) (t : Array Value) (a : Act) : Prop where
  defers : a.defers = []
  size : a.tmps.toList.length = t.toList.length
  slots : a.tmps.toList = fillM m t.toList a.tmps.toList
section
variable {P : Program} {w : World} {Q : Exit → Act → World → Prop}
theorem wp_scope_mask {c : Code} {t : Array Value} (m : List Bool) (J : Nat → World → Prop) (μ : Nat → World → Nat)
    (pass : ∀ l w, J l w → (∀ l' rest a' w', findLabel c l' = some (.seq .skip rest) → SameM m t a' → J l' w' → μ l' w' < μ l w → rest.wp P (Jumps (fun l2 a2 w2 => (SameM m t a2 ∧ J l2 w2) ∧ μ l2 w2 < μ l w) Q) a' w') →
      FrG m t.toList fun r => ∃ rest, findLabel c l = some (.seq .skip rest) ∧ rest.wp P (Jumps (fun l2 a2 w2 => (SameM m t a2 ∧ J l2 w2) ∧ μ l2 w2 < μ l w) Q) ⟨r.toArray, []⟩ w)
    (first : (∀ l rest a w, findLabel c l = some (.seq .skip rest) → SameM m t a → J l w → rest.wp P (Jumps (fun l a w => SameM m t a ∧ J l w) Q) a w) → c.wp P (Jumps (fun l a w => SameM m t a ∧ J l w) Q) ⟨t, []⟩ w) : (Code.scope c).wp P Q ⟨t, []⟩ w := by
  refine wp_scope_fall (fun l a w => SameM m t a ∧ J l w) (fun l _ w => μ l w) ?_ fun hf => first fun l rest a w h1 h2 h3 => hf l rest a w h1 ⟨h2, h3⟩
  have key : ∀ n l a w, μ l w = n → SameM m t a → J l w → ∃ rest, findLabel c l = some (.seq .skip rest) ∧ rest.wp P (Jumps (fun l2 a2 w2 => (SameM m t a2 ∧ J l2 w2) ∧ μ l2 w2 < μ l w) Q) a w := by
    intro n
    induction n using Nat.strongRecOn with
    | _ n ih =>
      intro l a w hn hs hj
      have h := pass l w hj fun l' rest a' w' hl' hs' hj' hlt => by
        obtain ⟨rest', hr', hp⟩ := ih (μ l' w') (by omega) l' a' w' rfl hs' hj'
        obtain rfl : rest = rest' := by rw [hl'] at hr'; simpa using hr'
        refine Code.wp_mono (fun e a2 w2 hq => ?_) hp
        cases e with
        | goto l2 => exact ⟨hq.1, Nat.lt_trans hq.2 hlt⟩
        | normal => exact hq
        | exit id => exact hq
        | ret => exact hq
        | panic ch => exact hq
        | outgrown => exact hq
      have h2 := frG_all m t.toList _ h a.tmps.toList hs.size hs.slots
      obtain ⟨⟨tl⟩, d⟩ := a
      obtain rfl : d = [] := hs.defers
      exact h2
  exact fun l a w h => key _ l a w rfl h.1 h.2
end
end Kv
