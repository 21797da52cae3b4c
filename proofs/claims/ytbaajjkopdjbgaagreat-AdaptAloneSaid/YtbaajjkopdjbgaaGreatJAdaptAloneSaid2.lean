/-
  Peterson's lock of two sides at a node of a tree: entering and leaving, by the program.
-/
import Derived.Test.YtbaajjkopdjbgaaGreatJAdaptAloneSaid1
import Derived.Deep.DeepCutAuto
import Derived.Laws.EntriesVeiled
/-
  Peterson's lock of two sides at a node of a tree: entering and leaving, by the program.
-/
namespace Go.Proofs.YtbaajjkopdjbgaaGreat
open Go.RowKit Kv
theorem RegsAt.node3 {ix : List Nat} {p b k : Nat} {w : World} {rs : List Reg} {x y z : Reg} (h : RegsAt ix w p b rs) (hi : rs[k]? = some x ∧ rs[k + 1]? = some y ∧ rs[k + 2]? = some z) :
    RegCells w b (k * 7) x ∧ RegCells w b (k * 7 + 7) y ∧ RegCells w b (k * 7 + 14) z := by
  have h1 := h.nth hi.2.1
  have h2 := h.nth hi.2.2
  rw [show (k + 1) * 7 = k * 7 + 7 from by omega] at h1
  rw [show (k + 2) * 7 = k * 7 + 14 from by omega] at h2
  exact ⟨h.nth hi.1, h1, h2⟩
set_option maxRecDepth 100000 in
set_option maxHeartbeats 1000000 in
theorem arbn_enter_p0 (B p N : Nat) (S : TS) (q0 q1 rt : Reg) (side me : Int) (b c k : Nat) (rs : List Reg) (w : World) (h : Plays B w p S) (hl : RegsAt [2, 3, 4] w p b rs) (hi : rs[k]? = some q0 ∧ rs[k + 1]? = some q1 ∧ rs[k + 2]? = some rt) (hq0 : q0.ok) (hq1 : q1.ok) (hrt : rt.ok)
    (hm0 : 0 ≤ me) (hm1 : me < q0.n) (hm2 : me < q1.n) (hm3 : me < rt.n) (ht1 : q1.told me) (hN : S.left < N) (hs : bitM side = 0) :
    Calls Tryz.prog 236 #[.pointer (some ⟨p, 0, none⟩), .slice (some ⟨b, k * 7, none⟩) 3 c, .int .i64 side, .int .i64 me] w (Post encU B p w ((arbEnter N q0 q1 rt 0 me).run S)) := by
  generalize hR : Post encU B p w ((arbEnter N q0 q1 rt 0 me).run S) = R
  have hO : Owes R encU B p w ((arbEnter N q0 q1 rt 0 me).run S) := hR ▸ owes _ _ _ _ _
  clear hR
  replace hi := Lib.hid hi
  have hP := h
  clear h
  unfold arbEnter at hO
  have hb := abit_p side
  rw [hs] at hb
  clear hs
  have hS : ∀ w', RegsAt [2, 3, 4] w' p b rs → ((w'.cell? ⟨b, k * 7, none⟩ = some (.int .i64 q0.kind) ∧ w'.cell? ⟨b, k * 7 + 1, none⟩ = some (.int .i64 q0.base) ∧ w'.cell? ⟨b, k * 7 + 2, none⟩ = some (.int .i64 q0.loc) ∧ w'.cell? ⟨b, k * 7 + 3, none⟩ = some (.int .i64 q0.n) ∧ w'.cell? ⟨b, k * 7 + 4, none⟩ = some (.int .i64 q0.wr) ∧ w'.cell? ⟨b, k * 7 + 5, none⟩ = some (.int .i64 q0.rd) ∧ w'.cell? ⟨b, k * 7 + 6, none⟩ = some (.int .i64 q0.top)) ∧ (w'.cell? ⟨b, k * 7 + 7, none⟩ = some (.int .i64 q1.kind) ∧ w'.cell? ⟨b, k * 7 + 7 + 1, none⟩ = some (.int .i64 q1.base) ∧ w'.cell? ⟨b, k * 7 + 7 + 2, none⟩ = some (.int .i64 q1.loc) ∧ w'.cell? ⟨b, k * 7 + 7 + 3, none⟩ = some (.int .i64 q1.n) ∧ w'.cell? ⟨b, k * 7 + 7 + 4, none⟩ = some (.int .i64 q1.wr) ∧ w'.cell? ⟨b, k * 7 + 7 + 5, none⟩ = some (.int .i64 q1.rd) ∧ w'.cell? ⟨b, k * 7 + 7 + 6, none⟩ = some (.int .i64 q1.top)) ∧ (w'.cell? ⟨b, k * 7 + 14, none⟩ = some (.int .i64 rt.kind) ∧ w'.cell? ⟨b, k * 7 + 14 + 1, none⟩ = some (.int .i64 rt.base) ∧ w'.cell? ⟨b, k * 7 + 14 + 2, none⟩ = some (.int .i64 rt.loc) ∧ w'.cell? ⟨b, k * 7 + 14 + 3, none⟩ = some (.int .i64 rt.n) ∧ w'.cell? ⟨b, k * 7 + 14 + 4, none⟩ = some (.int .i64 rt.wr) ∧ w'.cell? ⟨b, k * 7 + 14 + 5, none⟩ = some (.int .i64 rt.rd) ∧ w'.cell? ⟨b, k * 7 + 14 + 6, none⟩ = some (.int .i64 rt.top))) := fun w' y => by
    obtain ⟨⟨a0, a1, a2, a3, a4, a5, a6⟩, ⟨e0, e1, e2, e3, e4, e5, e6⟩, ⟨f0, f1, f2, f3, f4, f5, f6⟩⟩ := y.node3 hi.out
    exact ⟨⟨a0, a1, a2, a3, a4, a5, a6⟩, ⟨e0, e1, e2, e3, e4, e5, e6⟩, ⟨f0, f1, f2, f3, f4, f5, f6⟩⟩
  go_enter Tryz.func236, Tryz.ntmps236
  go_wp2_with fail
  have hOh := Lib.hid hO
  have hbh := Lib.hid hb
  clear hO hb
  go_upto_region 1 with fail
  go_cut [8, 9] (fun s8 s9 wx => ∃ (x y : Nat), s8 = .pointer (some ⟨x, 0, none⟩) ∧ s9 = .pointer (some ⟨y, 0, none⟩) ∧ HeldP wx p x (.cells #[.int .i64 q0.kind, .int .i64 q0.base, .int .i64 q0.loc, .int .i64 q0.n, .int .i64 q0.wr, .int .i64 q0.rd, .int .i64 q0.top, .int .i64 q1.kind, .int .i64 q1.base, .int .i64 q1.loc, .int .i64 q1.n, .int .i64 q1.wr, .int .i64 q1.rd, .int .i64 q1.top] 211) ∧ HeldP wx p y (.cells #[.int .i64 rt.kind, .int .i64 rt.base, .int .i64 rt.loc, .int .i64 rt.n, .int .i64 rt.wr, .int .i64 rt.rd, .int .i64 rt.top] 67) ∧ Plays B wx p S ∧ KeepP B p w wx ∧ RegsAt [2, 3, 4] wx p b rs)
  case first =>
    have hl2 := hl.extL (Ext.refl w).drew hP.lt
    obtain ⟨⟨a0, a1, a2, a3, a4, a5, a6⟩, ⟨e0, e1, e2, e3, e4, e5, e6⟩, ⟨f0, f1, f2, f3, f4, f5, f6⟩⟩ := hl.node3 hi.out
    go_region_held2 (fun w' => ((w'.cell? ⟨b, k * 7, none⟩ = some (.int .i64 q0.kind) ∧ w'.cell? ⟨b, k * 7 + 1, none⟩ = some (.int .i64 q0.base) ∧ w'.cell? ⟨b, k * 7 + 2, none⟩ = some (.int .i64 q0.loc) ∧ w'.cell? ⟨b, k * 7 + 3, none⟩ = some (.int .i64 q0.n) ∧ w'.cell? ⟨b, k * 7 + 4, none⟩ = some (.int .i64 q0.wr) ∧ w'.cell? ⟨b, k * 7 + 5, none⟩ = some (.int .i64 q0.rd) ∧ w'.cell? ⟨b, k * 7 + 6, none⟩ = some (.int .i64 q0.top)) ∧ (w'.cell? ⟨b, k * 7 + 7, none⟩ = some (.int .i64 q1.kind) ∧ w'.cell? ⟨b, k * 7 + 7 + 1, none⟩ = some (.int .i64 q1.base) ∧ w'.cell? ⟨b, k * 7 + 7 + 2, none⟩ = some (.int .i64 q1.loc) ∧ w'.cell? ⟨b, k * 7 + 7 + 3, none⟩ = some (.int .i64 q1.n) ∧ w'.cell? ⟨b, k * 7 + 7 + 4, none⟩ = some (.int .i64 q1.wr) ∧ w'.cell? ⟨b, k * 7 + 7 + 5, none⟩ = some (.int .i64 q1.rd) ∧ w'.cell? ⟨b, k * 7 + 7 + 6, none⟩ = some (.int .i64 q1.top)) ∧ (w'.cell? ⟨b, k * 7 + 14, none⟩ = some (.int .i64 rt.kind) ∧ w'.cell? ⟨b, k * 7 + 14 + 1, none⟩ = some (.int .i64 rt.base) ∧ w'.cell? ⟨b, k * 7 + 14 + 2, none⟩ = some (.int .i64 rt.loc) ∧ w'.cell? ⟨b, k * 7 + 14 + 3, none⟩ = some (.int .i64 rt.n) ∧ w'.cell? ⟨b, k * 7 + 14 + 4, none⟩ = some (.int .i64 rt.wr) ∧ w'.cell? ⟨b, k * 7 + 14 + 5, none⟩ = some (.int .i64 rt.rd) ∧ w'.cell? ⟨b, k * 7 + 14 + 6, none⟩ = some (.int .i64 rt.top)))) (first | with_reducible exact hS _ hl2 | go_keep) (fail)
    · rename_i hh
      clear hh
      obtain ⟨b1, b2, hP2, hK2, hl3⟩ := two_held hP hl (.cells #[.int .i64 q0.kind, .int .i64 q0.base, .int .i64 q0.loc, .int .i64 q0.n, .int .i64 q0.wr, .int .i64 q0.rd, .int .i64 q0.top, .int .i64 q1.kind, .int .i64 q1.base, .int .i64 q1.loc, .int .i64 q1.n, .int .i64 q1.wr, .int .i64 q1.rd, .int .i64 q1.top] 211) (.cells #[.int .i64 rt.kind, .int .i64 rt.base, .int .i64 rt.loc, .int .i64 rt.n, .int .i64 rt.wr, .int .i64 rt.rd, .int .i64 rt.top] 67)
      clear hS hl2 hl hP a0 a1 a2 a3 a4 a5 a6 e0 e1 e2 e3 e4 e5 e6 f0 f1 f2 f3 f4 f5 f6
      go_wp2_with fail
      go_meet
      exact ⟨_, _, rfl, rfl, b1, b2, hP2, hK2, hl3⟩
    · rename_i hh
      clear hh
      obtain ⟨b2, b1, hP2, hK2, hl3⟩ := two_held hP hl (.cells #[.int .i64 rt.kind, .int .i64 rt.base, .int .i64 rt.loc, .int .i64 rt.n, .int .i64 rt.wr, .int .i64 rt.rd, .int .i64 rt.top] 67) (.cells #[.int .i64 q0.kind, .int .i64 q0.base, .int .i64 q0.loc, .int .i64 q0.n, .int .i64 q0.wr, .int .i64 q0.rd, .int .i64 q0.top, .int .i64 q1.kind, .int .i64 q1.base, .int .i64 q1.loc, .int .i64 q1.n, .int .i64 q1.wr, .int .i64 q1.rd, .int .i64 q1.top] 211)
      clear hS hl2 hl hP a0 a1 a2 a3 a4 a5 a6 e0 e1 e2 e3 e4 e5 e6 f0 f1 f2 f3 f4 f5 f6
      go_wp2_with fail
      go_meet
      exact ⟨_, _, rfl, rfl, b1, b2, hP2, hK2, hl3⟩
  case rest =>
    clear hS hl hP
    obtain ⟨x, y, rfl, rfl, bx, bt, hP, hK, -⟩ := hcut
    go_wp2_with fail
    refine (hbh.out _).mono ?_
    rintro e w' ⟨rfl, rfl⟩
    have c_bx := bx.cells
    clear hbh
    have hPo := hP
    have bn := hP.held (.cells #[.int .i64 q1.kind, .int .i64 q1.base, .int .i64 q1.loc, .int .i64 q1.n, .int .i64 q1.wr, .int .i64 q1.rd, .int .i64 q1.top] 67)
    have hKn := hK.trans (Keep.alloc (.cells #[.int .i64 q1.kind, .int .i64 q1.base, .int .i64 q1.loc, .int .i64 q1.n, .int .i64 q1.wr, .int .i64 q1.rd, .int .i64 q1.top] 67) hP.lt hP.le)
    have hPn := hP.alloc (.cells #[.int .i64 q1.kind, .int .i64 q1.base, .int .i64 q1.loc, .int .i64 q1.n, .int .i64 q1.wr, .int .i64 q1.rd, .int .i64 q1.top] 67)
    have bxn := bx.alloc (.cells #[.int .i64 q1.kind, .int .i64 q1.base, .int .i64 q1.loc, .int .i64 q1.n, .int .i64 q1.wr, .int .i64 q1.rd, .int .i64 q1.top] 67) hP.lt
    have btn := bt.alloc (.cells #[.int .i64 q1.kind, .int .i64 q1.base, .int .i64 q1.loc, .int .i64 q1.n, .int .i64 q1.wr, .int .i64 q1.rd, .int .i64 q1.top] 67) hP.lt
    clear hP hK bx bt hPo
    have c_bxn := bxn.cells
    go_wp2_with fail
    clear c_bx c_bxn
    generalize hzn : wc.heap.size = z at *
    generalize wc.alloc _ = W at *
    clear hzn
    have hP := hPn
    have hK := hKn
    have bx := bxn
    have bt := btn
    clear hPn hKn bxn btn
    replace hO := hOh.out
    clear hOh
    refine tstepL hO hK (reg_write_p B p S q0 me 1 _ hP hq0 ⟨hm0, by omega⟩) (fun _ h => ⟨rfl, h⟩) ?_
    clear hO hK hP
    intro u S2 w2 hlf _ hP hk hK hO
    replace hN := Nat.lt_of_le_of_lt hlf hN
    replace bn := bn.keep hk
    replace bt := bt.keep hk
    have c_bt := bt.cells
    have hOh := Lib.hid hO
    clear hk hlf bx hO
    go_wp2_with fail
    replace hO := hOh.out
    clear hOh c_bt
    refine tstepL hO hK (reg_write_p B p S2 rt me 0 _ hP hrt ⟨hm0, hm3⟩) (fun _ h => ⟨rfl, h⟩) ?_
    clear hO hK hP
    intro u S3 w3 hlf _ hP hk hK hO
    replace hN := Nat.lt_of_le_of_lt hlf hN
    replace bn := bn.keep hk
    replace bt := bt.keep hk
    have hOh := Lib.hid hO
    clear hk hlf hO
    go_wp2_with fail
    go_loopw [] (fun wr => ∃ (n : Nat) (S4 : TS), Plays B wr p S4 ∧ KeepP B p w wr ∧ HeldP wr p z (.cells #[.int .i64 q1.kind, .int .i64 q1.base, .int .i64 q1.loc, .int .i64 q1.n, .int .i64 q1.wr, .int .i64 q1.rd, .int .i64 q1.top] 67) ∧ HeldP wr p y (.cells #[.int .i64 rt.kind, .int .i64 rt.base, .int .i64 rt.loc, .int .i64 rt.n, .int .i64 rt.wr, .int .i64 rt.rd, .int .i64 rt.top] 67) ∧ Hid (Owes R encU B p w ((arbSpin q1 rt 0 me n).run S4)) ∧ S4.left < n) (fun wr => leftW 1 3 wr p)
    case atStart => exact ⟨N, S3, hP, hK, bn, bt, hOh, hN⟩
    case round =>
      clear hP hK bn bt hOh hN
      obtain ⟨n, S4, hP, hK, bn, bt, hO, hN⟩ := hrel
      replace hO := hO.out
      have hlw := Lib.hid hP.left
      cases n with
      | zero => omega
      | succ n =>
        rw [arbSpin_succ] at hO
        have c_bn := bn.cells
        have hOh := Lib.hid hO
        clear hO
        go_wp2_with fail
        replace hO := hOh.out
        clear hOh c_bn
        refine tstepL hO hK (reg_read_p B p S4 q1 me _ hP hq1 ⟨hm0, by omega⟩) (fun _ h => ⟨rfl, h⟩) ?_
        clear hO hK hP
        intro v S5 w4 _ hlf hP hk hK hO
        replace hlf := hlf (asks_regR _ _ ht1)
        replace bn := bn.keep hk
        replace bt := bt.keep hk
        clear hk
        by_cases hv : v = 0
        · rw [if_pos hv] at hO
          subst hv
          have hf : R (.returned (encU ())) w4 := hO.done hP hK
          clear hO hP hK bn bt
          go_wp2_with fail
          first | exact hf | (refine bodyPost_ret (results_none rfl _ _ _) rfl ?_; exact hf)
        · rw [if_neg hv] at hO
          have hv2 : (v == 0) = false := by rw [beq_eq_false_iff_ne]; exact hv
          have c_bt := bt.cells
          have hOh := Lib.hid hO
          clear hv hO
          go_wp2_with fail
          replace hO := hOh.out
          clear hOh c_bt
          refine tstepL hO hK (reg_read_p B p S5 rt me _ hP hrt ⟨hm0, hm3⟩) (fun _ h => ⟨rfl, h⟩) ?_
          clear hO hK hP
          intro y0 S6 w5 hlf2 _ hP hk hK hO
          replace bn := bn.keep hk
          replace bt := bt.keep hk
          clear hk
          by_cases hy : y0 = 0
          · rw [if_pos hy] at hO
            have hy2 : (y0 != 0) = false := by simpa using hy
            have c_bn := bn.cells
            have hOh := Lib.hid hO
            clear hy hO
            go_wp2_with fail
            refine (cells_pm q1 me _ hq1 ht1 ⟨hm0, by omega⟩).mono ?_
            rintro e w6 ⟨cc, rfl, hcc, hx⟩
            replace bn := bn.ext hx hP.lt
            replace bt := bt.ext hx hP.lt
            replace hK := hK.trans (Keep.of_ext hx hP.lt hP.le)
            replace hP := hP.ext hx
            clear hx c_bn
            have hlw2 := Lib.hid hP.left
            go_wp2_with fail
            refine ⟨⟨n, S6, hP, hK, bn, bt, hOh, by omega⟩, ?_⟩
            rw [hlw.out, hlw2.out]
            omega
          · rw [if_neg hy] at hO
            have hy2 : (y0 != 0) = true := by simpa using hy
            have hf : R (.returned (encU ())) w5 := hO.done hP hK
            clear hO hP hK bn bt hy
            go_wp2_with fail
            first | exact hf | (refine bodyPost_ret (results_none rfl _ _ _) rfl ?_; exact hf)
set_option maxRecDepth 100000 in
set_option maxHeartbeats 1000000 in
theorem arbn_enter_p1 (B p N : Nat) (S : TS) (q0 q1 rt : Reg) (side me : Int) (b c k : Nat) (rs : List Reg) (w : World) (h : Plays B w p S) (hl : RegsAt [2, 3, 4] w p b rs) (hi : rs[k]? = some q0 ∧ rs[k + 1]? = some q1 ∧ rs[k + 2]? = some rt) (hq0 : q0.ok) (hq1 : q1.ok) (hrt : rt.ok)
    (hm0 : 0 ≤ me) (hm1 : me < q0.n) (hm2 : me < q1.n) (hm3 : me < rt.n) (ht1 : q0.told me) (hN : S.left < N) (hs : bitM side = 1) :
    Calls Tryz.prog 236 #[.pointer (some ⟨p, 0, none⟩), .slice (some ⟨b, k * 7, none⟩) 3 c, .int .i64 side, .int .i64 me] w (Post encU B p w ((arbEnter N q1 q0 rt 1 me).run S)) := by
  generalize hR : Post encU B p w ((arbEnter N q1 q0 rt 1 me).run S) = R
  have hO : Owes R encU B p w ((arbEnter N q1 q0 rt 1 me).run S) := hR ▸ owes _ _ _ _ _
  clear hR
  replace hi := Lib.hid hi
  have hP := h
  clear h
  unfold arbEnter at hO
  have hb := abit_p side
  rw [hs] at hb
  clear hs
  have hS : ∀ w', RegsAt [2, 3, 4] w' p b rs → ((w'.cell? ⟨b, k * 7, none⟩ = some (.int .i64 q0.kind) ∧ w'.cell? ⟨b, k * 7 + 1, none⟩ = some (.int .i64 q0.base) ∧ w'.cell? ⟨b, k * 7 + 2, none⟩ = some (.int .i64 q0.loc) ∧ w'.cell? ⟨b, k * 7 + 3, none⟩ = some (.int .i64 q0.n) ∧ w'.cell? ⟨b, k * 7 + 4, none⟩ = some (.int .i64 q0.wr) ∧ w'.cell? ⟨b, k * 7 + 5, none⟩ = some (.int .i64 q0.rd) ∧ w'.cell? ⟨b, k * 7 + 6, none⟩ = some (.int .i64 q0.top)) ∧ (w'.cell? ⟨b, k * 7 + 7, none⟩ = some (.int .i64 q1.kind) ∧ w'.cell? ⟨b, k * 7 + 7 + 1, none⟩ = some (.int .i64 q1.base) ∧ w'.cell? ⟨b, k * 7 + 7 + 2, none⟩ = some (.int .i64 q1.loc) ∧ w'.cell? ⟨b, k * 7 + 7 + 3, none⟩ = some (.int .i64 q1.n) ∧ w'.cell? ⟨b, k * 7 + 7 + 4, none⟩ = some (.int .i64 q1.wr) ∧ w'.cell? ⟨b, k * 7 + 7 + 5, none⟩ = some (.int .i64 q1.rd) ∧ w'.cell? ⟨b, k * 7 + 7 + 6, none⟩ = some (.int .i64 q1.top)) ∧ (w'.cell? ⟨b, k * 7 + 14, none⟩ = some (.int .i64 rt.kind) ∧ w'.cell? ⟨b, k * 7 + 14 + 1, none⟩ = some (.int .i64 rt.base) ∧ w'.cell? ⟨b, k * 7 + 14 + 2, none⟩ = some (.int .i64 rt.loc) ∧ w'.cell? ⟨b, k * 7 + 14 + 3, none⟩ = some (.int .i64 rt.n) ∧ w'.cell? ⟨b, k * 7 + 14 + 4, none⟩ = some (.int .i64 rt.wr) ∧ w'.cell? ⟨b, k * 7 + 14 + 5, none⟩ = some (.int .i64 rt.rd) ∧ w'.cell? ⟨b, k * 7 + 14 + 6, none⟩ = some (.int .i64 rt.top))) := fun w' y => by
    obtain ⟨⟨a0, a1, a2, a3, a4, a5, a6⟩, ⟨e0, e1, e2, e3, e4, e5, e6⟩, ⟨f0, f1, f2, f3, f4, f5, f6⟩⟩ := y.node3 hi.out
    exact ⟨⟨a0, a1, a2, a3, a4, a5, a6⟩, ⟨e0, e1, e2, e3, e4, e5, e6⟩, ⟨f0, f1, f2, f3, f4, f5, f6⟩⟩
  go_enter Tryz.func236, Tryz.ntmps236
  go_wp2_with fail
  have hOh := Lib.hid hO
  have hbh := Lib.hid hb
  clear hO hb
  go_upto_region 1 with fail
  go_cut [8, 9] (fun s8 s9 wx => ∃ (x y : Nat), s8 = .pointer (some ⟨x, 0, none⟩) ∧ s9 = .pointer (some ⟨y, 0, none⟩) ∧ HeldP wx p x (.cells #[.int .i64 q0.kind, .int .i64 q0.base, .int .i64 q0.loc, .int .i64 q0.n, .int .i64 q0.wr, .int .i64 q0.rd, .int .i64 q0.top, .int .i64 q1.kind, .int .i64 q1.base, .int .i64 q1.loc, .int .i64 q1.n, .int .i64 q1.wr, .int .i64 q1.rd, .int .i64 q1.top] 211) ∧ HeldP wx p y (.cells #[.int .i64 rt.kind, .int .i64 rt.base, .int .i64 rt.loc, .int .i64 rt.n, .int .i64 rt.wr, .int .i64 rt.rd, .int .i64 rt.top] 67) ∧ Plays B wx p S ∧ KeepP B p w wx ∧ RegsAt [2, 3, 4] wx p b rs)
  case first =>
    have hl2 := hl.extL (Ext.refl w).drew hP.lt
    obtain ⟨⟨a0, a1, a2, a3, a4, a5, a6⟩, ⟨e0, e1, e2, e3, e4, e5, e6⟩, ⟨f0, f1, f2, f3, f4, f5, f6⟩⟩ := hl.node3 hi.out
    go_region_held2 (fun w' => ((w'.cell? ⟨b, k * 7, none⟩ = some (.int .i64 q0.kind) ∧ w'.cell? ⟨b, k * 7 + 1, none⟩ = some (.int .i64 q0.base) ∧ w'.cell? ⟨b, k * 7 + 2, none⟩ = some (.int .i64 q0.loc) ∧ w'.cell? ⟨b, k * 7 + 3, none⟩ = some (.int .i64 q0.n) ∧ w'.cell? ⟨b, k * 7 + 4, none⟩ = some (.int .i64 q0.wr) ∧ w'.cell? ⟨b, k * 7 + 5, none⟩ = some (.int .i64 q0.rd) ∧ w'.cell? ⟨b, k * 7 + 6, none⟩ = some (.int .i64 q0.top)) ∧ (w'.cell? ⟨b, k * 7 + 7, none⟩ = some (.int .i64 q1.kind) ∧ w'.cell? ⟨b, k * 7 + 7 + 1, none⟩ = some (.int .i64 q1.base) ∧ w'.cell? ⟨b, k * 7 + 7 + 2, none⟩ = some (.int .i64 q1.loc) ∧ w'.cell? ⟨b, k * 7 + 7 + 3, none⟩ = some (.int .i64 q1.n) ∧ w'.cell? ⟨b, k * 7 + 7 + 4, none⟩ = some (.int .i64 q1.wr) ∧ w'.cell? ⟨b, k * 7 + 7 + 5, none⟩ = some (.int .i64 q1.rd) ∧ w'.cell? ⟨b, k * 7 + 7 + 6, none⟩ = some (.int .i64 q1.top)) ∧ (w'.cell? ⟨b, k * 7 + 14, none⟩ = some (.int .i64 rt.kind) ∧ w'.cell? ⟨b, k * 7 + 14 + 1, none⟩ = some (.int .i64 rt.base) ∧ w'.cell? ⟨b, k * 7 + 14 + 2, none⟩ = some (.int .i64 rt.loc) ∧ w'.cell? ⟨b, k * 7 + 14 + 3, none⟩ = some (.int .i64 rt.n) ∧ w'.cell? ⟨b, k * 7 + 14 + 4, none⟩ = some (.int .i64 rt.wr) ∧ w'.cell? ⟨b, k * 7 + 14 + 5, none⟩ = some (.int .i64 rt.rd) ∧ w'.cell? ⟨b, k * 7 + 14 + 6, none⟩ = some (.int .i64 rt.top)))) (first | with_reducible exact hS _ hl2 | go_keep) (fail)
    · rename_i hh
      clear hh
      obtain ⟨b1, b2, hP2, hK2, hl3⟩ := two_held hP hl (.cells #[.int .i64 q0.kind, .int .i64 q0.base, .int .i64 q0.loc, .int .i64 q0.n, .int .i64 q0.wr, .int .i64 q0.rd, .int .i64 q0.top, .int .i64 q1.kind, .int .i64 q1.base, .int .i64 q1.loc, .int .i64 q1.n, .int .i64 q1.wr, .int .i64 q1.rd, .int .i64 q1.top] 211) (.cells #[.int .i64 rt.kind, .int .i64 rt.base, .int .i64 rt.loc, .int .i64 rt.n, .int .i64 rt.wr, .int .i64 rt.rd, .int .i64 rt.top] 67)
      clear hS hl2 hl hP a0 a1 a2 a3 a4 a5 a6 e0 e1 e2 e3 e4 e5 e6 f0 f1 f2 f3 f4 f5 f6
      go_wp2_with fail
      go_meet
      exact ⟨_, _, rfl, rfl, b1, b2, hP2, hK2, hl3⟩
    · rename_i hh
      clear hh
      obtain ⟨b2, b1, hP2, hK2, hl3⟩ := two_held hP hl (.cells #[.int .i64 rt.kind, .int .i64 rt.base, .int .i64 rt.loc, .int .i64 rt.n, .int .i64 rt.wr, .int .i64 rt.rd, .int .i64 rt.top] 67) (.cells #[.int .i64 q0.kind, .int .i64 q0.base, .int .i64 q0.loc, .int .i64 q0.n, .int .i64 q0.wr, .int .i64 q0.rd, .int .i64 q0.top, .int .i64 q1.kind, .int .i64 q1.base, .int .i64 q1.loc, .int .i64 q1.n, .int .i64 q1.wr, .int .i64 q1.rd, .int .i64 q1.top] 211)
      clear hS hl2 hl hP a0 a1 a2 a3 a4 a5 a6 e0 e1 e2 e3 e4 e5 e6 f0 f1 f2 f3 f4 f5 f6
      go_wp2_with fail
      go_meet
      exact ⟨_, _, rfl, rfl, b1, b2, hP2, hK2, hl3⟩
  case rest =>
    clear hS hl hP
    obtain ⟨x, y, rfl, rfl, bx, bt, hP, hK, -⟩ := hcut
    go_wp2_with fail
    refine (hbh.out _).mono ?_
    rintro e w' ⟨rfl, rfl⟩
    have c_bx := bx.cells
    clear hbh
    have hPo := hP
    have bn := hP.held (.cells #[.int .i64 q0.kind, .int .i64 q0.base, .int .i64 q0.loc, .int .i64 q0.n, .int .i64 q0.wr, .int .i64 q0.rd, .int .i64 q0.top] 67)
    have hKn := hK.trans (Keep.alloc (.cells #[.int .i64 q0.kind, .int .i64 q0.base, .int .i64 q0.loc, .int .i64 q0.n, .int .i64 q0.wr, .int .i64 q0.rd, .int .i64 q0.top] 67) hP.lt hP.le)
    have hPn := hP.alloc (.cells #[.int .i64 q0.kind, .int .i64 q0.base, .int .i64 q0.loc, .int .i64 q0.n, .int .i64 q0.wr, .int .i64 q0.rd, .int .i64 q0.top] 67)
    have bxn := bx.alloc (.cells #[.int .i64 q0.kind, .int .i64 q0.base, .int .i64 q0.loc, .int .i64 q0.n, .int .i64 q0.wr, .int .i64 q0.rd, .int .i64 q0.top] 67) hP.lt
    have btn := bt.alloc (.cells #[.int .i64 q0.kind, .int .i64 q0.base, .int .i64 q0.loc, .int .i64 q0.n, .int .i64 q0.wr, .int .i64 q0.rd, .int .i64 q0.top] 67) hP.lt
    clear hP hK bx bt hPo
    have c_bxn := bxn.cells
    go_wp2_with fail
    clear c_bx c_bxn
    generalize hzn : wc.heap.size = z at *
    generalize wc.alloc _ = W at *
    clear hzn
    have hP := hPn
    have hK := hKn
    have bx := bxn
    have bt := btn
    clear hPn hKn bxn btn
    replace hO := hOh.out
    clear hOh
    refine tstepL hO hK (reg_write_p B p S q1 me 1 _ hP hq1 ⟨hm0, by omega⟩) (fun _ h => ⟨rfl, h⟩) ?_
    clear hO hK hP
    intro u S2 w2 hlf _ hP hk hK hO
    replace hN := Nat.lt_of_le_of_lt hlf hN
    replace bn := bn.keep hk
    replace bt := bt.keep hk
    have c_bt := bt.cells
    have hOh := Lib.hid hO
    clear hk hlf bx hO
    go_wp2_with fail
    replace hO := hOh.out
    clear hOh c_bt
    refine tstepL hO hK (reg_write_p B p S2 rt me 1 _ hP hrt ⟨hm0, hm3⟩) (fun _ h => ⟨rfl, h⟩) ?_
    clear hO hK hP
    intro u S3 w3 hlf _ hP hk hK hO
    replace hN := Nat.lt_of_le_of_lt hlf hN
    replace bn := bn.keep hk
    replace bt := bt.keep hk
    have hOh := Lib.hid hO
    clear hk hlf hO
    go_wp2_with fail
    go_loopw [] (fun wr => ∃ (n : Nat) (S4 : TS), Plays B wr p S4 ∧ KeepP B p w wr ∧ HeldP wr p z (.cells #[.int .i64 q0.kind, .int .i64 q0.base, .int .i64 q0.loc, .int .i64 q0.n, .int .i64 q0.wr, .int .i64 q0.rd, .int .i64 q0.top] 67) ∧ HeldP wr p y (.cells #[.int .i64 rt.kind, .int .i64 rt.base, .int .i64 rt.loc, .int .i64 rt.n, .int .i64 rt.wr, .int .i64 rt.rd, .int .i64 rt.top] 67) ∧ Hid (Owes R encU B p w ((arbSpin q0 rt 1 me n).run S4)) ∧ S4.left < n) (fun wr => leftW 1 3 wr p)
    case atStart => exact ⟨N, S3, hP, hK, bn, bt, hOh, hN⟩
    case round =>
      clear hP hK bn bt hOh hN
      obtain ⟨n, S4, hP, hK, bn, bt, hO, hN⟩ := hrel
      replace hO := hO.out
      have hlw := Lib.hid hP.left
      cases n with
      | zero => omega
      | succ n =>
        rw [arbSpin_succ] at hO
        have c_bn := bn.cells
        have hOh := Lib.hid hO
        clear hO
        go_wp2_with fail
        replace hO := hOh.out
        clear hOh c_bn
        refine tstepL hO hK (reg_read_p B p S4 q0 me _ hP hq0 ⟨hm0, by omega⟩) (fun _ h => ⟨rfl, h⟩) ?_
        clear hO hK hP
        intro v S5 w4 _ hlf hP hk hK hO
        replace hlf := hlf (asks_regR _ _ ht1)
        replace bn := bn.keep hk
        replace bt := bt.keep hk
        clear hk
        by_cases hv : v = 0
        · rw [if_pos hv] at hO
          subst hv
          have hf : R (.returned (encU ())) w4 := hO.done hP hK
          clear hO hP hK bn bt
          go_wp2_with fail
          first | exact hf | (refine bodyPost_ret (results_none rfl _ _ _) rfl ?_; exact hf)
        · rw [if_neg hv] at hO
          have hv2 : (v == 0) = false := by rw [beq_eq_false_iff_ne]; exact hv
          have c_bt := bt.cells
          have hOh := Lib.hid hO
          clear hv hO
          go_wp2_with fail
          replace hO := hOh.out
          clear hOh c_bt
          refine tstepL hO hK (reg_read_p B p S5 rt me _ hP hrt ⟨hm0, hm3⟩) (fun _ h => ⟨rfl, h⟩) ?_
          clear hO hK hP
          intro y0 S6 w5 hlf2 _ hP hk hK hO
          replace bn := bn.keep hk
          replace bt := bt.keep hk
          clear hk
          by_cases hy : y0 = 1
          · rw [if_pos hy] at hO
            have hy2 : (y0 != 1) = false := by simpa using hy
            have c_bn := bn.cells
            have hOh := Lib.hid hO
            clear hy hO
            go_wp2_with fail
            refine (cells_pm q0 me _ hq0 ht1 ⟨hm0, by omega⟩).mono ?_
            rintro e w6 ⟨cc, rfl, hcc, hx⟩
            replace bn := bn.ext hx hP.lt
            replace bt := bt.ext hx hP.lt
            replace hK := hK.trans (Keep.of_ext hx hP.lt hP.le)
            replace hP := hP.ext hx
            clear hx c_bn
            have hlw2 := Lib.hid hP.left
            go_wp2_with fail
            refine ⟨⟨n, S6, hP, hK, bn, bt, hOh, by omega⟩, ?_⟩
            rw [hlw.out, hlw2.out]
            omega
          · rw [if_neg hy] at hO
            have hy2 : (y0 != 1) = true := by simpa using hy
            have hf : R (.returned (encU ())) w5 := hO.done hP hK
            clear hO hP hK bn bt hy
            go_wp2_with fail
            first | exact hf | (refine bodyPost_ret (results_none rfl _ _ _) rfl ?_; exact hf)
set_option maxRecDepth 100000 in
theorem arbn_leave_p0 (B p : Nat) (S : TS) (q0 q1 rt : Reg) (side me : Int) (b c k : Nat) (rs : List Reg) (w : World) (h : Plays B w p S) (hl : RegsAt [2, 3, 4] w p b rs) (hi : rs[k]? = some q0 ∧ rs[k + 1]? = some q1 ∧ rs[k + 2]? = some rt) (hq : q0.ok)
    (hm0 : 0 ≤ me) (hm1 : me < q0.n) (hs : bitM side = 0) :
    Calls Tryz.prog 237 #[.pointer (some ⟨p, 0, none⟩), .slice (some ⟨b, k * 7, none⟩) 3 c, .int .i64 side, .int .i64 me] w (Post encU B p w ((regW q0 me 0).run S)) := by
  generalize hR : Post encU B p w ((regW q0 me 0).run S) = R
  have hO : Owes R encU B p w ((regW q0 me 0).run S) := hR ▸ owes _ _ _ _ _
  clear hR
  replace hi := Lib.hid hi
  have hK := Keep.refl [2, 3, 4] B p w
  have hP := h
  clear h
  have hb := abit_p side
  rw [hs] at hb
  clear hs
  have hS : ∀ w', RegsAt [2, 3, 4] w' p b rs → ((w'.cell? ⟨b, k * 7, none⟩ = some (.int .i64 q0.kind) ∧ w'.cell? ⟨b, k * 7 + 1, none⟩ = some (.int .i64 q0.base) ∧ w'.cell? ⟨b, k * 7 + 2, none⟩ = some (.int .i64 q0.loc) ∧ w'.cell? ⟨b, k * 7 + 3, none⟩ = some (.int .i64 q0.n) ∧ w'.cell? ⟨b, k * 7 + 4, none⟩ = some (.int .i64 q0.wr) ∧ w'.cell? ⟨b, k * 7 + 5, none⟩ = some (.int .i64 q0.rd) ∧ w'.cell? ⟨b, k * 7 + 6, none⟩ = some (.int .i64 q0.top)) ∧ (w'.cell? ⟨b, k * 7 + 7, none⟩ = some (.int .i64 q1.kind) ∧ w'.cell? ⟨b, k * 7 + 7 + 1, none⟩ = some (.int .i64 q1.base) ∧ w'.cell? ⟨b, k * 7 + 7 + 2, none⟩ = some (.int .i64 q1.loc) ∧ w'.cell? ⟨b, k * 7 + 7 + 3, none⟩ = some (.int .i64 q1.n) ∧ w'.cell? ⟨b, k * 7 + 7 + 4, none⟩ = some (.int .i64 q1.wr) ∧ w'.cell? ⟨b, k * 7 + 7 + 5, none⟩ = some (.int .i64 q1.rd) ∧ w'.cell? ⟨b, k * 7 + 7 + 6, none⟩ = some (.int .i64 q1.top)) ∧ (w'.cell? ⟨b, k * 7 + 14, none⟩ = some (.int .i64 rt.kind) ∧ w'.cell? ⟨b, k * 7 + 14 + 1, none⟩ = some (.int .i64 rt.base) ∧ w'.cell? ⟨b, k * 7 + 14 + 2, none⟩ = some (.int .i64 rt.loc) ∧ w'.cell? ⟨b, k * 7 + 14 + 3, none⟩ = some (.int .i64 rt.n) ∧ w'.cell? ⟨b, k * 7 + 14 + 4, none⟩ = some (.int .i64 rt.wr) ∧ w'.cell? ⟨b, k * 7 + 14 + 5, none⟩ = some (.int .i64 rt.rd) ∧ w'.cell? ⟨b, k * 7 + 14 + 6, none⟩ = some (.int .i64 rt.top))) := fun w' y => by
    obtain ⟨⟨a0, a1, a2, a3, a4, a5, a6⟩, ⟨e0, e1, e2, e3, e4, e5, e6⟩, ⟨f0, f1, f2, f3, f4, f5, f6⟩⟩ := y.node3 hi.out
    exact ⟨⟨a0, a1, a2, a3, a4, a5, a6⟩, ⟨e0, e1, e2, e3, e4, e5, e6⟩, ⟨f0, f1, f2, f3, f4, f5, f6⟩⟩
  go_enter Tryz.func237, Tryz.ntmps237
  go_wp2_with fail
  have hOh := Lib.hid hO
  have hbh := Lib.hid hb
  clear hO hb
  have hl2 := hl.extL (Ext.refl w).drew hP.lt
  obtain ⟨⟨a0, a1, a2, a3, a4, a5, a6⟩, ⟨e0, e1, e2, e3, e4, e5, e6⟩, ⟨f0, f1, f2, f3, f4, f5, f6⟩⟩ := hl.node3 hi.out
  go_region_held2 (fun w' => ((w'.cell? ⟨b, k * 7, none⟩ = some (.int .i64 q0.kind) ∧ w'.cell? ⟨b, k * 7 + 1, none⟩ = some (.int .i64 q0.base) ∧ w'.cell? ⟨b, k * 7 + 2, none⟩ = some (.int .i64 q0.loc) ∧ w'.cell? ⟨b, k * 7 + 3, none⟩ = some (.int .i64 q0.n) ∧ w'.cell? ⟨b, k * 7 + 4, none⟩ = some (.int .i64 q0.wr) ∧ w'.cell? ⟨b, k * 7 + 5, none⟩ = some (.int .i64 q0.rd) ∧ w'.cell? ⟨b, k * 7 + 6, none⟩ = some (.int .i64 q0.top)) ∧ (w'.cell? ⟨b, k * 7 + 7, none⟩ = some (.int .i64 q1.kind) ∧ w'.cell? ⟨b, k * 7 + 7 + 1, none⟩ = some (.int .i64 q1.base) ∧ w'.cell? ⟨b, k * 7 + 7 + 2, none⟩ = some (.int .i64 q1.loc) ∧ w'.cell? ⟨b, k * 7 + 7 + 3, none⟩ = some (.int .i64 q1.n) ∧ w'.cell? ⟨b, k * 7 + 7 + 4, none⟩ = some (.int .i64 q1.wr) ∧ w'.cell? ⟨b, k * 7 + 7 + 5, none⟩ = some (.int .i64 q1.rd) ∧ w'.cell? ⟨b, k * 7 + 7 + 6, none⟩ = some (.int .i64 q1.top)) ∧ (w'.cell? ⟨b, k * 7 + 14, none⟩ = some (.int .i64 rt.kind) ∧ w'.cell? ⟨b, k * 7 + 14 + 1, none⟩ = some (.int .i64 rt.base) ∧ w'.cell? ⟨b, k * 7 + 14 + 2, none⟩ = some (.int .i64 rt.loc) ∧ w'.cell? ⟨b, k * 7 + 14 + 3, none⟩ = some (.int .i64 rt.n) ∧ w'.cell? ⟨b, k * 7 + 14 + 4, none⟩ = some (.int .i64 rt.wr) ∧ w'.cell? ⟨b, k * 7 + 14 + 5, none⟩ = some (.int .i64 rt.rd) ∧ w'.cell? ⟨b, k * 7 + 14 + 6, none⟩ = some (.int .i64 rt.top)))) (first | with_reducible exact hS _ hl2 | go_keep) (fail)
  rename_i hh
  clear hh
  have bx := (hP.held (.cells #[.int .i64 q0.kind, .int .i64 q0.base, .int .i64 q0.loc, .int .i64 q0.n, .int .i64 q0.wr, .int .i64 q0.rd, .int .i64 q0.top, .int .i64 q1.kind, .int .i64 q1.base, .int .i64 q1.loc, .int .i64 q1.n, .int .i64 q1.wr, .int .i64 q1.rd, .int .i64 q1.top] 211)).drew
  replace hK := (hK.trans (Keep.alloc (.cells #[.int .i64 q0.kind, .int .i64 q0.base, .int .i64 q0.loc, .int .i64 q0.n, .int .i64 q0.wr, .int .i64 q0.rd, .int .i64 q0.top, .int .i64 q1.kind, .int .i64 q1.base, .int .i64 q1.loc, .int .i64 q1.n, .int .i64 q1.wr, .int .i64 q1.rd, .int .i64 q1.top] 211) hP.lt hP.le)).drew
  replace hP := (hP.alloc (.cells #[.int .i64 q0.kind, .int .i64 q0.base, .int .i64 q0.loc, .int .i64 q0.n, .int .i64 q0.wr, .int .i64 q0.rd, .int .i64 q0.top, .int .i64 q1.kind, .int .i64 q1.base, .int .i64 q1.loc, .int .i64 q1.n, .int .i64 q1.wr, .int .i64 q1.rd, .int .i64 q1.top] 211)).drew
  clear hS hl2 hl a0 a1 a2 a3 a4 a5 a6 e0 e1 e2 e3 e4 e5 e6 f0 f1 f2 f3 f4 f5 f6
  have c_bx := bx.cells
  go_wp2_with fail
  refine (hbh.out _).mono ?_
  rintro e w' ⟨rfl, rfl⟩
  go_wp2_with fail
  replace hO := hOh.out
  clear hOh c_bx bx
  refine tlast hO hK (reg_write_p B p S q0 me 0 _ hP hq ⟨hm0, hm1⟩) (fun _ h => ⟨rfl, h⟩) ?_
  clear hO hK hP
  intro u S2 w3 hr hP hk hK hO
  have hf := hO.done hP hK
  clear hO hP hK hr hk
  go_wp2_with fail
  first | exact hf | (refine bodyPost_ret (results_none rfl _ _ _) rfl ?_; exact hf)
set_option maxRecDepth 100000 in
theorem arbn_leave_p1 (B p : Nat) (S : TS) (q0 q1 rt : Reg) (side me : Int) (b c k : Nat) (rs : List Reg) (w : World) (h : Plays B w p S) (hl : RegsAt [2, 3, 4] w p b rs) (hi : rs[k]? = some q0 ∧ rs[k + 1]? = some q1 ∧ rs[k + 2]? = some rt) (hq : q1.ok)
    (hm0 : 0 ≤ me) (hm1 : me < q1.n) (hs : bitM side = 1) :
    Calls Tryz.prog 237 #[.pointer (some ⟨p, 0, none⟩), .slice (some ⟨b, k * 7, none⟩) 3 c, .int .i64 side, .int .i64 me] w (Post encU B p w ((regW q1 me 0).run S)) := by
  generalize hR : Post encU B p w ((regW q1 me 0).run S) = R
  have hO : Owes R encU B p w ((regW q1 me 0).run S) := hR ▸ owes _ _ _ _ _
  clear hR
  replace hi := Lib.hid hi
  have hK := Keep.refl [2, 3, 4] B p w
  have hP := h
  clear h
  have hb := abit_p side
  rw [hs] at hb
  clear hs
  have hS : ∀ w', RegsAt [2, 3, 4] w' p b rs → ((w'.cell? ⟨b, k * 7, none⟩ = some (.int .i64 q0.kind) ∧ w'.cell? ⟨b, k * 7 + 1, none⟩ = some (.int .i64 q0.base) ∧ w'.cell? ⟨b, k * 7 + 2, none⟩ = some (.int .i64 q0.loc) ∧ w'.cell? ⟨b, k * 7 + 3, none⟩ = some (.int .i64 q0.n) ∧ w'.cell? ⟨b, k * 7 + 4, none⟩ = some (.int .i64 q0.wr) ∧ w'.cell? ⟨b, k * 7 + 5, none⟩ = some (.int .i64 q0.rd) ∧ w'.cell? ⟨b, k * 7 + 6, none⟩ = some (.int .i64 q0.top)) ∧ (w'.cell? ⟨b, k * 7 + 7, none⟩ = some (.int .i64 q1.kind) ∧ w'.cell? ⟨b, k * 7 + 7 + 1, none⟩ = some (.int .i64 q1.base) ∧ w'.cell? ⟨b, k * 7 + 7 + 2, none⟩ = some (.int .i64 q1.loc) ∧ w'.cell? ⟨b, k * 7 + 7 + 3, none⟩ = some (.int .i64 q1.n) ∧ w'.cell? ⟨b, k * 7 + 7 + 4, none⟩ = some (.int .i64 q1.wr) ∧ w'.cell? ⟨b, k * 7 + 7 + 5, none⟩ = some (.int .i64 q1.rd) ∧ w'.cell? ⟨b, k * 7 + 7 + 6, none⟩ = some (.int .i64 q1.top)) ∧ (w'.cell? ⟨b, k * 7 + 14, none⟩ = some (.int .i64 rt.kind) ∧ w'.cell? ⟨b, k * 7 + 14 + 1, none⟩ = some (.int .i64 rt.base) ∧ w'.cell? ⟨b, k * 7 + 14 + 2, none⟩ = some (.int .i64 rt.loc) ∧ w'.cell? ⟨b, k * 7 + 14 + 3, none⟩ = some (.int .i64 rt.n) ∧ w'.cell? ⟨b, k * 7 + 14 + 4, none⟩ = some (.int .i64 rt.wr) ∧ w'.cell? ⟨b, k * 7 + 14 + 5, none⟩ = some (.int .i64 rt.rd) ∧ w'.cell? ⟨b, k * 7 + 14 + 6, none⟩ = some (.int .i64 rt.top))) := fun w' y => by
    obtain ⟨⟨a0, a1, a2, a3, a4, a5, a6⟩, ⟨e0, e1, e2, e3, e4, e5, e6⟩, ⟨f0, f1, f2, f3, f4, f5, f6⟩⟩ := y.node3 hi.out
    exact ⟨⟨a0, a1, a2, a3, a4, a5, a6⟩, ⟨e0, e1, e2, e3, e4, e5, e6⟩, ⟨f0, f1, f2, f3, f4, f5, f6⟩⟩
  go_enter Tryz.func237, Tryz.ntmps237
  go_wp2_with fail
  have hOh := Lib.hid hO
  have hbh := Lib.hid hb
  clear hO hb
  have hl2 := hl.extL (Ext.refl w).drew hP.lt
  obtain ⟨⟨a0, a1, a2, a3, a4, a5, a6⟩, ⟨e0, e1, e2, e3, e4, e5, e6⟩, ⟨f0, f1, f2, f3, f4, f5, f6⟩⟩ := hl.node3 hi.out
  go_region_held2 (fun w' => ((w'.cell? ⟨b, k * 7, none⟩ = some (.int .i64 q0.kind) ∧ w'.cell? ⟨b, k * 7 + 1, none⟩ = some (.int .i64 q0.base) ∧ w'.cell? ⟨b, k * 7 + 2, none⟩ = some (.int .i64 q0.loc) ∧ w'.cell? ⟨b, k * 7 + 3, none⟩ = some (.int .i64 q0.n) ∧ w'.cell? ⟨b, k * 7 + 4, none⟩ = some (.int .i64 q0.wr) ∧ w'.cell? ⟨b, k * 7 + 5, none⟩ = some (.int .i64 q0.rd) ∧ w'.cell? ⟨b, k * 7 + 6, none⟩ = some (.int .i64 q0.top)) ∧ (w'.cell? ⟨b, k * 7 + 7, none⟩ = some (.int .i64 q1.kind) ∧ w'.cell? ⟨b, k * 7 + 7 + 1, none⟩ = some (.int .i64 q1.base) ∧ w'.cell? ⟨b, k * 7 + 7 + 2, none⟩ = some (.int .i64 q1.loc) ∧ w'.cell? ⟨b, k * 7 + 7 + 3, none⟩ = some (.int .i64 q1.n) ∧ w'.cell? ⟨b, k * 7 + 7 + 4, none⟩ = some (.int .i64 q1.wr) ∧ w'.cell? ⟨b, k * 7 + 7 + 5, none⟩ = some (.int .i64 q1.rd) ∧ w'.cell? ⟨b, k * 7 + 7 + 6, none⟩ = some (.int .i64 q1.top)) ∧ (w'.cell? ⟨b, k * 7 + 14, none⟩ = some (.int .i64 rt.kind) ∧ w'.cell? ⟨b, k * 7 + 14 + 1, none⟩ = some (.int .i64 rt.base) ∧ w'.cell? ⟨b, k * 7 + 14 + 2, none⟩ = some (.int .i64 rt.loc) ∧ w'.cell? ⟨b, k * 7 + 14 + 3, none⟩ = some (.int .i64 rt.n) ∧ w'.cell? ⟨b, k * 7 + 14 + 4, none⟩ = some (.int .i64 rt.wr) ∧ w'.cell? ⟨b, k * 7 + 14 + 5, none⟩ = some (.int .i64 rt.rd) ∧ w'.cell? ⟨b, k * 7 + 14 + 6, none⟩ = some (.int .i64 rt.top)))) (first | with_reducible exact hS _ hl2 | go_keep) (fail)
  rename_i hh
  clear hh
  have bx := (hP.held (.cells #[.int .i64 q0.kind, .int .i64 q0.base, .int .i64 q0.loc, .int .i64 q0.n, .int .i64 q0.wr, .int .i64 q0.rd, .int .i64 q0.top, .int .i64 q1.kind, .int .i64 q1.base, .int .i64 q1.loc, .int .i64 q1.n, .int .i64 q1.wr, .int .i64 q1.rd, .int .i64 q1.top] 211)).drew
  replace hK := (hK.trans (Keep.alloc (.cells #[.int .i64 q0.kind, .int .i64 q0.base, .int .i64 q0.loc, .int .i64 q0.n, .int .i64 q0.wr, .int .i64 q0.rd, .int .i64 q0.top, .int .i64 q1.kind, .int .i64 q1.base, .int .i64 q1.loc, .int .i64 q1.n, .int .i64 q1.wr, .int .i64 q1.rd, .int .i64 q1.top] 211) hP.lt hP.le)).drew
  replace hP := (hP.alloc (.cells #[.int .i64 q0.kind, .int .i64 q0.base, .int .i64 q0.loc, .int .i64 q0.n, .int .i64 q0.wr, .int .i64 q0.rd, .int .i64 q0.top, .int .i64 q1.kind, .int .i64 q1.base, .int .i64 q1.loc, .int .i64 q1.n, .int .i64 q1.wr, .int .i64 q1.rd, .int .i64 q1.top] 211)).drew
  clear hS hl2 hl a0 a1 a2 a3 a4 a5 a6 e0 e1 e2 e3 e4 e5 e6 f0 f1 f2 f3 f4 f5 f6
  have c_bx := bx.cells
  go_wp2_with fail
  refine (hbh.out _).mono ?_
  rintro e w' ⟨rfl, rfl⟩
  go_wp2_with fail
  replace hO := hOh.out
  clear hOh c_bx bx
  refine tlast hO hK (reg_write_p B p S q1 me 0 _ hP hq ⟨hm0, hm1⟩) (fun _ h => ⟨rfl, h⟩) ?_
  clear hO hK hP
  intro u S2 w3 hr hP hk hK hO
  have hf := hO.done hP hK
  clear hO hP hK hr hk
  go_wp2_with fail
  first | exact hf | (refine bodyPost_ret (results_none rfl _ _ _) rfl ?_; exact hf)
theorem arbn_enter_p (B p N : Nat) (S : TS) (q0 q1 rt : Reg) (side me : Int) (b c k : Nat) (rs : List Reg) (w : World) (h : Plays B w p S) (hl : RegsAt [2, 3, 4] w p b rs) (hi : rs[k]? = some q0 ∧ rs[k + 1]? = some q1 ∧ rs[k + 2]? = some rt) (hq0 : q0.ok) (hq1 : q1.ok) (hrt : rt.ok)
    (hm0 : 0 ≤ me) (hm1 : me < q0.n) (hm2 : me < q1.n) (hm3 : me < rt.n) (ht0 : q0.told me) (ht1 : q1.told me) (hN : S.left < N) :
    Calls Tryz.prog 236 #[.pointer (some ⟨p, 0, none⟩), .slice (some ⟨b, k * 7, none⟩) 3 c, .int .i64 side, .int .i64 me] w (Post encU B p w ((arbM N q0 q1 rt side me).run S)) := by
  unfold arbM
  rcases bitM_or side with hs | hs
  · rw [if_neg (by omega)]
    exact arbn_enter_p0 B p N S q0 q1 rt side me b c k rs w h hl hi hq0 hq1 hrt hm0 hm1 hm2 hm3 ht1 hN hs
  · rw [if_pos hs]
    exact arbn_enter_p1 B p N S q0 q1 rt side me b c k rs w h hl hi hq0 hq1 hrt hm0 hm1 hm2 hm3 ht0 hN hs
theorem arbn_leave_p (B p : Nat) (S : TS) (q0 q1 rt : Reg) (side me : Int) (b c k : Nat) (rs : List Reg) (w : World) (h : Plays B w p S) (hl : RegsAt [2, 3, 4] w p b rs) (hi : rs[k]? = some q0 ∧ rs[k + 1]? = some q1 ∧ rs[k + 2]? = some rt) (hq0 : q0.ok) (hq1 : q1.ok)
    (hm0 : 0 ≤ me) (hm1 : me < q0.n) (hm2 : me < q1.n) :
    Calls Tryz.prog 237 #[.pointer (some ⟨p, 0, none⟩), .slice (some ⟨b, k * 7, none⟩) 3 c, .int .i64 side, .int .i64 me] w (Post encU B p w ((kesL q0 q1 side me).run S)) := by
  unfold kesL
  rcases bitM_or side with hs | hs
  · rw [hs, if_neg (by omega)]
    exact arbn_leave_p0 B p S q0 q1 rt side me b c k rs w h hl hi hq0 hm0 hm1 hs
  · rw [hs, if_pos rfl]
    exact arbn_leave_p1 B p S q0 q1 rt side me b c k rs w h hl hi hq1 hm0 hm2 hs
end Go.Proofs.YtbaajjkopdjbgaaGreat
/-
  Kessels' lock at a node of a tree: entering and leaving, both sides.
-/
namespace Go.Proofs.YtbaajjkopdjbgaaGreat
open Go.RowKit Kv
theorem RegsAt.node4r {ix : List Nat} {p b k : Nat} {w : World} {rs : List Reg} {x y z u : Reg} (h : RegsAt ix w p b rs) (hi : rs[k]? = some x ∧ rs[k + 1]? = some y ∧ rs[k + 2]? = some z ∧ rs[k + 3]? = some u) :
    RegCells w b (k * 7) x ∧ RegCells w b (k * 7 + 7) y ∧ RegCells w b (k * 7 + 14) z ∧ RegCells w b (k * 7 + 21) u := by
  have h1 := h.nth hi.2.1
  have h2 := h.nth hi.2.2.1
  have h3 := h.nth hi.2.2.2
  rw [show (k + 1) * 7 = k * 7 + 7 from by omega] at h1
  rw [show (k + 2) * 7 = k * 7 + 14 from by omega] at h2
  rw [show (k + 3) * 7 = k * 7 + 21 from by omega] at h3
  exact ⟨h.nth hi.1, h1, h2, h3⟩
theorem RegsAt.node4 {ix : List Nat} {p b k : Nat} {w : World} {rs : List Reg} {x y z u : Reg} (h : RegsAt ix w p b rs) (hi : rs[k]? = some x ∧ rs[k + 1]? = some y ∧ rs[k + 2]? = some z ∧ rs[k + 3]? = some u) :
    RegCells w b (k * 7) x ∧ RegCells w b (k * 7 + 7) y ∧ RegCells w b (k * 7 + 14) z ∧ RegCells w b (k * 7 + 14 + 7) u := by
  obtain ⟨h0, h1, h2, h3⟩ := h.node4r hi
  rw [show k * 7 + 21 = k * 7 + 14 + 7 from by omega] at h3
  exact ⟨h0, h1, h2, h3⟩
set_option maxRecDepth 100000 in
set_option maxHeartbeats 1000000 in
theorem kesn_enter_p0 (B p N : Nat) (S : TS) (q0 q1 r0 r1 : Reg) (side me : Int) (b c k : Nat) (rs : List Reg) (w : World) (h : Plays B w p S) (hl : RegsAt [2, 3, 4] w p b rs) (hi : rs[k]? = some q0 ∧ rs[k + 1]? = some q1 ∧ rs[k + 2]? = some r0 ∧ rs[k + 3]? = some r1) (hq0 : q0.ok) (hq1 : q1.ok) (hr0 : r0.ok) (hr1 : r1.ok)
    (hm0 : 0 ≤ me) (hm1 : me < q0.n) (hm2 : me < q1.n) (hm3 : me < r0.n) (hm4 : me < r1.n) (ht1 : q1.told me) (_ht2 : r1.told me) (hN : S.left < N) (hs : bitM side = 0) (hc4 : 4 ≤ c) (hc5 : c ≤ 9223372036854775807) :
    Calls Tryz.prog 233 #[.pointer (some ⟨p, 0, none⟩), .slice (some ⟨b, k * 7, none⟩) 4 c, .int .i64 side, .int .i64 me] w (Post encU B p w ((kesEnter N q0 q1 r0 r1 0 me).run S)) := by
  generalize hR : Post encU B p w ((kesEnter N q0 q1 r0 r1 0 me).run S) = R
  have hO : Owes R encU B p w ((kesEnter N q0 q1 r0 r1 0 me).run S) := hR ▸ owes _ _ _ _ _
  clear hR
  replace hi := Lib.hid hi
  have hmf : ∀ (fn : Fn) (first cap : Array Value) (w : World), (Instr.makeFunc fn first cap).run Tryz.prog w = .ok (.func fn first cap) w := fun _ _ _ _ => rfl
  have hK := Keep.refl [2, 3, 4] B p w
  have hP := h
  clear h
  unfold kesEnter at hO
  obtain ⟨⟨a0, a1, a2, a3, a4, a5, a6⟩, ⟨e0, e1, e2, e3, e4, e5, e6⟩, ⟨f0, f1, f2, f3, f4, f5, f6⟩, ⟨g0, g1, g2, g3, g4, g5, g6⟩⟩ := hl.node4 hi.out
  have hc6 : (2 : Int) ≤ (c : Int) := by omega
  have hc7 : (4 : Int) ≤ (c : Int) := by omega
  have hb := kbit_p side w
  rw [hs] at hb
  clear hs
  go_enter Tryz.func233, Tryz.ntmps233
  go_wp2_with fail
  refine hb.mono ?_
  rintro e w' ⟨rfl, rfl⟩
  clear hb
  go_wp2_with fail
  go_quiet (fail)
  have hx := (Ext.refl w).drewN nq
  replace hl := hl.extL hx hP.lt
  replace hK := hK.trans (Keep.of_ext hx hP.lt hP.le)
  replace hP := hP.ext hx
  clear a0 a1 a2 a3 a4 a5 a6 e0 e1 e2 e3 e4 e5 e6 f0 f1 f2 f3 f4 f5 f6 g0 g1 g2 g3 g4 g5 g6 hx
  generalize w.drewN nq = wz at *
  obtain ⟨⟨a0, a1, a2, a3, a4, a5, a6⟩, ⟨e0, e1, e2, e3, e4, e5, e6⟩, ⟨f0, f1, f2, f3, f4, f5, f6⟩, ⟨g0, g1, g2, g3, g4, g5, g6⟩⟩ := hl.node4 hi.out
  go_wp2_with fail
  refine tstepL hO hK (reg_write_p B p S q0 me 1 _ hP hq0 ⟨hm0, by omega⟩) (fun _ h => ⟨rfl, h⟩) ?_
  clear hO hK hP
  intro u S w1 hlf _ hP hk hK hO
  replace hN := Nat.lt_of_le_of_lt hlf hN
  replace hl := hl.keep hk
  clear a0 a1 a2 a3 a4 a5 a6 e0 e1 e2 e3 e4 e5 e6 f0 f1 f2 f3 f4 f5 f6 g0 g1 g2 g3 g4 g5 g6 hk hlf
  obtain ⟨⟨a0, a1, a2, a3, a4, a5, a6⟩, ⟨e0, e1, e2, e3, e4, e5, e6⟩, ⟨f0, f1, f2, f3, f4, f5, f6⟩, ⟨g0, g1, g2, g3, g4, g5, g6⟩⟩ := hl.node4 hi.out
  go_wp2_with fail
  refine tstepL hO hK (reg_read_p B p S r1 me _ hP hr1 ⟨hm0, by omega⟩) (fun _ h => ⟨rfl, h⟩) ?_
  clear hO hK hP
  intro x S w2 hlf _ hP hk hK hO
  replace hN := Nat.lt_of_le_of_lt hlf hN
  replace hl := hl.keep hk
  clear a0 a1 a2 a3 a4 a5 a6 e0 e1 e2 e3 e4 e5 e6 f0 f1 f2 f3 f4 f5 f6 g0 g1 g2 g3 g4 g5 g6 hk hlf
  obtain ⟨⟨a0, a1, a2, a3, a4, a5, a6⟩, ⟨e0, e1, e2, e3, e4, e5, e6⟩, ⟨f0, f1, f2, f3, f4, f5, f6⟩, ⟨g0, g1, g2, g3, g4, g5, g6⟩⟩ := hl.node4 hi.out
  go_wp2_with fail
  have hbx : 0 ≤ bitM x ∧ bitM x ≤ 1 := by unfold bitM; split <;> omega
  have hwx := w64 (1 - bitM x) (by omega) (by omega)
  refine (kbit_p x _).mono ?_
  rintro e w' ⟨rfl, rfl⟩
  go_wp2_with fail
  have hPo := hP
  have bT := hP.held (.cells #[.int .i64 (bitM x)] 3)
  replace hK := hK.trans (Keep.alloc (.cells #[.int .i64 (bitM x)] 3) hP.lt hP.le)
  replace hP := hP.alloc (.cells #[.int .i64 (bitM x)] 3)
  have c_bT := bT.cells
  replace hl := hl.extL ((Ext.refl _).alloc (.cells #[.int .i64 (bitM x)] 3)) hPo.lt
  clear hPo
  clear a0 a1 a2 a3 a4 a5 a6 e0 e1 e2 e3 e4 e5 e6 f0 f1 f2 f3 f4 f5 f6 g0 g1 g2 g3 g4 g5 g6
  rw [show kesT 0 x = (bitM x) from rfl] at hO
  replace hP := hP.drew
  replace hK := hK.drew
  replace bT := bT.drew
  replace hl := hl.extL (Ext.refl _).drew hP.lt
  have hS : ∀ w', RegsAt [2, 3, 4] w' p b rs → HeldP w' p w2.heap.size (.cells #[.int .i64 (bitM x)] 3) → (w'.cell? ⟨b, k * 7 + 14, none⟩ = some (.int .i64 r0.kind) ∧ w'.cell? ⟨b, k * 7 + 14 + 1, none⟩ = some (.int .i64 r0.base) ∧ w'.cell? ⟨b, k * 7 + 14 + 2, none⟩ = some (.int .i64 r0.loc) ∧ w'.cell? ⟨b, k * 7 + 14 + 3, none⟩ = some (.int .i64 r0.n) ∧ w'.cell? ⟨b, k * 7 + 14 + 4, none⟩ = some (.int .i64 r0.wr) ∧ w'.cell? ⟨b, k * 7 + 14 + 5, none⟩ = some (.int .i64 r0.rd) ∧ w'.cell? ⟨b, k * 7 + 14 + 6, none⟩ = some (.int .i64 r0.top)) ∧ (∀ i, w'.cell? ⟨w2.heap.size, i, none⟩ = (#[.int .i64 (bitM x)] : Array Value)[i]?) := fun w' h1 h2 => by
    obtain ⟨y0, y1, y2, y3, y4, y5, y6⟩ := (h1.node4 hi.out).2.2.1
    exact ⟨⟨y0, y1, y2, y3, y4, y5, y6⟩, h2.cells⟩
  go_region_held2 (fun w' => (w'.cell? ⟨b, k * 7 + 14, none⟩ = some (.int .i64 r0.kind) ∧ w'.cell? ⟨b, k * 7 + 14 + 1, none⟩ = some (.int .i64 r0.base) ∧ w'.cell? ⟨b, k * 7 + 14 + 2, none⟩ = some (.int .i64 r0.loc) ∧ w'.cell? ⟨b, k * 7 + 14 + 3, none⟩ = some (.int .i64 r0.n) ∧ w'.cell? ⟨b, k * 7 + 14 + 4, none⟩ = some (.int .i64 r0.wr) ∧ w'.cell? ⟨b, k * 7 + 14 + 5, none⟩ = some (.int .i64 r0.rd) ∧ w'.cell? ⟨b, k * 7 + 14 + 6, none⟩ = some (.int .i64 r0.top)) ∧ (∀ i, w'.cell? ⟨w2.heap.size, i, none⟩ = (#[.int .i64 (bitM x)] : Array Value)[i]?)) (exact hS _ hl bT)
    (first
      | (go_at_call 229
         refine tstepL hO hK (reg_write_p B p S r0 me (bitM x) _ hP hr0 ⟨hm0, by omega⟩) (fun _ h => ⟨rfl, h⟩) ?_
         clear hO hK hP
         intro u S w3 hlf _ hP hk hK hO
         replace hN := Nat.lt_of_le_of_lt hlf hN
         replace hl := hl.keep hk
         replace bT := bT.keep hk
         clear hk hlf))
  rename_i hh
  clear hh c_bT
  generalize htx : (bitM x) = t at *
  go_wp2_with fail
  go_loopw [] (fun wr => ∃ (n : Nat) (S1 : TS), Plays B wr p S1 ∧ KeepP B p w wr ∧ HeldP wr p w2.heap.size (.cells #[.int .i64 t] 3) ∧ RegsAt [2, 3, 4] wr p b rs ∧ Hid (Owes R encU B p w ((kesSpin q1 r1 0 t me n).run S1)) ∧ S1.left < n) (fun wr => leftW 1 3 wr p)
  case atStart => exact ⟨N, S, hP, hK, bT, hl, hO, hN⟩
  case round =>
    clear hS hP hK bT hl hO hN
    obtain ⟨n, S1, hP, hK, bT, hl, hO, hN⟩ := hrel
    have hO := hO.out
    have hlw := Lib.hid hP.left
    cases n with
    | zero => omega
    | succ n =>
      unfold kesSpin at hO
      obtain ⟨⟨a0, a1, a2, a3, a4, a5, a6⟩, ⟨e0, e1, e2, e3, e4, e5, e6⟩, ⟨f0, f1, f2, f3, f4, f5, f6⟩, ⟨g0, g1, g2, g3, g4, g5, g6⟩⟩ := hl.node4 hi.out
      go_wp2_with fail
      refine tstepL hO hK (reg_read_p B p S1 q1 me _ hP hq1 ⟨hm0, by omega⟩) (fun _ h => ⟨rfl, h⟩) ?_
      clear hO hK hP
      intro v S2 w4 _ hlf hP hk hK hO
      replace hlf := hlf (asks_regR _ _ ht1)
      replace hl := hl.keep hk
      replace bT := bT.keep hk
      clear a0 a1 a2 a3 a4 a5 a6 e0 e1 e2 e3 e4 e5 e6 f0 f1 f2 f3 f4 f5 f6 g0 g1 g2 g3 g4 g5 g6 hk
      by_cases hv : v = 0
      · rw [if_pos hv] at hO
        subst hv
        have hf : R (.returned (encU ())) w4 := hO.done hP hK
        clear hO hP hK hl bT
        go_wp2_with fail
        first | exact hf | (refine bodyPost_ret (results_none rfl _ _ _) rfl ?_; exact hf)
      · rw [if_neg hv] at hO
        have hv2 : (v == 0) = false := by rw [beq_eq_false_iff_ne]; exact hv
        obtain ⟨⟨a0, a1, a2, a3, a4, a5, a6⟩, ⟨e0, e1, e2, e3, e4, e5, e6⟩, ⟨f0, f1, f2, f3, f4, f5, f6⟩, ⟨g0, g1, g2, g3, g4, g5, g6⟩⟩ := hl.node4 hi.out
        clear hv
        go_wp2_with fail
        refine tstepL hO hK (reg_read_p B p S2 r1 me _ hP hr1 ⟨hm0, by omega⟩) (fun _ h => ⟨rfl, h⟩) ?_
        clear hO hK hP
        intro y S3 w5 hlf2 _ hP hk hK hO
        replace hl := hl.keep hk
        replace bT := bT.keep hk
        clear a0 a1 a2 a3 a4 a5 a6 e0 e1 e2 e3 e4 e5 e6 f0 f1 f2 f3 f4 f5 f6 g0 g1 g2 g3 g4 g5 g6 hk
        have c_bT := bT.cells
        go_wp2_with fail
        refine (kbit_p y _).mono ?_
        rintro e w' ⟨rfl, rfl⟩
        go_wp2_with fail
        refine (kfree0_p (bitM y) t _ _ (c_bT 0)).mono ?_
        rintro e w' ⟨rfl, rfl⟩
        by_cases hy : kesFree 0 t y = true
        · rw [if_pos hy] at hO
          have hy2 : (bitM y != t) = true := by unfold kesFree at hy; simpa using hy
          have hf : R (.returned (encU ())) w5 := hO.done hP hK
          clear hO hP hK hl bT hy
          go_wp2_with fail
          first | exact hf | (refine bodyPost_ret (results_none rfl _ _ _) rfl ?_; exact hf)
        · rw [if_neg hy] at hO
          have hy2 : (bitM y != t) = false := by unfold kesFree at hy; simpa using hy
          obtain ⟨⟨a0, a1, a2, a3, a4, a5, a6⟩, ⟨e0, e1, e2, e3, e4, e5, e6⟩, ⟨f0, f1, f2, f3, f4, f5, f6⟩, ⟨g0, g1, g2, g3, g4, g5, g6⟩⟩ := hl.node4 hi.out
          clear hy c_bT
          go_wp2_with fail
          refine (cells_pm q1 me _ hq1 ht1 ⟨hm0, by omega⟩).mono ?_
          rintro e w6 ⟨cc, rfl, hcc, hx⟩
          replace hl := hl.extL hx hP.lt
          replace bT := bT.ext hx hP.lt
          replace hK := hK.trans (Keep.of_ext hx hP.lt hP.le)
          replace hP := hP.ext hx
          clear a0 a1 a2 a3 a4 a5 a6 e0 e1 e2 e3 e4 e5 e6 f0 f1 f2 f3 f4 f5 f6 g0 g1 g2 g3 g4 g5 g6 hx
          have hlw2 := Lib.hid hP.left
          have hOh := Lib.hid hO
          clear hO
          go_wp2_with fail
          refine ⟨⟨n, S3, hP, hK, bT, hl, hOh, by omega⟩, ?_⟩
          rw [hlw.out, hlw2.out]
          omega
set_option maxRecDepth 100000 in
set_option maxHeartbeats 1000000 in
theorem kesn_enter_p1 (B p N : Nat) (S : TS) (q0 q1 r0 r1 : Reg) (side me : Int) (b c k : Nat) (rs : List Reg) (w : World) (h : Plays B w p S) (hl : RegsAt [2, 3, 4] w p b rs) (hi : rs[k]? = some q0 ∧ rs[k + 1]? = some q1 ∧ rs[k + 2]? = some r0 ∧ rs[k + 3]? = some r1) (hq0 : q0.ok) (hq1 : q1.ok) (hr0 : r0.ok) (hr1 : r1.ok)
    (hm0 : 0 ≤ me) (hm1 : me < q0.n) (hm2 : me < q1.n) (hm3 : me < r0.n) (hm4 : me < r1.n) (ht1 : q0.told me) (_ht2 : r0.told me) (hN : S.left < N) (hs : bitM side = 1) (hc4 : 4 ≤ c) (hc5 : c ≤ 9223372036854775807) :
    Calls Tryz.prog 233 #[.pointer (some ⟨p, 0, none⟩), .slice (some ⟨b, k * 7, none⟩) 4 c, .int .i64 side, .int .i64 me] w (Post encU B p w ((kesEnter N q1 q0 r1 r0 1 me).run S)) := by
  generalize hR : Post encU B p w ((kesEnter N q1 q0 r1 r0 1 me).run S) = R
  have hO : Owes R encU B p w ((kesEnter N q1 q0 r1 r0 1 me).run S) := hR ▸ owes _ _ _ _ _
  clear hR
  replace hi := Lib.hid hi
  have hmf : ∀ (fn : Fn) (first cap : Array Value) (w : World), (Instr.makeFunc fn first cap).run Tryz.prog w = .ok (.func fn first cap) w := fun _ _ _ _ => rfl
  have hK := Keep.refl [2, 3, 4] B p w
  have hP := h
  clear h
  unfold kesEnter at hO
  obtain ⟨⟨a0, a1, a2, a3, a4, a5, a6⟩, ⟨e0, e1, e2, e3, e4, e5, e6⟩, ⟨f0, f1, f2, f3, f4, f5, f6⟩, ⟨g0, g1, g2, g3, g4, g5, g6⟩⟩ := hl.node4 hi.out
  have hc6 : (2 : Int) ≤ (c : Int) := by omega
  have hc7 : (4 : Int) ≤ (c : Int) := by omega
  have hb := kbit_p side w
  rw [hs] at hb
  clear hs
  go_enter Tryz.func233, Tryz.ntmps233
  go_wp2_with fail
  refine hb.mono ?_
  rintro e w' ⟨rfl, rfl⟩
  clear hb
  go_wp2_with fail
  go_quiet (fail)
  have hx := (Ext.refl w).drewN nq
  replace hl := hl.extL hx hP.lt
  replace hK := hK.trans (Keep.of_ext hx hP.lt hP.le)
  replace hP := hP.ext hx
  clear a0 a1 a2 a3 a4 a5 a6 e0 e1 e2 e3 e4 e5 e6 f0 f1 f2 f3 f4 f5 f6 g0 g1 g2 g3 g4 g5 g6 hx
  generalize w.drewN nq = wz at *
  obtain ⟨⟨a0, a1, a2, a3, a4, a5, a6⟩, ⟨e0, e1, e2, e3, e4, e5, e6⟩, ⟨f0, f1, f2, f3, f4, f5, f6⟩, ⟨g0, g1, g2, g3, g4, g5, g6⟩⟩ := hl.node4 hi.out
  go_wp2_with fail
  refine tstepL hO hK (reg_write_p B p S q1 me 1 _ hP hq1 ⟨hm0, by omega⟩) (fun _ h => ⟨rfl, h⟩) ?_
  clear hO hK hP
  intro u S w1 hlf _ hP hk hK hO
  replace hN := Nat.lt_of_le_of_lt hlf hN
  replace hl := hl.keep hk
  clear a0 a1 a2 a3 a4 a5 a6 e0 e1 e2 e3 e4 e5 e6 f0 f1 f2 f3 f4 f5 f6 g0 g1 g2 g3 g4 g5 g6 hk hlf
  obtain ⟨⟨a0, a1, a2, a3, a4, a5, a6⟩, ⟨e0, e1, e2, e3, e4, e5, e6⟩, ⟨f0, f1, f2, f3, f4, f5, f6⟩, ⟨g0, g1, g2, g3, g4, g5, g6⟩⟩ := hl.node4 hi.out
  go_wp2_with fail
  refine tstepL hO hK (reg_read_p B p S r0 me _ hP hr0 ⟨hm0, by omega⟩) (fun _ h => ⟨rfl, h⟩) ?_
  clear hO hK hP
  intro x S w2 hlf _ hP hk hK hO
  replace hN := Nat.lt_of_le_of_lt hlf hN
  replace hl := hl.keep hk
  clear a0 a1 a2 a3 a4 a5 a6 e0 e1 e2 e3 e4 e5 e6 f0 f1 f2 f3 f4 f5 f6 g0 g1 g2 g3 g4 g5 g6 hk hlf
  obtain ⟨⟨a0, a1, a2, a3, a4, a5, a6⟩, ⟨e0, e1, e2, e3, e4, e5, e6⟩, ⟨f0, f1, f2, f3, f4, f5, f6⟩, ⟨g0, g1, g2, g3, g4, g5, g6⟩⟩ := hl.node4 hi.out
  go_wp2_with fail
  have hbx : 0 ≤ bitM x ∧ bitM x ≤ 1 := by unfold bitM; split <;> omega
  have hwx := w64 (1 - bitM x) (by omega) (by omega)
  refine (kbit_p x _).mono ?_
  rintro e w' ⟨rfl, rfl⟩
  go_wp2_with fail
  have hPo := hP
  have bT := hP.held (.cells #[.int .i64 (1 - bitM x)] 3)
  replace hK := hK.trans (Keep.alloc (.cells #[.int .i64 (1 - bitM x)] 3) hP.lt hP.le)
  replace hP := hP.alloc (.cells #[.int .i64 (1 - bitM x)] 3)
  have c_bT := bT.cells
  replace hl := hl.extL ((Ext.refl _).alloc (.cells #[.int .i64 (1 - bitM x)] 3)) hPo.lt
  clear hPo
  clear a0 a1 a2 a3 a4 a5 a6 e0 e1 e2 e3 e4 e5 e6 f0 f1 f2 f3 f4 f5 f6 g0 g1 g2 g3 g4 g5 g6
  rw [show kesT 1 x = (1 - bitM x) from rfl] at hO
  replace hP := hP.drew
  replace hK := hK.drew
  replace bT := bT.drew
  replace hl := hl.extL (Ext.refl _).drew hP.lt
  have hS : ∀ w', RegsAt [2, 3, 4] w' p b rs → HeldP w' p w2.heap.size (.cells #[.int .i64 (1 - bitM x)] 3) → (w'.cell? ⟨b, k * 7 + 14 + 7, none⟩ = some (.int .i64 r1.kind) ∧ w'.cell? ⟨b, k * 7 + 14 + 7 + 1, none⟩ = some (.int .i64 r1.base) ∧ w'.cell? ⟨b, k * 7 + 14 + 7 + 2, none⟩ = some (.int .i64 r1.loc) ∧ w'.cell? ⟨b, k * 7 + 14 + 7 + 3, none⟩ = some (.int .i64 r1.n) ∧ w'.cell? ⟨b, k * 7 + 14 + 7 + 4, none⟩ = some (.int .i64 r1.wr) ∧ w'.cell? ⟨b, k * 7 + 14 + 7 + 5, none⟩ = some (.int .i64 r1.rd) ∧ w'.cell? ⟨b, k * 7 + 14 + 7 + 6, none⟩ = some (.int .i64 r1.top)) ∧ (∀ i, w'.cell? ⟨w2.heap.size, i, none⟩ = (#[.int .i64 (1 - bitM x)] : Array Value)[i]?) := fun w' h1 h2 => by
    obtain ⟨y0, y1, y2, y3, y4, y5, y6⟩ := (h1.node4 hi.out).2.2.2
    exact ⟨⟨y0, y1, y2, y3, y4, y5, y6⟩, h2.cells⟩
  go_region_held2 (fun w' => (w'.cell? ⟨b, k * 7 + 14 + 7, none⟩ = some (.int .i64 r1.kind) ∧ w'.cell? ⟨b, k * 7 + 14 + 7 + 1, none⟩ = some (.int .i64 r1.base) ∧ w'.cell? ⟨b, k * 7 + 14 + 7 + 2, none⟩ = some (.int .i64 r1.loc) ∧ w'.cell? ⟨b, k * 7 + 14 + 7 + 3, none⟩ = some (.int .i64 r1.n) ∧ w'.cell? ⟨b, k * 7 + 14 + 7 + 4, none⟩ = some (.int .i64 r1.wr) ∧ w'.cell? ⟨b, k * 7 + 14 + 7 + 5, none⟩ = some (.int .i64 r1.rd) ∧ w'.cell? ⟨b, k * 7 + 14 + 7 + 6, none⟩ = some (.int .i64 r1.top)) ∧ (∀ i, w'.cell? ⟨w2.heap.size, i, none⟩ = (#[.int .i64 (1 - bitM x)] : Array Value)[i]?)) (exact hS _ hl bT)
    (first
      | (go_at_call 229
         refine tstepL hO hK (reg_write_p B p S r1 me (1 - bitM x) _ hP hr1 ⟨hm0, by omega⟩) (fun _ h => ⟨rfl, h⟩) ?_
         clear hO hK hP
         intro u S w3 hlf _ hP hk hK hO
         replace hN := Nat.lt_of_le_of_lt hlf hN
         replace hl := hl.keep hk
         replace bT := bT.keep hk
         clear hk hlf))
  rename_i hh
  clear hh c_bT
  generalize htx : (1 - bitM x) = t at *
  go_wp2_with fail
  go_loopw [] (fun wr => ∃ (n : Nat) (S1 : TS), Plays B wr p S1 ∧ KeepP B p w wr ∧ HeldP wr p w2.heap.size (.cells #[.int .i64 t] 3) ∧ RegsAt [2, 3, 4] wr p b rs ∧ Hid (Owes R encU B p w ((kesSpin q0 r0 1 t me n).run S1)) ∧ S1.left < n) (fun wr => leftW 1 3 wr p)
  case atStart => exact ⟨N, S, hP, hK, bT, hl, hO, hN⟩
  case round =>
    clear hS hP hK bT hl hO hN
    obtain ⟨n, S1, hP, hK, bT, hl, hO, hN⟩ := hrel
    have hO := hO.out
    have hlw := Lib.hid hP.left
    cases n with
    | zero => omega
    | succ n =>
      unfold kesSpin at hO
      obtain ⟨⟨a0, a1, a2, a3, a4, a5, a6⟩, ⟨e0, e1, e2, e3, e4, e5, e6⟩, ⟨f0, f1, f2, f3, f4, f5, f6⟩, ⟨g0, g1, g2, g3, g4, g5, g6⟩⟩ := hl.node4 hi.out
      go_wp2_with fail
      refine tstepL hO hK (reg_read_p B p S1 q0 me _ hP hq0 ⟨hm0, by omega⟩) (fun _ h => ⟨rfl, h⟩) ?_
      clear hO hK hP
      intro v S2 w4 _ hlf hP hk hK hO
      replace hlf := hlf (asks_regR _ _ ht1)
      replace hl := hl.keep hk
      replace bT := bT.keep hk
      clear a0 a1 a2 a3 a4 a5 a6 e0 e1 e2 e3 e4 e5 e6 f0 f1 f2 f3 f4 f5 f6 g0 g1 g2 g3 g4 g5 g6 hk
      by_cases hv : v = 0
      · rw [if_pos hv] at hO
        subst hv
        have hf : R (.returned (encU ())) w4 := hO.done hP hK
        clear hO hP hK hl bT
        go_wp2_with fail
        first | exact hf | (refine bodyPost_ret (results_none rfl _ _ _) rfl ?_; exact hf)
      · rw [if_neg hv] at hO
        have hv2 : (v == 0) = false := by rw [beq_eq_false_iff_ne]; exact hv
        obtain ⟨⟨a0, a1, a2, a3, a4, a5, a6⟩, ⟨e0, e1, e2, e3, e4, e5, e6⟩, ⟨f0, f1, f2, f3, f4, f5, f6⟩, ⟨g0, g1, g2, g3, g4, g5, g6⟩⟩ := hl.node4 hi.out
        clear hv
        go_wp2_with fail
        refine tstepL hO hK (reg_read_p B p S2 r0 me _ hP hr0 ⟨hm0, by omega⟩) (fun _ h => ⟨rfl, h⟩) ?_
        clear hO hK hP
        intro y S3 w5 hlf2 _ hP hk hK hO
        replace hl := hl.keep hk
        replace bT := bT.keep hk
        clear a0 a1 a2 a3 a4 a5 a6 e0 e1 e2 e3 e4 e5 e6 f0 f1 f2 f3 f4 f5 f6 g0 g1 g2 g3 g4 g5 g6 hk
        have c_bT := bT.cells
        go_wp2_with fail
        refine (kbit_p y _).mono ?_
        rintro e w' ⟨rfl, rfl⟩
        go_wp2_with fail
        refine (kfree1_p (bitM y) t _ _ (c_bT 0)).mono ?_
        rintro e w' ⟨rfl, rfl⟩
        by_cases hy : kesFree 1 t y = true
        · rw [if_pos hy] at hO
          have hy2 : (bitM y == t) = true := by unfold kesFree at hy; simpa using hy
          have hf : R (.returned (encU ())) w5 := hO.done hP hK
          clear hO hP hK hl bT hy
          go_wp2_with fail
          first | exact hf | (refine bodyPost_ret (results_none rfl _ _ _) rfl ?_; exact hf)
        · rw [if_neg hy] at hO
          have hy2 : (bitM y == t) = false := by unfold kesFree at hy; simpa using hy
          obtain ⟨⟨a0, a1, a2, a3, a4, a5, a6⟩, ⟨e0, e1, e2, e3, e4, e5, e6⟩, ⟨f0, f1, f2, f3, f4, f5, f6⟩, ⟨g0, g1, g2, g3, g4, g5, g6⟩⟩ := hl.node4 hi.out
          clear hy c_bT
          go_wp2_with fail
          refine (cells_pm q0 me _ hq0 ht1 ⟨hm0, by omega⟩).mono ?_
          rintro e w6 ⟨cc, rfl, hcc, hx⟩
          replace hl := hl.extL hx hP.lt
          replace bT := bT.ext hx hP.lt
          replace hK := hK.trans (Keep.of_ext hx hP.lt hP.le)
          replace hP := hP.ext hx
          clear a0 a1 a2 a3 a4 a5 a6 e0 e1 e2 e3 e4 e5 e6 f0 f1 f2 f3 f4 f5 f6 g0 g1 g2 g3 g4 g5 g6 hx
          have hlw2 := Lib.hid hP.left
          have hOh := Lib.hid hO
          clear hO
          go_wp2_with fail
          refine ⟨⟨n, S3, hP, hK, bT, hl, hOh, by omega⟩, ?_⟩
          rw [hlw.out, hlw2.out]
          omega
theorem kesn_leave_p (B p : Nat) (S : TS) (q0 q1 r0 r1 : Reg) (side me : Int) (b c k : Nat) (rs : List Reg) (w : World) (h : Plays B w p S) (hl : RegsAt [2, 3, 4] w p b rs) (hi : rs[k]? = some q0 ∧ rs[k + 1]? = some q1 ∧ rs[k + 2]? = some r0 ∧ rs[k + 3]? = some r1) (hq0 : q0.ok) (hq1 : q1.ok)
    (hm0 : 0 ≤ me) (hm1 : me < q0.n) (hm2 : me < q1.n) :
    Calls Tryz.prog 234 #[.pointer (some ⟨p, 0, none⟩), .slice (some ⟨b, k * 7, none⟩) 4 c, .int .i64 side, .int .i64 me] w (Post encU B p w ((regW (if bitM side = 1 then q1 else q0) me 0).run S)) := by
  replace hi := Lib.hid hi
  have hb := kbit_p' side w
  obtain ⟨⟨a0, a1, a2, a3, a4, a5, a6⟩, ⟨e0, e1, e2, e3, e4, e5, e6⟩, -, -⟩ := hl.node4 hi.out
  have hs : bitM side = 0 ∨ bitM side = 1 := by unfold bitM; split <;> simp
  rcases hs with hs | hs
  · rw [hs] at hb ⊢
    rw [if_neg (by omega)]
    generalize hR : Post encU B p w ((regW q0 me 0).run S) = R
    have hO : Owes R encU B p w ((regW q0 me 0).run S) := hR ▸ owes _ _ _ _ _
    clear hR
    go_enter Tryz.func234, Tryz.ntmps234
    go_wp2_with fail
    refine hb.mono ?_
    rintro e w' ⟨rfl, rfl⟩
    go_wp2_with fail
    clear a0 a1 a2 a3 a4 a5 a6 e0 e1 e2 e3 e4 e5 e6 hl hb
    refine tlast hO (Keep.refl _ _ _ _) (reg_write_p B p S q0 me 0 _ h hq0 ⟨hm0, hm1⟩) (fun _ h => ⟨rfl, h⟩) ?_
    intro v S1 w1 hr hP1 hk1 hK1 hO1
    have hf := hO1.done hP1 hK1
    clear hO1 hP1 hK1 hr hk1 hO h
    go_wp2_with fail
    first | exact hf | (refine bodyPost_ret (results_none rfl _ _ _) rfl ?_; exact hf)
  · rw [hs] at hb ⊢
    rw [if_pos rfl]
    generalize hR : Post encU B p w ((regW q1 me 0).run S) = R
    have hO : Owes R encU B p w ((regW q1 me 0).run S) := hR ▸ owes _ _ _ _ _
    clear hR
    go_enter Tryz.func234, Tryz.ntmps234
    go_wp2_with fail
    refine hb.mono ?_
    rintro e w' ⟨rfl, rfl⟩
    go_wp2_with fail
    clear a0 a1 a2 a3 a4 a5 a6 e0 e1 e2 e3 e4 e5 e6 hl hb
    refine tlast hO (Keep.refl _ _ _ _) (reg_write_p B p S q1 me 0 _ h hq1 ⟨hm0, hm2⟩) (fun _ h => ⟨rfl, h⟩) ?_
    intro v S1 w1 hr hP1 hk1 hK1 hO1
    have hf := hO1.done hP1 hK1
    clear hO1 hP1 hK1 hr hk1 hO h
    go_wp2_with fail
    first | exact hf | (refine bodyPost_ret (results_none rfl _ _ _) rfl ?_; exact hf)
set_option maxRecDepth 100000 in
set_option maxHeartbeats 1000000 in
theorem kesn_zero_r (B p N : Nat) (o : Bool) (S : TS) (q0 q1 r0 r1 : Reg) (me : Int) (b c k : Nat) (rs : List Reg) (w : World) (h : RAt B w p o S) (hl : RegsAt [3, 4, 5] w p b rs) (hi : rs[k]? = some q0 ∧ rs[k + 1]? = some q1 ∧ rs[k + 2]? = some r0 ∧ rs[k + 3]? = some r1) (hq0 : q0.ok) (hq1 : q1.ok) (hr0 : r0.ok) (hr1 : r1.ok)
    (hm0 : 0 ≤ me) (hm1 : me < q0.n) (hm2 : me < q1.n) (hm3 : me < r0.n) (hm4 : me < r1.n) (ht1 : q1.told me) (_ht2 : r1.told me) (hN : S.left < N) :
    Calls Tryz.prog 309 #[.pointer (some ⟨p, 0, none⟩), .slice (some ⟨b, k * 7, none⟩) 4 c, .int .i64 me] w (RPost encU B p w (kesEnter N q0 q1 r0 r1 0 me) o S) := by
  generalize hR : RPost encU B p w (kesEnter N q0 q1 r0 r1 0 me) o S = R
  have hO : ROwes R encU B p w (kesEnter N q0 q1 r0 r1 0 me) o S := hR ▸ rowes _ _ _ _ _ _ _
  clear hR
  replace hi := Lib.hid hi
  have hK := Keep.refl [3, 4, 5] B p w
  have hP := h
  clear h
  unfold kesEnter at hO
  obtain ⟨⟨a0, a1, a2, a3, a4, a5, a6⟩, ⟨e0, e1, e2, e3, e4, e5, e6⟩, ⟨f0, f1, f2, f3, f4, f5, f6⟩, ⟨g0, g1, g2, g3, g4, g5, g6⟩⟩ := hl.node4r hi.out
  go_enter Tryz.func309, Tryz.ntmps309
  go_wp2_with fail
  refine rstepL hO hK (reg_write_r B p o S q0 me 1 _ hP hq0 ⟨hm0, by omega⟩) ?_
  clear hO hK hP
  intro u o S w1 hlf _ hP hk hK hO
  replace hN := Nat.lt_of_le_of_lt hlf hN
  replace hl := hl.keep hk
  clear a0 a1 a2 a3 a4 a5 a6 e0 e1 e2 e3 e4 e5 e6 f0 f1 f2 f3 f4 f5 f6 g0 g1 g2 g3 g4 g5 g6 hk hlf
  obtain ⟨⟨a0, a1, a2, a3, a4, a5, a6⟩, ⟨e0, e1, e2, e3, e4, e5, e6⟩, ⟨f0, f1, f2, f3, f4, f5, f6⟩, ⟨g0, g1, g2, g3, g4, g5, g6⟩⟩ := hl.node4r hi.out
  obtain ⟨_, _, _, _, _, hcc⟩ := hP.cell
  cases o with
  | true =>
    have hf : R (.returned (encU ())) w1 := hO.over () hP hK
    clear hO hP hK hl
    go_wp2_with fail
    first | exact hf | (refine bodyPost_ret (results_none rfl _ _ _) rfl ?_; exact hf)
  | false =>
    go_wp2_with fail
    clear hcc
    refine rstepL hO hK (reg_read_r B p false S r1 me _ hP hr1 ⟨hm0, by omega⟩) ?_
    clear hO hK hP
    intro x o S w2 hlf _ hP hk hK hO
    replace hN := Nat.lt_of_le_of_lt hlf hN
    replace hl := hl.keep hk
    clear a0 a1 a2 a3 a4 a5 a6 e0 e1 e2 e3 e4 e5 e6 f0 f1 f2 f3 f4 f5 f6 g0 g1 g2 g3 g4 g5 g6 hk hlf
    obtain ⟨⟨a0, a1, a2, a3, a4, a5, a6⟩, ⟨e0, e1, e2, e3, e4, e5, e6⟩, ⟨f0, f1, f2, f3, f4, f5, f6⟩, ⟨g0, g1, g2, g3, g4, g5, g6⟩⟩ := hl.node4r hi.out
    have hbx : 0 ≤ bitM x ∧ bitM x ≤ 1 := by unfold bitM; split <;> omega
    have hwx := w64 (1 - bitM x) (by omega) (by omega)
    go_wp2_with fail
    refine (bit_r x _).mono ?_
    rintro e w' ⟨rfl, rfl⟩
    rw [show kesT 0 x = (bitM x) from rfl] at hO
    obtain ⟨_, _, _, _, _, hcc⟩ := hP.cell
    generalize htx : (bitM x) = t at hO ⊢
    go_upto_if 28 with fail
    go_cut [6] (fun s6 wx => s6 = .int .i64 t ∧ ∃ o1 S1, RAt B wx p o1 S1 ∧ KeepR B p w wx ∧ RegsAt [3, 4, 5] wx p b rs ∧ Hid (ROwes R encU B p w (kesSpin q1 r1 0 t me N) o1 S1) ∧ S1.left < N)
    case first =>
      clear hcc
      cases o with
      | true =>
        clear a0 a1 a2 a3 a4 a5 a6 e0 e1 e2 e3 e4 e5 e6 f0 f1 f2 f3 f4 f5 f6 g0 g1 g2 g3 g4 g5 g6
        go_wp2_with fail
        go_meet
        exact ⟨rfl, true, S, hP, hK, hl, hO.any _, hN⟩
      | false =>
        go_wp2_with fail
        refine rstepL hO hK (reg_write_r B p false S r0 me t _ hP hr0 ⟨hm0, by omega⟩) ?_
        clear hO hK hP
        intro u o S3 w3 hlf _ hP hk hK hO
        replace hl := hl.keep hk
        clear a0 a1 a2 a3 a4 a5 a6 e0 e1 e2 e3 e4 e5 e6 f0 f1 f2 f3 f4 f5 f6 g0 g1 g2 g3 g4 g5 g6 hk
        go_wp2_with fail
        go_meet
        exact ⟨rfl, o, S3, hP, hK, hl, hO, by omega⟩
    case rest =>
      clear a0 a1 a2 a3 a4 a5 a6 e0 e1 e2 e3 e4 e5 e6 f0 f1 f2 f3 f4 f5 f6 g0 g1 g2 g3 g4 g5 g6 hP hK hl hO hN hcc
      obtain ⟨rfl, o1, S1, hP, hK, hl, hO, hN⟩ := hcut
      go_wp2_with fail
      go_loopw [] (fun wr => ∃ (n : Nat) (o2 : Bool) (S2 : TS), RAt B wr p o2 S2 ∧ KeepR B p w wr ∧ RegsAt [3, 4, 5] wr p b rs ∧ Hid (ROwes R encU B p w (kesSpin q1 r1 0 t me n) o2 S2) ∧ (o2 = false → S2.left < n)) (fun wr => leftR wr p)
      case atStart => exact ⟨N, o1, S1, hP, hK, hl, hO, fun _ => hN⟩
      case round =>
        clear hP hK hl hO hN
        obtain ⟨n, o2, S2, hP, hK, hl, hO, hN⟩ := hrel
        have hO := hO.out
        have hlw := Lib.hid hP.leftR
        obtain ⟨_, _, _, _, _, hcc⟩ := hP.cell
        cases o2 with
        | true =>
          have hf : R (.returned (encU ())) wr := hO.over () hP hK
          clear hO hP hK hl hN
          go_wp2_with fail
          first | exact hf | (refine bodyPost_ret (results_none rfl _ _ _) rfl ?_; exact hf)
        | false =>
          have hN := hN rfl
          cases n with
          | zero => omega
          | succ n =>
            unfold kesSpin at hO
            obtain ⟨⟨a0, a1, a2, a3, a4, a5, a6⟩, ⟨e0, e1, e2, e3, e4, e5, e6⟩, ⟨f0, f1, f2, f3, f4, f5, f6⟩, ⟨g0, g1, g2, g3, g4, g5, g6⟩⟩ := hl.node4r hi.out
            go_wp2_with fail
            clear hcc
            refine rstepL hO hK (reg_read_r B p false S2 q1 me _ hP hq1 ⟨hm0, by omega⟩) ?_
            clear hO hK hP
            intro v o3 S3 w4 hlf hlt hP hk hK hO
            replace hl := hl.keep hk
            clear a0 a1 a2 a3 a4 a5 a6 e0 e1 e2 e3 e4 e5 e6 f0 f1 f2 f3 f4 f5 f6 g0 g1 g2 g3 g4 g5 g6 hk
            obtain ⟨_, _, _, _, _, hcc⟩ := hP.cell
            by_cases hv : v = 0
            · rw [if_pos hv] at hO
              subst hv
              have hf : R (.returned (encU ())) w4 := hO.ret hP hK
              clear hO hP hK hl hcc
              go_wp2_with fail
              first | exact hf | (refine bodyPost_ret (results_none rfl _ _ _) rfl ?_; exact hf)
            · rw [if_neg hv] at hO
              have hv2 : (v == 0) = false := by rw [beq_eq_false_iff_ne]; exact hv
              clear hv
              cases o3 with
              | true =>
                have hlw2 := Lib.hid hP.leftR
                have hOh := Lib.hid hO
                clear hO
                go_wp2_with fail
                refine ⟨⟨n, true, S3, hP, hK, hl, hOh.out.any _, fun h => by cases h⟩, ?_⟩
                rw [hlw.out, hlw2.out]
                simp
                omega
              | false =>
                replace hlt := (hlt rfl).2 (asks_regR _ _ ht1)
                obtain ⟨⟨a0, a1, a2, a3, a4, a5, a6⟩, ⟨e0, e1, e2, e3, e4, e5, e6⟩, ⟨f0, f1, f2, f3, f4, f5, f6⟩, ⟨g0, g1, g2, g3, g4, g5, g6⟩⟩ := hl.node4r hi.out
                go_wp2_with fail
                clear hcc
                refine rstepL hO hK (reg_read_r B p false S3 r1 me _ hP hr1 ⟨hm0, by omega⟩) ?_
                clear hO hK hP
                intro y o4 S4 w5 hlf4 _ hP hk hK hO
                replace hl := hl.keep hk
                clear a0 a1 a2 a3 a4 a5 a6 e0 e1 e2 e3 e4 e5 e6 f0 f1 f2 f3 f4 f5 f6 g0 g1 g2 g3 g4 g5 g6 hk
                go_wp2_with fail
                refine (bit_r y _).mono ?_
                rintro e w' ⟨rfl, rfl⟩
                by_cases hy : kesFree 0 t y = true
                · rw [if_pos hy] at hO
                  have hy2 : (bitM y != t) = true := by unfold kesFree at hy; simpa using hy
                  have hf : R (.returned (encU ())) w5 := hO.ret hP hK
                  clear hO hP hK hl hy
                  go_wp2_with fail
                  first | exact hf | (refine bodyPost_ret (results_none rfl _ _ _) rfl ?_; exact hf)
                · rw [if_neg hy] at hO
                  have hy2 : (bitM y != t) = false := by unfold kesFree at hy; simpa using hy
                  have hlw2 := Lib.hid hP.leftR
                  have hOh := Lib.hid hO
                  clear hO hy
                  go_wp2_with fail
                  refine ⟨⟨n, o4, S4, hP, hK, hl, hOh, fun _ => by omega⟩, ?_⟩
                  rw [hlw.out, hlw2.out]
                  simp only [Bool.false_eq_true, if_false]
                  split <;> omega
set_option maxRecDepth 100000 in
set_option maxHeartbeats 1000000 in
theorem kesn_one_r (B p N : Nat) (o : Bool) (S : TS) (q0 q1 r0 r1 : Reg) (me : Int) (b c k : Nat) (rs : List Reg) (w : World) (h : RAt B w p o S) (hl : RegsAt [3, 4, 5] w p b rs) (hi : rs[k]? = some q0 ∧ rs[k + 1]? = some q1 ∧ rs[k + 2]? = some r0 ∧ rs[k + 3]? = some r1) (hq0 : q0.ok) (hq1 : q1.ok) (hr0 : r0.ok) (hr1 : r1.ok)
    (hm0 : 0 ≤ me) (hm1 : me < q0.n) (hm2 : me < q1.n) (hm3 : me < r0.n) (hm4 : me < r1.n) (ht1 : q0.told me) (_ht2 : r0.told me) (hN : S.left < N) :
    Calls Tryz.prog 310 #[.pointer (some ⟨p, 0, none⟩), .slice (some ⟨b, k * 7, none⟩) 4 c, .int .i64 me] w (RPost encU B p w (kesEnter N q1 q0 r1 r0 1 me) o S) := by
  generalize hR : RPost encU B p w (kesEnter N q1 q0 r1 r0 1 me) o S = R
  have hO : ROwes R encU B p w (kesEnter N q1 q0 r1 r0 1 me) o S := hR ▸ rowes _ _ _ _ _ _ _
  clear hR
  replace hi := Lib.hid hi
  have hK := Keep.refl [3, 4, 5] B p w
  have hP := h
  clear h
  unfold kesEnter at hO
  obtain ⟨⟨a0, a1, a2, a3, a4, a5, a6⟩, ⟨e0, e1, e2, e3, e4, e5, e6⟩, ⟨f0, f1, f2, f3, f4, f5, f6⟩, ⟨g0, g1, g2, g3, g4, g5, g6⟩⟩ := hl.node4r hi.out
  go_enter Tryz.func310, Tryz.ntmps310
  go_wp2_with fail
  refine rstepL hO hK (reg_write_r B p o S q1 me 1 _ hP hq1 ⟨hm0, by omega⟩) ?_
  clear hO hK hP
  intro u o S w1 hlf _ hP hk hK hO
  replace hN := Nat.lt_of_le_of_lt hlf hN
  replace hl := hl.keep hk
  clear a0 a1 a2 a3 a4 a5 a6 e0 e1 e2 e3 e4 e5 e6 f0 f1 f2 f3 f4 f5 f6 g0 g1 g2 g3 g4 g5 g6 hk hlf
  obtain ⟨⟨a0, a1, a2, a3, a4, a5, a6⟩, ⟨e0, e1, e2, e3, e4, e5, e6⟩, ⟨f0, f1, f2, f3, f4, f5, f6⟩, ⟨g0, g1, g2, g3, g4, g5, g6⟩⟩ := hl.node4r hi.out
  obtain ⟨_, _, _, _, _, hcc⟩ := hP.cell
  cases o with
  | true =>
    have hf : R (.returned (encU ())) w1 := hO.over () hP hK
    clear hO hP hK hl
    go_wp2_with fail
    first | exact hf | (refine bodyPost_ret (results_none rfl _ _ _) rfl ?_; exact hf)
  | false =>
    go_wp2_with fail
    clear hcc
    refine rstepL hO hK (reg_read_r B p false S r0 me _ hP hr0 ⟨hm0, by omega⟩) ?_
    clear hO hK hP
    intro x o S w2 hlf _ hP hk hK hO
    replace hN := Nat.lt_of_le_of_lt hlf hN
    replace hl := hl.keep hk
    clear a0 a1 a2 a3 a4 a5 a6 e0 e1 e2 e3 e4 e5 e6 f0 f1 f2 f3 f4 f5 f6 g0 g1 g2 g3 g4 g5 g6 hk hlf
    obtain ⟨⟨a0, a1, a2, a3, a4, a5, a6⟩, ⟨e0, e1, e2, e3, e4, e5, e6⟩, ⟨f0, f1, f2, f3, f4, f5, f6⟩, ⟨g0, g1, g2, g3, g4, g5, g6⟩⟩ := hl.node4r hi.out
    have hbx : 0 ≤ bitM x ∧ bitM x ≤ 1 := by unfold bitM; split <;> omega
    have hwx := w64 (1 - bitM x) (by omega) (by omega)
    go_wp2_with fail
    refine (bit_r x _).mono ?_
    rintro e w' ⟨rfl, rfl⟩
    rw [show kesT 1 x = (1 - bitM x) from rfl] at hO
    obtain ⟨_, _, _, _, _, hcc⟩ := hP.cell
    generalize htx : (1 - bitM x) = t at hO ⊢
    go_upto_if 29 with fail
    go_cut [6] (fun s6 wx => s6 = .int .i64 t ∧ ∃ o1 S1, RAt B wx p o1 S1 ∧ KeepR B p w wx ∧ RegsAt [3, 4, 5] wx p b rs ∧ Hid (ROwes R encU B p w (kesSpin q0 r0 1 t me N) o1 S1) ∧ S1.left < N)
    case first =>
      clear hcc
      cases o with
      | true =>
        clear a0 a1 a2 a3 a4 a5 a6 e0 e1 e2 e3 e4 e5 e6 f0 f1 f2 f3 f4 f5 f6 g0 g1 g2 g3 g4 g5 g6
        go_wp2_with fail
        go_meet
        exact ⟨rfl, true, S, hP, hK, hl, hO.any _, hN⟩
      | false =>
        go_wp2_with fail
        refine rstepL hO hK (reg_write_r B p false S r1 me t _ hP hr1 ⟨hm0, by omega⟩) ?_
        clear hO hK hP
        intro u o S3 w3 hlf _ hP hk hK hO
        replace hl := hl.keep hk
        clear a0 a1 a2 a3 a4 a5 a6 e0 e1 e2 e3 e4 e5 e6 f0 f1 f2 f3 f4 f5 f6 g0 g1 g2 g3 g4 g5 g6 hk
        go_wp2_with fail
        go_meet
        exact ⟨rfl, o, S3, hP, hK, hl, hO, by omega⟩
    case rest =>
      clear a0 a1 a2 a3 a4 a5 a6 e0 e1 e2 e3 e4 e5 e6 f0 f1 f2 f3 f4 f5 f6 g0 g1 g2 g3 g4 g5 g6 hP hK hl hO hN hcc
      obtain ⟨rfl, o1, S1, hP, hK, hl, hO, hN⟩ := hcut
      go_wp2_with fail
      go_loopw [] (fun wr => ∃ (n : Nat) (o2 : Bool) (S2 : TS), RAt B wr p o2 S2 ∧ KeepR B p w wr ∧ RegsAt [3, 4, 5] wr p b rs ∧ Hid (ROwes R encU B p w (kesSpin q0 r0 1 t me n) o2 S2) ∧ (o2 = false → S2.left < n)) (fun wr => leftR wr p)
      case atStart => exact ⟨N, o1, S1, hP, hK, hl, hO, fun _ => hN⟩
      case round =>
        clear hP hK hl hO hN
        obtain ⟨n, o2, S2, hP, hK, hl, hO, hN⟩ := hrel
        have hO := hO.out
        have hlw := Lib.hid hP.leftR
        obtain ⟨_, _, _, _, _, hcc⟩ := hP.cell
        cases o2 with
        | true =>
          have hf : R (.returned (encU ())) wr := hO.over () hP hK
          clear hO hP hK hl hN
          go_wp2_with fail
          first | exact hf | (refine bodyPost_ret (results_none rfl _ _ _) rfl ?_; exact hf)
        | false =>
          have hN := hN rfl
          cases n with
          | zero => omega
          | succ n =>
            unfold kesSpin at hO
            obtain ⟨⟨a0, a1, a2, a3, a4, a5, a6⟩, ⟨e0, e1, e2, e3, e4, e5, e6⟩, ⟨f0, f1, f2, f3, f4, f5, f6⟩, ⟨g0, g1, g2, g3, g4, g5, g6⟩⟩ := hl.node4r hi.out
            go_wp2_with fail
            clear hcc
            refine rstepL hO hK (reg_read_r B p false S2 q0 me _ hP hq0 ⟨hm0, by omega⟩) ?_
            clear hO hK hP
            intro v o3 S3 w4 hlf hlt hP hk hK hO
            replace hl := hl.keep hk
            clear a0 a1 a2 a3 a4 a5 a6 e0 e1 e2 e3 e4 e5 e6 f0 f1 f2 f3 f4 f5 f6 g0 g1 g2 g3 g4 g5 g6 hk
            obtain ⟨_, _, _, _, _, hcc⟩ := hP.cell
            by_cases hv : v = 0
            · rw [if_pos hv] at hO
              subst hv
              have hf : R (.returned (encU ())) w4 := hO.ret hP hK
              clear hO hP hK hl hcc
              go_wp2_with fail
              first | exact hf | (refine bodyPost_ret (results_none rfl _ _ _) rfl ?_; exact hf)
            · rw [if_neg hv] at hO
              have hv2 : (v == 0) = false := by rw [beq_eq_false_iff_ne]; exact hv
              clear hv
              cases o3 with
              | true =>
                have hlw2 := Lib.hid hP.leftR
                have hOh := Lib.hid hO
                clear hO
                go_wp2_with fail
                refine ⟨⟨n, true, S3, hP, hK, hl, hOh.out.any _, fun h => by cases h⟩, ?_⟩
                rw [hlw.out, hlw2.out]
                simp
                omega
              | false =>
                replace hlt := (hlt rfl).2 (asks_regR _ _ ht1)
                obtain ⟨⟨a0, a1, a2, a3, a4, a5, a6⟩, ⟨e0, e1, e2, e3, e4, e5, e6⟩, ⟨f0, f1, f2, f3, f4, f5, f6⟩, ⟨g0, g1, g2, g3, g4, g5, g6⟩⟩ := hl.node4r hi.out
                go_wp2_with fail
                clear hcc
                refine rstepL hO hK (reg_read_r B p false S3 r0 me _ hP hr0 ⟨hm0, by omega⟩) ?_
                clear hO hK hP
                intro y o4 S4 w5 hlf4 _ hP hk hK hO
                replace hl := hl.keep hk
                clear a0 a1 a2 a3 a4 a5 a6 e0 e1 e2 e3 e4 e5 e6 f0 f1 f2 f3 f4 f5 f6 g0 g1 g2 g3 g4 g5 g6 hk
                go_wp2_with fail
                refine (bit_r y _).mono ?_
                rintro e w' ⟨rfl, rfl⟩
                by_cases hy : kesFree 1 t y = true
                · rw [if_pos hy] at hO
                  have hy2 : (bitM y == t) = true := by unfold kesFree at hy; simpa using hy
                  have hf : R (.returned (encU ())) w5 := hO.ret hP hK
                  clear hO hP hK hl hy
                  go_wp2_with fail
                  first | exact hf | (refine bodyPost_ret (results_none rfl _ _ _) rfl ?_; exact hf)
                · rw [if_neg hy] at hO
                  have hy2 : (bitM y == t) = false := by unfold kesFree at hy; simpa using hy
                  have hlw2 := Lib.hid hP.leftR
                  have hOh := Lib.hid hO
                  clear hO hy
                  go_wp2_with fail
                  refine ⟨⟨n, o4, S4, hP, hK, hl, hOh, fun _ => by omega⟩, ?_⟩
                  rw [hlw.out, hlw2.out]
                  simp only [Bool.false_eq_true, if_false]
                  split <;> omega
theorem kesn_enter_p (B p N : Nat) (S : TS) (q0 q1 r0 r1 : Reg) (side me : Int) (b c k : Nat) (rs : List Reg) (w : World) (h : Plays B w p S) (hl : RegsAt [2, 3, 4] w p b rs) (hi : rs[k]? = some q0 ∧ rs[k + 1]? = some q1 ∧ rs[k + 2]? = some r0 ∧ rs[k + 3]? = some r1) (hq0 : q0.ok) (hq1 : q1.ok) (hr0 : r0.ok) (hr1 : r1.ok)
    (hm0 : 0 ≤ me) (hm1 : me < q0.n) (hm2 : me < q1.n) (hm3 : me < r0.n) (hm4 : me < r1.n) (ht1 : q0.told me) (ht2 : q1.told me) (ht3 : r0.told me) (ht4 : r1.told me) (hN : S.left < N) (hc4 : 4 ≤ c) (hc5 : c ≤ 9223372036854775807) :
    Calls Tryz.prog 233 #[.pointer (some ⟨p, 0, none⟩), .slice (some ⟨b, k * 7, none⟩) 4 c, .int .i64 side, .int .i64 me] w (Post encU B p w ((kesM N q0 q1 r0 r1 side me).run S)) := by
  unfold kesM
  rcases bitM_or side with hs | hs
  · rw [if_neg (by omega)]
    exact kesn_enter_p0 B p N S q0 q1 r0 r1 side me b c k rs w h hl hi hq0 hq1 hr0 hr1 hm0 hm1 hm2 hm3 hm4 ht2 ht4 hN hs hc4 hc5
  · rw [if_pos hs]
    exact kesn_enter_p1 B p N S q0 q1 r0 r1 side me b c k rs w h hl hi hq0 hq1 hr0 hr1 hm0 hm1 hm2 hm3 hm4 ht1 ht3 hN hs hc4 hc5
theorem kesn_enter_r (B p N : Nat) (o : Bool) (S : TS) (q0 q1 r0 r1 : Reg) (side me : Int) (b c k : Nat) (rs : List Reg) (w : World) (h : RAt B w p o S) (hl : RegsAt [3, 4, 5] w p b rs) (hi : rs[k]? = some q0 ∧ rs[k + 1]? = some q1 ∧ rs[k + 2]? = some r0 ∧ rs[k + 3]? = some r1) (hq0 : q0.ok) (hq1 : q1.ok) (hr0 : r0.ok) (hr1 : r1.ok)
    (hm0 : 0 ≤ me) (hm1 : me < q0.n) (hm2 : me < q1.n) (hm3 : me < r0.n) (hm4 : me < r1.n) (ht1 : q0.told me) (ht2 : q1.told me) (ht3 : r0.told me) (ht4 : r1.told me) (hN : S.left < N) :
    Calls Tryz.prog 265 #[.pointer (some ⟨p, 0, none⟩), .slice (some ⟨b, k * 7, none⟩) 4 c, .int .i64 side, .int .i64 me] w (RPost encU B p w (kesM N q0 q1 r0 r1 side me) o S) := by
  unfold kesM
  by_cases hs : side = 0
  · have hb : bitM side = 0 := by unfold bitM; rw [if_pos hs]
    rw [if_neg (by omega)]
    have hz := kesn_zero_r B p N o S q0 q1 r0 r1 me b c k rs w h hl hi hq0 hq1 hr0 hr1 hm0 hm1 hm2 hm3 hm4 ht2 ht4 hN
    generalize hR : RPost encU B p w (kesEnter N q0 q1 r0 r1 0 me) o S = R
    have hO : ROwes R encU B p w (kesEnter N q0 q1 r0 r1 0 me) o S := hR ▸ rowes _ _ _ _ _ _ _
    clear hR
    clear hb
    go_enter Tryz.func265, Tryz.ntmps265
    go_wp2_with fail
    refine hz.mono fun e w' hp => ?_
    have hf := hO e w' hp
    obtain ⟨a, o', S', rfl, _⟩ := hp
    clear hO hz h hl
    go_wp2_with fail
    first | exact hf | (refine bodyPost_ret (results_none rfl _ _ _) rfl ?_; exact hf)
  · have hb : bitM side = 1 := by unfold bitM; rw [if_neg hs]
    have hs2 : (side == 0) = false := by rw [beq_eq_false_iff_ne]; exact hs
    rw [if_pos hb]
    have hz := kesn_one_r B p N o S q0 q1 r0 r1 me b c k rs w h hl hi hq0 hq1 hr0 hr1 hm0 hm1 hm2 hm3 hm4 ht1 ht3 hN
    generalize hR : RPost encU B p w (kesEnter N q1 q0 r1 r0 1 me) o S = R
    have hO : ROwes R encU B p w (kesEnter N q1 q0 r1 r0 1 me) o S := hR ▸ rowes _ _ _ _ _ _ _
    clear hR
    clear hb hs
    go_enter Tryz.func265, Tryz.ntmps265
    go_wp2_with fail
    refine hz.mono fun e w' hp => ?_
    have hf := hO e w' hp
    obtain ⟨a, o', S', rfl, _⟩ := hp
    clear hO hz h hl
    go_wp2_with fail
    first | exact hf | (refine bodyPost_ret (results_none rfl _ _ _) rfl ?_; exact hf)
theorem kesn_leave_r (B p : Nat) (o : Bool) (S : TS) (q0 q1 r0 r1 : Reg) (side me : Int) (b c k : Nat) (rs : List Reg) (w : World) (h : RAt B w p o S) (hl : RegsAt [3, 4, 5] w p b rs) (hi : rs[k]? = some q0 ∧ rs[k + 1]? = some q1 ∧ rs[k + 2]? = some r0 ∧ rs[k + 3]? = some r1) (hq0 : q0.ok) (hq1 : q1.ok)
    (hm0 : 0 ≤ me) (hm1 : me < q0.n) (hm2 : me < q1.n) :
    Calls Tryz.prog 271 #[.pointer (some ⟨p, 0, none⟩), .slice (some ⟨b, k * 7, none⟩) 4 c, .int .i64 side, .int .i64 me] w (RPost encU B p w (kesL q0 q1 side me) o S) := by
  replace hi := Lib.hid hi
  have hb := bit_r side w
  unfold kesL
  obtain ⟨⟨a0, a1, a2, a3, a4, a5, a6⟩, ⟨e0, e1, e2, e3, e4, e5, e6⟩, -, -⟩ := hl.node4r hi.out
  rcases bitM_or side with hs | hs
  · rw [hs] at hb ⊢
    rw [if_neg (by omega)]
    have hz := reg_write_r B p o S q0 me 0 w h hq0 ⟨hm0, hm1⟩
    generalize hR : RPost encU B p w (regW q0 me 0) o S = R
    have hO : ROwes R encU B p w (regW q0 me 0) o S := hR ▸ rowes _ _ _ _ _ _ _
    clear hR
    go_enter Tryz.func271, Tryz.ntmps271
    go_wp2_with fail
    refine hb.mono ?_
    rintro e w' ⟨rfl, rfl⟩
    go_wp2_with fail
    clear a0 a1 a2 a3 a4 a5 a6 e0 e1 e2 e3 e4 e5 e6 hl hb
    refine hz.mono fun e w' hp => ?_
    have hf := hO e w' hp
    obtain ⟨a, o', S', rfl, _⟩ := hp
    clear hO hz h
    go_wp2_with fail
    first | exact hf | (refine bodyPost_ret (results_none rfl _ _ _) rfl ?_; exact hf)
  · rw [hs] at hb ⊢
    rw [if_pos rfl]
    have hz := reg_write_r B p o S q1 me 0 w h hq1 ⟨hm0, hm2⟩
    generalize hR : RPost encU B p w (regW q1 me 0) o S = R
    have hO : ROwes R encU B p w (regW q1 me 0) o S := hR ▸ rowes _ _ _ _ _ _ _
    clear hR
    go_enter Tryz.func271, Tryz.ntmps271
    go_wp2_with fail
    refine hb.mono ?_
    rintro e w' ⟨rfl, rfl⟩
    go_wp2_with fail
    clear a0 a1 a2 a3 a4 a5 a6 e0 e1 e2 e3 e4 e5 e6 hl hb
    refine hz.mono fun e w' hp => ?_
    have hf := hO e w' hp
    obtain ⟨a, o', S', rfl, _⟩ := hp
    clear hO hz h
    go_wp2_with fail
    first | exact hf | (refine bodyPost_ret (results_none rfl _ _ _) rfl ?_; exact hf)
end Go.Proofs.YtbaajjkopdjbgaaGreat
/-
  Peterson's lock of two sides at a node of a tree, by the document.
-/
namespace Go.Proofs.YtbaajjkopdjbgaaGreat
open Go.RowKit Kv
set_option maxRecDepth 100000 in
set_option maxHeartbeats 1000000 in
theorem darbn_enter_r0 (B p N : Nat) (o : Bool) (S : TS) (q0 q1 rt : Reg) (side me : Int) (b c k : Nat) (rs : List Reg) (w : World) (h : RAt B w p o S) (hl : RegsAt [3, 4, 5] w p b rs) (hi : rs[k]? = some q0 ∧ rs[k + 1]? = some q1 ∧ rs[k + 2]? = some rt) (hq0 : q0.ok) (hq1 : q1.ok) (hrt : rt.ok)
    (hm0 : 0 ≤ me) (hm1 : me < q0.n) (hm2 : me < q1.n) (hm3 : me < rt.n) (ht1 : q1.told me) (hN : S.left < N) (hs : bitM side = 0) :
    Calls Tryz.prog 266 #[.pointer (some ⟨p, 0, none⟩), .slice (some ⟨b, k * 7, none⟩) 3 c, .int .i64 side, .int .i64 me] w (RPost encU B p w (arbEnter N q0 q1 rt 0 me) o S) := by
  generalize hR : RPost encU B p w (arbEnter N q0 q1 rt 0 me) o S = R
  have hO : ROwes R encU B p w (arbEnter N q0 q1 rt 0 me) o S := hR ▸ rowes _ _ _ _ _ _ _
  clear hR
  have hK := Keep.refl [3, 4, 5] B p w
  have hP := h
  clear h
  unfold arbEnter at hO
  replace hi := Lib.hid hi
  have hb := bit_r side w
  rw [hs] at hb
  clear hs
  go_enter Tryz.func266, Tryz.ntmps266
  go_wp2_with fail
  refine hb.mono ?_
  rintro e w' ⟨rfl, rfl⟩
  clear hb
  have hOh := Lib.hid hO
  clear hO
  obtain ⟨a0, a1, a2, a3, a4, a5, a6⟩ := (hl.node3 hi.out).1
  go_wp2_with fail
  replace hO := hOh.out
  clear hOh a0 a1 a2 a3 a4 a5 a6
  refine rstepL hO hK (reg_write_r B p o S q0 me 1 _ hP hq0 ⟨hm0, by omega⟩) ?_
  clear hO hK hP
  intro u o1 S1 w1 hlf _ hP hk hK hO
  replace hN := Nat.lt_of_le_of_lt hlf hN
  replace hl := hl.keep hk
  clear hk hlf
  obtain ⟨_, _, _, _, _, hcc⟩ := hP.cell
  cases o1 with
  | true =>
    have hf : R (.returned (encU ())) w1 := hO.over () hP hK
    have hPh := Lib.hid hP
    clear hO hP hK
    go_wp2_with fail
    go_loopw [] (fun wr => w1 = wr) (fun _ => 0)
    case atStart => rfl
    case round =>
      subst hrel
      go_wp2_with fail
      first | exact hf | (refine bodyPost_ret (results_none rfl _ _ _) rfl ?_; exact hf)
  | false =>
    have hOh := Lib.hid hO
    clear hO
    obtain ⟨a0, a1, a2, a3, a4, a5, a6⟩ := (hl.node3 hi.out).2.2
    go_wp2_with fail
    replace hO := hOh.out
    clear hOh a0 a1 a2 a3 a4 a5 a6 hcc
    refine rstepL hO hK (reg_write_r B p false S1 rt me 0 _ hP hrt ⟨hm0, by omega⟩) ?_
    clear hO hK hP
    intro u o2 S2 w2 hlf _ hP hk hK hO
    replace hN := Nat.lt_of_le_of_lt hlf hN
    replace hl := hl.keep hk
    clear hk hlf
    have hOh := Lib.hid hO
    clear hO
    go_wp2_with fail
    go_loopw [] (fun wr => ∃ (n : Nat) (o3 : Bool) (S3 : TS), RAt B wr p o3 S3 ∧ KeepR B p w wr ∧ RegsAt [3, 4, 5] wr p b rs ∧ Hid (ROwes R encU B p w (arbSpin q1 rt 0 me n) o3 S3) ∧ (o3 = false → S3.left < n)) (fun wr => leftR wr p)
    case atStart => exact ⟨N, o2, S2, hP, hK, hl, hOh, fun _ => hN⟩
    case round =>
      clear hP hK hl hOh hN
      obtain ⟨n, o3, S3, hP, hK, hl, hO, hN⟩ := hrel
      replace hO := hO.out
      have hlw := Lib.hid hP.leftR
      obtain ⟨_, _, _, _, _, hcc⟩ := hP.cell
      cases o3 with
      | true =>
        have hf : R (.returned (encU ())) wr := hO.over () hP hK
        clear hO hP hK hN
        go_wp2_with fail
        first | exact hf | (refine bodyPost_ret (results_none rfl _ _ _) rfl ?_; exact hf)
      | false =>
        have hN := hN rfl
        cases n with
        | zero => omega
        | succ n =>
          rw [arbSpin_succ] at hO
          have hOh := Lib.hid hO
          clear hO
          obtain ⟨a0, a1, a2, a3, a4, a5, a6⟩ := (hl.node3 hi.out).2.1
          go_wp2_with fail
          replace hO := hOh.out
          clear hOh hcc a0 a1 a2 a3 a4 a5 a6
          refine rstepL hO hK (reg_read_r B p false S3 q1 me _ hP hq1 ⟨hm0, by omega⟩) ?_
          clear hO hK hP
          intro x o4 S4 w4 hlf hlt hP hk hK hO
          replace hl := hl.keep hk
          clear hk
          by_cases hx : x = 0
          · have dx : (x == 0) = true := by simpa using hx
            rw [if_pos hx] at hO
            have hf : R (.returned (encU ())) w4 := hO.ret hP hK
            clear hO hP hK hx
            go_wp2_with fail
            first | exact hf | (refine bodyPost_ret (results_none rfl _ _ _) rfl ?_; exact hf)
          · have dx : (x == 0) = false := by simpa using hx
            rw [if_neg hx] at hO
            clear hx
            obtain ⟨_, _, _, _, _, hcc⟩ := hP.cell
            cases o4 with
            | true =>
              have hOh := Lib.hid (hO.any (arbSpin q1 rt 0 me n))
              have hlw2 := Lib.hid hP.leftR
              clear hO
              go_wp2_with fail
              refine ⟨⟨n, true, S4, hP, hK, hl, hOh, nofun⟩, ?_⟩
              rw [hlw.out, hlw2.out]
              simp
              omega
            | false =>
              have hlt := (hlt rfl).2 (asks_regR _ _ ht1)
              have hOh := Lib.hid hO
              clear hO
              obtain ⟨a0, a1, a2, a3, a4, a5, a6⟩ := (hl.node3 hi.out).2.2
              go_wp2_with fail
              replace hO := hOh.out
              clear hOh hcc a0 a1 a2 a3 a4 a5 a6
              refine rstepL hO hK (reg_read_r B p false S4 rt me _ hP hrt ⟨hm0, by omega⟩) ?_
              clear hO hK hP
              intro y o5 S5 w5 hlf2 _ hP hk hK hO
              replace hl := hl.keep hk
              clear hk
              by_cases hy : y = 0
              · have dy : (y != 0) = false := by simpa using hy
                rw [if_pos hy] at hO
                clear hy
                have hOh := Lib.hid hO
                have hlw2 := Lib.hid hP.leftR
                clear hO
                go_wp2_with fail
                refine ⟨⟨n, o5, S5, hP, hK, hl, hOh, fun _ => by omega⟩, ?_⟩
                rw [hlw.out, hlw2.out]
                cases o5 <;> simp <;> omega
              · have dy : (y != 0) = true := by simpa using hy
                rw [if_neg hy] at hO
                have hf : R (.returned (encU ())) w5 := hO.ret hP hK
                clear hO hP hK hy
                go_wp2_with fail
                first | exact hf | (refine bodyPost_ret (results_none rfl _ _ _) rfl ?_; exact hf)
set_option maxRecDepth 100000 in
set_option maxHeartbeats 1000000 in
theorem darbn_enter_r1 (B p N : Nat) (o : Bool) (S : TS) (q0 q1 rt : Reg) (side me : Int) (b c k : Nat) (rs : List Reg) (w : World) (h : RAt B w p o S) (hl : RegsAt [3, 4, 5] w p b rs) (hi : rs[k]? = some q0 ∧ rs[k + 1]? = some q1 ∧ rs[k + 2]? = some rt) (hq0 : q0.ok) (hq1 : q1.ok) (hrt : rt.ok)
    (hm0 : 0 ≤ me) (hm1 : me < q0.n) (hm2 : me < q1.n) (hm3 : me < rt.n) (ht1 : q0.told me) (hN : S.left < N) (hs : bitM side = 1) :
    Calls Tryz.prog 266 #[.pointer (some ⟨p, 0, none⟩), .slice (some ⟨b, k * 7, none⟩) 3 c, .int .i64 side, .int .i64 me] w (RPost encU B p w (arbEnter N q1 q0 rt 1 me) o S) := by
  generalize hR : RPost encU B p w (arbEnter N q1 q0 rt 1 me) o S = R
  have hO : ROwes R encU B p w (arbEnter N q1 q0 rt 1 me) o S := hR ▸ rowes _ _ _ _ _ _ _
  clear hR
  have hK := Keep.refl [3, 4, 5] B p w
  have hP := h
  clear h
  unfold arbEnter at hO
  replace hi := Lib.hid hi
  have hb := bit_r side w
  rw [hs] at hb
  clear hs
  go_enter Tryz.func266, Tryz.ntmps266
  go_wp2_with fail
  refine hb.mono ?_
  rintro e w' ⟨rfl, rfl⟩
  clear hb
  have hOh := Lib.hid hO
  clear hO
  obtain ⟨a0, a1, a2, a3, a4, a5, a6⟩ := (hl.node3 hi.out).2.1
  go_wp2_with fail
  replace hO := hOh.out
  clear hOh a0 a1 a2 a3 a4 a5 a6
  refine rstepL hO hK (reg_write_r B p o S q1 me 1 _ hP hq1 ⟨hm0, by omega⟩) ?_
  clear hO hK hP
  intro u o1 S1 w1 hlf _ hP hk hK hO
  replace hN := Nat.lt_of_le_of_lt hlf hN
  replace hl := hl.keep hk
  clear hk hlf
  obtain ⟨_, _, _, _, _, hcc⟩ := hP.cell
  cases o1 with
  | true =>
    have hf : R (.returned (encU ())) w1 := hO.over () hP hK
    have hPh := Lib.hid hP
    clear hO hP hK
    go_wp2_with fail
    go_loopw [] (fun wr => w1 = wr) (fun _ => 0)
    case atStart => rfl
    case round =>
      subst hrel
      go_wp2_with fail
      first | exact hf | (refine bodyPost_ret (results_none rfl _ _ _) rfl ?_; exact hf)
  | false =>
    have hOh := Lib.hid hO
    clear hO
    obtain ⟨a0, a1, a2, a3, a4, a5, a6⟩ := (hl.node3 hi.out).2.2
    go_wp2_with fail
    replace hO := hOh.out
    clear hOh a0 a1 a2 a3 a4 a5 a6 hcc
    refine rstepL hO hK (reg_write_r B p false S1 rt me 1 _ hP hrt ⟨hm0, by omega⟩) ?_
    clear hO hK hP
    intro u o2 S2 w2 hlf _ hP hk hK hO
    replace hN := Nat.lt_of_le_of_lt hlf hN
    replace hl := hl.keep hk
    clear hk hlf
    have hOh := Lib.hid hO
    clear hO
    go_wp2_with fail
    go_loopw [] (fun wr => ∃ (n : Nat) (o3 : Bool) (S3 : TS), RAt B wr p o3 S3 ∧ KeepR B p w wr ∧ RegsAt [3, 4, 5] wr p b rs ∧ Hid (ROwes R encU B p w (arbSpin q0 rt 1 me n) o3 S3) ∧ (o3 = false → S3.left < n)) (fun wr => leftR wr p)
    case atStart => exact ⟨N, o2, S2, hP, hK, hl, hOh, fun _ => hN⟩
    case round =>
      clear hP hK hl hOh hN
      obtain ⟨n, o3, S3, hP, hK, hl, hO, hN⟩ := hrel
      replace hO := hO.out
      have hlw := Lib.hid hP.leftR
      obtain ⟨_, _, _, _, _, hcc⟩ := hP.cell
      cases o3 with
      | true =>
        have hf : R (.returned (encU ())) wr := hO.over () hP hK
        clear hO hP hK hN
        go_wp2_with fail
        first | exact hf | (refine bodyPost_ret (results_none rfl _ _ _) rfl ?_; exact hf)
      | false =>
        have hN := hN rfl
        cases n with
        | zero => omega
        | succ n =>
          rw [arbSpin_succ] at hO
          have hOh := Lib.hid hO
          clear hO
          obtain ⟨a0, a1, a2, a3, a4, a5, a6⟩ := (hl.node3 hi.out).1
          go_wp2_with fail
          replace hO := hOh.out
          clear hOh hcc a0 a1 a2 a3 a4 a5 a6
          refine rstepL hO hK (reg_read_r B p false S3 q0 me _ hP hq0 ⟨hm0, by omega⟩) ?_
          clear hO hK hP
          intro x o4 S4 w4 hlf hlt hP hk hK hO
          replace hl := hl.keep hk
          clear hk
          by_cases hx : x = 0
          · have dx : (x == 0) = true := by simpa using hx
            rw [if_pos hx] at hO
            have hf : R (.returned (encU ())) w4 := hO.ret hP hK
            clear hO hP hK hx
            go_wp2_with fail
            first | exact hf | (refine bodyPost_ret (results_none rfl _ _ _) rfl ?_; exact hf)
          · have dx : (x == 0) = false := by simpa using hx
            rw [if_neg hx] at hO
            clear hx
            obtain ⟨_, _, _, _, _, hcc⟩ := hP.cell
            cases o4 with
            | true =>
              have hOh := Lib.hid (hO.any (arbSpin q0 rt 1 me n))
              have hlw2 := Lib.hid hP.leftR
              clear hO
              go_wp2_with fail
              refine ⟨⟨n, true, S4, hP, hK, hl, hOh, nofun⟩, ?_⟩
              rw [hlw.out, hlw2.out]
              simp
              omega
            | false =>
              have hlt := (hlt rfl).2 (asks_regR _ _ ht1)
              have hOh := Lib.hid hO
              clear hO
              obtain ⟨a0, a1, a2, a3, a4, a5, a6⟩ := (hl.node3 hi.out).2.2
              go_wp2_with fail
              replace hO := hOh.out
              clear hOh hcc a0 a1 a2 a3 a4 a5 a6
              refine rstepL hO hK (reg_read_r B p false S4 rt me _ hP hrt ⟨hm0, by omega⟩) ?_
              clear hO hK hP
              intro y o5 S5 w5 hlf2 _ hP hk hK hO
              replace hl := hl.keep hk
              clear hk
              by_cases hy : y = 1
              · have dy : (y != 1) = false := by simpa using hy
                rw [if_pos hy] at hO
                clear hy
                have hOh := Lib.hid hO
                have hlw2 := Lib.hid hP.leftR
                clear hO
                go_wp2_with fail
                refine ⟨⟨n, o5, S5, hP, hK, hl, hOh, fun _ => by omega⟩, ?_⟩
                rw [hlw.out, hlw2.out]
                cases o5 <;> simp <;> omega
              · have dy : (y != 1) = true := by simpa using hy
                rw [if_neg hy] at hO
                have hf : R (.returned (encU ())) w5 := hO.ret hP hK
                clear hO hP hK hy
                go_wp2_with fail
                first | exact hf | (refine bodyPost_ret (results_none rfl _ _ _) rfl ?_; exact hf)
theorem darbn_enter_r (B p N : Nat) (o : Bool) (S : TS) (q0 q1 rt : Reg) (side me : Int) (b c k : Nat) (rs : List Reg) (w : World) (h : RAt B w p o S) (hl : RegsAt [3, 4, 5] w p b rs) (hi : rs[k]? = some q0 ∧ rs[k + 1]? = some q1 ∧ rs[k + 2]? = some rt) (hq0 : q0.ok) (hq1 : q1.ok) (hrt : rt.ok)
    (hm0 : 0 ≤ me) (hm1 : me < q0.n) (hm2 : me < q1.n) (hm3 : me < rt.n) (ht0 : q0.told me) (ht1 : q1.told me) (hN : S.left < N) :
    Calls Tryz.prog 266 #[.pointer (some ⟨p, 0, none⟩), .slice (some ⟨b, k * 7, none⟩) 3 c, .int .i64 side, .int .i64 me] w (RPost encU B p w (arbM N q0 q1 rt side me) o S) := by
  unfold arbM
  rcases bitM_or side with hs | hs
  · rw [if_neg (by omega)]
    exact darbn_enter_r0 B p N o S q0 q1 rt side me b c k rs w h hl hi hq0 hq1 hrt hm0 hm1 hm2 hm3 ht1 hN hs
  · rw [if_pos hs]
    exact darbn_enter_r1 B p N o S q0 q1 rt side me b c k rs w h hl hi hq0 hq1 hrt hm0 hm1 hm2 hm3 ht0 hN hs
theorem darbn_leave_r (B p : Nat) (o : Bool) (S : TS) (q0 q1 rt : Reg) (side me : Int) (b c k : Nat) (rs : List Reg) (w : World) (h : RAt B w p o S) (hl : RegsAt [3, 4, 5] w p b rs) (hi : rs[k]? = some q0 ∧ rs[k + 1]? = some q1 ∧ rs[k + 2]? = some rt) (hq0 : q0.ok) (hq1 : q1.ok)
    (hm0 : 0 ≤ me) (hm1 : me < q0.n) (hm2 : me < q1.n) :
    Calls Tryz.prog 271 #[.pointer (some ⟨p, 0, none⟩), .slice (some ⟨b, k * 7, none⟩) 3 c, .int .i64 side, .int .i64 me] w (RPost encU B p w (kesL q0 q1 side me) o S) := by
  have hb := bit_r side w
  unfold kesL
  replace hi := Lib.hid hi
  rcases bitM_or side with hs | hs
  · rw [hs] at hb ⊢
    rw [if_neg (by omega)]
    have hz := reg_write_r B p o S q0 me 0 w h hq0 ⟨hm0, by omega⟩
    generalize hR : RPost encU B p w (regW q0 me 0) o S = R
    have hO : ROwes R encU B p w (regW q0 me 0) o S := hR ▸ rowes _ _ _ _ _ _ _
    clear hR
    go_enter Tryz.func271, Tryz.ntmps271
    go_wp2_with fail
    refine hb.mono ?_
    rintro e w' ⟨rfl, rfl⟩
    obtain ⟨a0, a1, a2, a3, a4, a5, a6⟩ := (hl.node3 hi.out).1
    go_wp2_with fail
    clear a0 a1 a2 a3 a4 a5 a6 hl hb
    refine hz.mono fun e w' hp => ?_
    have hf := hO e w' hp
    obtain ⟨a, o', S', rfl, _⟩ := hp
    clear hO hz h
    go_wp2_with fail
    first | exact hf | (refine bodyPost_ret (results_none rfl _ _ _) rfl ?_; exact hf)
  · rw [hs] at hb ⊢
    rw [if_pos rfl]
    have hz := reg_write_r B p o S q1 me 0 w h hq1 ⟨hm0, by omega⟩
    generalize hR : RPost encU B p w (regW q1 me 0) o S = R
    have hO : ROwes R encU B p w (regW q1 me 0) o S := hR ▸ rowes _ _ _ _ _ _ _
    clear hR
    go_enter Tryz.func271, Tryz.ntmps271
    go_wp2_with fail
    refine hb.mono ?_
    rintro e w' ⟨rfl, rfl⟩
    obtain ⟨a0, a1, a2, a3, a4, a5, a6⟩ := (hl.node3 hi.out).2.1
    go_wp2_with fail
    clear a0 a1 a2 a3 a4 a5 a6 hl hb
    refine hz.mono fun e w' hp => ?_
    have hf := hO e w' hp
    obtain ⟨a, o', S', rfl, _⟩ := hp
    clear hO hz h
    go_wp2_with fail
    first | exact hf | (refine bodyPost_ret (results_none rfl _ _ _) rfl ?_; exact hf)
end Go.Proofs.YtbaajjkopdjbgaaGreat
/-
  The splitter: what any thread does that passes it is the document's, access by access.
-/
namespace Go.Proofs.YtbaajjkopdjbgaaGreat
open Go.RowKit Kv
/-- Registers that lay there ahead of a play. -/
theorem regsP {w0 w1 : World} {B p b : Nat} {S : TS} {rs : List Reg} (hb : b < w0.heap.size) (hc : ∀ (i : Nat) u, (rs.flatMap regVals)[i]? = some u → w0.cell? ⟨b, i, none⟩ = some u) (hx : Ext w0 w1) (hP : Plays B w1 p S) (hB : w0.heap.size ≤ B) : RegsAt [2, 3, 4] w1 p b rs := by
  refine ⟨Nat.lt_of_lt_of_le hb hx.size, fun ho => ?_, fun j u hu => (hx.cell (p := ⟨b, j, none⟩) hb).trans (hc j u hu)⟩
  obtain ⟨_, _, _, _, _, _, h⟩ := hP
  have := (h.own ho).1
  omega
theorem regsR {w0 w1 : World} {B p b : Nat} {o : Bool} {S : TS} {rs : List Reg} (hb : b < w0.heap.size) (hc : ∀ (i : Nat) u, (rs.flatMap regVals)[i]? = some u → w0.cell? ⟨b, i, none⟩ = some u) (hx : Ext w0 w1) (hP : RAt B w1 p o S) (hB : w0.heap.size ≤ B) : RegsAt [3, 4, 5] w1 p b rs := by
  refine ⟨Nat.lt_of_lt_of_le hb hx.size, fun ho => ?_, fun j u hu => (hx.cell (p := ⟨b, j, none⟩) hb).trans (hc j u hu)⟩
  obtain ⟨_, _, _, _, _, _, h, _⟩ := hP
  have := (h.own ho).1
  omega
theorem ints_new (w : World) (l : List Int) (h : l.length ≤ 9223372036854775807) : Ints (w.alloc (.cells (l.map (Value.int .i64)).toArray 3)) (.slice (some ⟨w.heap.size, 0, none⟩) l.length l.length) l := by
  refine ⟨_, _, rfl, Nat.le_refl _, h, fun _ => ⟨w.heap.size, 0, rfl, by simp, fun i x hi => ?_⟩⟩
  have hh := World.alloc_heap_new w (.cells (l.map (Value.int .i64)).toArray 3)
  simp only [World.cell?, hh, Nat.zero_add]
  simp [hi]
/-- An Out's parts. -/
theorem Outs.parts {w : World} {v : Value} {d : Bool} {S : TS} (h : Outs w v d S) : ∃ A c A' c' As k n, v = .agg #[.bool d, .slice A S.acc.length c, .slice A' S.nts.length c', .slice As n k] := by
  obtain ⟨A, c, A', c', vs, L, rfl, hO⟩ := h
  obtain ⟨As, k, rfl, _, _⟩ := hO.locs.slice
  exact ⟨A, c, A', c', As, k, _, rfl⟩
def ra : Reg := ⟨1, 3, 2, 3, -1, -1, 3⟩
def rb : Reg := ⟨1, 4, 2, 3, -1, -1, 1⟩
end Go.Proofs.YtbaajjkopdjbgaaGreat
/-
  Kessels: what the law plays.
-/
namespace Go.Proofs.YtbaajjkopdjbgaaGreat
open Go.RowKit Kv
theorem kwants_p (w : World) : Calls Tryz.prog 232 #[] w fun e w' => ∃ v, e = .returned v ∧ WantsAt w' v (List.replicate 4 ⟨-1, 1⟩) ∧ Ext w w' := by
  go_enter Tryz.func232, Tryz.ntmps232
  go_wp2_with fail
  go_loopw [1, 2] (fun v i wr => ∃ j : Nat, i = .int .i64 j ∧ j ≤ 4 ∧ wr.ownsRow w.heap.size 179 2 v j ((List.replicate j (⟨-1, 1⟩ : Want)).flatMap wantVals) ∧ Ext w wr) (fun _ i _ => 4 - (intOf i).toNat)
  case atStart => exact ⟨0, rfl, by omega, World.ownsRow_nil _ _ _ _, Ext.refl _⟩
  case round =>
    obtain ⟨j, rfl, hj, hown, hE⟩ := hrel
    by_cases hl : j < 4
    · go_wp2_with (at_builtin; refine append_rec info_want Tryz.underlying102 rfl (by decide) (by decide) rfl _ _ rfl _ j _ [.int .i64 (-1), .int .i64 1] hE hown rfl rfl rfl (by simp [Value.oneCell']) (by omega) ?_)
      intro v' w' ho hx _
      have hoh := Lib.hid ho
      clear hown ho
      go_wp2_with fail
      refine ⟨⟨j + 1, by go_num, by omega, ?_, hx⟩, ?_⟩
      · rw [List.replicate_succ', List.flatMap_append]; exact hoh.out
      · simp [intOf]; omega
    · obtain rfl : j = 4 := by omega
      have hownh := Lib.hid hown
      clear hown
      go_wp2_with fail
      go_ret
      exact ⟨_, rfl, Recs.of_row hownh.out, hE⟩
end Go.Proofs.YtbaajjkopdjbgaaGreat
/-
  Trees of locks of two sides: plain mathematics, and the program's pure parts.
-/
namespace Kv
/-- The nodes above a place, the lowest first. -/
def pathN : Nat → Nat → List Int
  | 0, _ => []
  | f + 1, x => if x ≤ 1 then [] else (x : Int) :: pathN f (x / 2)
theorem pathN_fuel : ∀ (f g x : Nat), x ≤ f → x ≤ g → pathN f x = pathN g x
  | 0, 0, x, _, _ => rfl
  | 0, g + 1, x, h, _ => by unfold pathN; rw [if_pos (by omega)]
  | f + 1, 0, x, _, h => by unfold pathN; rw [if_pos (by omega)]
  | f + 1, g + 1, x, h1, h2 => by
    unfold pathN
    split
    · rfl
    · rw [pathN_fuel f g (x / 2) (by omega) (by omega)]
theorem pathN_cons {x : Nat} (h : 1 < x) : pathN x x = (x : Int) :: pathN (x / 2) (x / 2) := by
  obtain ⟨y, rfl⟩ : ∃ y, x = y + 1 := ⟨x - 1, by omega⟩
  rw [show pathN (y + 1) (y + 1) = (if y + 1 ≤ 1 then [] else ((y + 1 : Nat) : Int) :: pathN y ((y + 1) / 2)) from rfl, if_neg (by omega), pathN_fuel y ((y + 1) / 2) _ (by omega) (by omega)]
theorem pathN_nil {x : Nat} (h : x ≤ 1) : pathN x x = [] := by
  cases x with
  | zero => rfl
  | succ x => rw [show pathN (x + 1) (x + 1) = (if x + 1 ≤ 1 then [] else ((x + 1 : Nat) : Int) :: pathN x ((x + 1) / 2)) from rfl, if_pos h]
theorem pathN_len : ∀ (f x : Nat), (pathN f x).length ≤ f
  | 0, _ => by simp [pathN]
  | f + 1, x => by
    unfold pathN
    split
    · simp
    · have := pathN_len f (x / 2)
      simp; omega
/-- The nodes above a place of a tree of so many places. -/
def pathL (m place : Nat) : List Int := pathN (2 ^ levels m + place) (2 ^ levels m + place)
theorem lev_le {m : Nat} (h : m ≤ 64) : levels m ≤ 6 := by
  have : ∀ m : Nat, m < 65 → levels m ≤ 6 := by decide +kernel
  exact this m (by omega)
theorem pow_le {k : Nat} (h : k ≤ 6) : 1 ≤ 2 ^ k ∧ 2 ^ k ≤ 64 := by
  have : ∀ k : Nat, k < 7 → 1 ≤ 2 ^ k ∧ 2 ^ k ≤ 64 := by decide
  exact this k (by omega)
end Kv
namespace Go.Proofs.YtbaajjkopdjbgaaGreat
open Go.RowKit Kv
set_option maxRecDepth 100000 in
set_option maxHeartbeats 1000000 in
theorem path_p (m place : Nat) (w : World) (h1 : 1 ≤ m) (h2 : m ≤ 64) (h3 : place < m) :
    Calls Tryz.prog 172 #[.int .i64 m, .int .i64 place] w fun e w' => ∃ v, e = .returned v ∧ IntRow w' w.heap.size v (pathL m place) ∧ Ext w w' := by
  have hlv := fun w => levels_p m (by omega) w
  have hle := lev_le h2
  unfold pathL
  generalize levels m = L at *
  obtain ⟨p1, p2⟩ := pow_le hle
  have hPi : (2 : Int) ^ L = ((2 ^ L : Nat) : Int) := by rw [Int.natCast_pow]; rfl
  generalize 2 ^ L = P at *
  have hsh : Op.shift .shl .i64 1 .i64 (L : Int) = pure (.int .i64 (P : Int)) := by
    rw [Go.shift_shl_i64 (x := 1) (y := (L : Int)) (yk := .i64) (by omega) (by omega), Int.one_mul, Int.toNat_natCast, hPi, IntWalk.i64_in _ (by omega)]
  clear hPi hle
  have d1 : decide ((m : Int) < 1) = false := by rw [decide_eq_false_iff_not]; omega
  have d2 : decide ((64 : Int) < (m : Int)) = false := by rw [decide_eq_false_iff_not]; omega
  have d3 : decide ((place : Int) < 0) = false := by rw [decide_eq_false_iff_not]; omega
  have d4 : decide (m ≤ place) = false := by rw [decide_eq_false_iff_not]; omega
  obtain ⟨X, hX⟩ : ∃ X : Nat, P + place = X := ⟨_, rfl⟩
  rw [hX]
  have hw : IntKind.i64.wrap ((P : Int) + (place : Int)) = (X : Int) := by rw [IntWalk.i64_in _ (by omega)]; omega
  go_enter Tryz.func172, Tryz.ntmps172
  go_wp2_with fail
  refine (hlv _).mono ?_
  rintro e w' ⟨rfl, rfl⟩
  go_wp2_with fail
  go_loopw [5, 6] (fun v i wr => ∃ (x : Nat) (l : List Int), i = .int .i64 x ∧ x ≤ 128 ∧ l.length + x ≤ X ∧ IntRow wr w.heap.size v l ∧ Hid (l ++ pathN x x = pathN X X) ∧ Ext w wr) (fun _ i _ => (intOf i).toNat)
  case atStart => exact ⟨X, [], rfl, by omega, by simp, IntRow.nil _ _, Lib.hid rfl, Ext.refl w⟩
  case round =>
    obtain ⟨x, l, rfl, hx, hln, hown, hpath, hE⟩ := hrel
    by_cases hx1 : 1 < x
    · have e1 : decide ((1 : Int) < (x : Int)) = true := by rw [decide_eq_true_eq]; omega
      go_wp2_with (at_builtin; refine append_int rfl _ _ rfl w.heap.size _ l x hown rfl rfl (by omega) hE.size ?_)
      intro v' w' ho hg
      have hx' := hE.appended hown hg
      have hoh := Lib.hid ho
      have hp2 : Hid ((l ++ [(x : Int)]) ++ pathN (x / 2) (x / 2) = pathN X X) := Lib.hid (by rw [← hpath.out, pathN_cons hx1, List.append_assoc]; rfl)
      clear hown ho hg hpath hE
      go_wp2_with fail
      refine ⟨⟨x / 2, l ++ [(x : Int)], by go_num, by omega, by simp; omega, hoh.out, hp2, hx'⟩, ?_⟩
      simp [intOf]; omega
    · have e1 : decide ((1 : Int) < (x : Int)) = false := by rw [decide_eq_false_iff_not]; omega
      have hp := hpath.out
      rw [pathN_nil (by omega), List.append_nil] at hp
      have hf := Lib.hid hown
      subst hp
      clear hown hpath
      go_wp2_with fail
      go_ret
      exact ⟨_, rfl, hf.out, hE⟩
end Go.Proofs.YtbaajjkopdjbgaaGreat
/-
  Trees of locks of two sides: nodes, wants and registers, by the program.
-/
namespace Go.Proofs.YtbaajjkopdjbgaaGreat
open Go.RowKit Kv
def fnV (n : Nat) : Value := .func (.func n) #[] #[]
/-- How many registers a node of a kind of tree has. -/
def eachK (kind : Int) : Nat := if kind = 7 then 4 else 3
def nodeV (kind : Int) : Value := if kind = 7 then .agg #[fnV 232, fnV 233, fnV 234] else .agg #[fnV 235, fnV 236, fnV 237]
set_option maxRecDepth 100000 in
theorem nodeOf_p (kind : Int) (w : World) : Calls Tryz.prog 171 #[.int .i64 kind] w fun e w' => e = .returned (nodeV kind) ∧ Ext w w' := by
  unfold nodeV
  by_cases h : kind = 7
  · have d : (kind == 7) = true := by simpa using h
    rw [if_pos h]
    clear h
    go_enter Tryz.func171, Tryz.ntmps171
    go_wp2_with fail
    refine bodyPost_ret (v := .agg #[fnV 232, fnV 233, fnV 234]) (by simp [results, Tryz.results171, go_sem, fnV]) rfl ?_
    exact ⟨rfl, (Ext.refl w).alloc _⟩
  · have d : (kind == 7) = false := by simpa using h
    rw [if_neg h]
    clear h
    go_enter Tryz.func171, Tryz.ntmps171
    go_wp2_with fail
    refine bodyPost_ret (v := .agg #[fnV 235, fnV 236, fnV 237]) (by simp [results, Tryz.results171, go_sem, fnV]) rfl ?_
    exact ⟨rfl, (Ext.refl w).alloc _⟩
theorem wants_node (kind : Int) (w : World) : ∃ n, ((kind = 7 ∧ n = 232) ∨ (kind ≠ 7 ∧ n = 235)) ∧ Calls Tryz.prog n #[] w fun e w' => ∃ v, e = .returned v ∧ WantsAt w' v (List.replicate (eachK kind) ⟨-1, 1⟩) ∧ Ext w w' := by
  unfold eachK
  by_cases h : kind = 7
  · rw [if_pos h]
    exact ⟨_, .inl ⟨h, rfl⟩, kwants_p w⟩
  · rw [if_neg h]
    exact ⟨_, .inr ⟨h, rfl⟩, awants_p w⟩
end Go.Proofs.YtbaajjkopdjbgaaGreat
