/-
  Peterson's lock of two sides at a node of a tree: entering and leaving, by the program.
-/
import Derived.Test.YtpcohbpeglledaaGreatJTreePlaysSaid0
/-
  Peterson's lock of two sides at a node of a tree: entering and leaving, by the program.
-/
namespace Go.Proofs.YtpcohbpeglledaaGreat
open Go.RowKit Kv
theorem RegsAt.node3 {ix : List Nat} {p b k : Nat} {w : World} {rs : List Reg} {x y z : Reg} (h : RegsAt ix w p b rs) (hi : rs[k]? = some x ∧ rs[k + 1]? = some y ∧ rs[k + 2]? = some z) :
    RegCells w b (k * 7) x ∧ RegCells w b (k * 7 + 7) y ∧ RegCells w b (k * 7 + 14) z := by
  have h1 := h.nth hi.2.1
  have h2 := h.nth hi.2.2
  rw [show (k + 1) * 7 = k * 7 + 7 from by omega] at h1
  rw [show (k + 2) * 7 = k * 7 + 14 from by omega] at h2
  exact ⟨h.nth hi.1, h1, h2⟩
set_option maxRecDepth 100000 in
set_option maxHeartbeats 1000000 in
theorem arbn_enter_p0 (B p N : Nat) (S : TS) (q0 q1 rt : Reg) (side me : Int) (b c k : Nat) (rs : List Reg) (w : World) (h : Plays B w p S) (hl : RegsAt [2, 3, 4] w p b rs) (hi : rs[k]? = some q0 ∧ rs[k + 1]? = some q1 ∧ rs[k + 2]? = some rt) (hq0 : q0.ok) (hq1 : q1.ok) (hrt : rt.ok)
    (hm0 : 0 ≤ me) (hm1 : me < q0.n) (hm2 : me < q1.n) (hm3 : me < rt.n) (ht1 : q1.told me) (hN : S.left < N) (hs : bitM side = 0) :
    Calls Tryz.prog 180 #[.pointer (some ⟨p, 0, none⟩), .slice (some ⟨b, k * 7, none⟩) 3 c, .int .i64 side, .int .i64 me] w (Post encU B p w ((arbEnter N q0 q1 rt 0 me).run S)) := by
  generalize hR : Post encU B p w ((arbEnter N q0 q1 rt 0 me).run S) = R
  have hO : Owes R encU B p w ((arbEnter N q0 q1 rt 0 me).run S) := hR ▸ owes _ _ _ _ _
  clear hR
  replace hi := Lib.hid hi
  have hP := h
  clear h
  unfold arbEnter at hO
  have hb := abit_p side
  rw [hs] at hb
  clear hs
  have hS : ∀ w', RegsAt [2, 3, 4] w' p b rs → ((w'.cell? ⟨b, k * 7, none⟩ = some (.int .i64 q0.kind) ∧ w'.cell? ⟨b, k * 7 + 1, none⟩ = some (.int .i64 q0.base) ∧ w'.cell? ⟨b, k * 7 + 2, none⟩ = some (.int .i64 q0.loc) ∧ w'.cell? ⟨b, k * 7 + 3, none⟩ = some (.int .i64 q0.n) ∧ w'.cell? ⟨b, k * 7 + 4, none⟩ = some (.int .i64 q0.wr) ∧ w'.cell? ⟨b, k * 7 + 5, none⟩ = some (.int .i64 q0.rd) ∧ w'.cell? ⟨b, k * 7 + 6, none⟩ = some (.int .i64 q0.top)) ∧ (w'.cell? ⟨b, k * 7 + 7, none⟩ = some (.int .i64 q1.kind) ∧ w'.cell? ⟨b, k * 7 + 7 + 1, none⟩ = some (.int .i64 q1.base) ∧ w'.cell? ⟨b, k * 7 + 7 + 2, none⟩ = some (.int .i64 q1.loc) ∧ w'.cell? ⟨b, k * 7 + 7 + 3, none⟩ = some (.int .i64 q1.n) ∧ w'.cell? ⟨b, k * 7 + 7 + 4, none⟩ = some (.int .i64 q1.wr) ∧ w'.cell? ⟨b, k * 7 + 7 + 5, none⟩ = some (.int .i64 q1.rd) ∧ w'.cell? ⟨b, k * 7 + 7 + 6, none⟩ = some (.int .i64 q1.top)) ∧ (w'.cell? ⟨b, k * 7 + 14, none⟩ = some (.int .i64 rt.kind) ∧ w'.cell? ⟨b, k * 7 + 14 + 1, none⟩ = some (.int .i64 rt.base) ∧ w'.cell? ⟨b, k * 7 + 14 + 2, none⟩ = some (.int .i64 rt.loc) ∧ w'.cell? ⟨b, k * 7 + 14 + 3, none⟩ = some (.int .i64 rt.n) ∧ w'.cell? ⟨b, k * 7 + 14 + 4, none⟩ = some (.int .i64 rt.wr) ∧ w'.cell? ⟨b, k * 7 + 14 + 5, none⟩ = some (.int .i64 rt.rd) ∧ w'.cell? ⟨b, k * 7 + 14 + 6, none⟩ = some (.int .i64 rt.top))) := fun w' y => by
    obtain ⟨⟨a0, a1, a2, a3, a4, a5, a6⟩, ⟨e0, e1, e2, e3, e4, e5, e6⟩, ⟨f0, f1, f2, f3, f4, f5, f6⟩⟩ := y.node3 hi.out
    exact ⟨⟨a0, a1, a2, a3, a4, a5, a6⟩, ⟨e0, e1, e2, e3, e4, e5, e6⟩, ⟨f0, f1, f2, f3, f4, f5, f6⟩⟩
  go_enter Tryz.func180, Tryz.ntmps180
  go_wp2_with fail
  have hOh := Lib.hid hO
  have hbh := Lib.hid hb
  clear hO hb
  go_upto_region 1 with fail
  go_cut [8, 9] (fun s8 s9 wx => ∃ (x y : Nat), s8 = .pointer (some ⟨x, 0, none⟩) ∧ s9 = .pointer (some ⟨y, 0, none⟩) ∧ HeldP wx p x (.cells #[.int .i64 q0.kind, .int .i64 q0.base, .int .i64 q0.loc, .int .i64 q0.n, .int .i64 q0.wr, .int .i64 q0.rd, .int .i64 q0.top, .int .i64 q1.kind, .int .i64 q1.base, .int .i64 q1.loc, .int .i64 q1.n, .int .i64 q1.wr, .int .i64 q1.rd, .int .i64 q1.top] 155) ∧ HeldP wx p y (.cells #[.int .i64 rt.kind, .int .i64 rt.base, .int .i64 rt.loc, .int .i64 rt.n, .int .i64 rt.wr, .int .i64 rt.rd, .int .i64 rt.top] 77) ∧ Plays B wx p S ∧ KeepP B p w wx ∧ RegsAt [2, 3, 4] wx p b rs)
  case first =>
    have hl2 := hl.extL (Ext.refl w).drew hP.lt
    obtain ⟨⟨a0, a1, a2, a3, a4, a5, a6⟩, ⟨e0, e1, e2, e3, e4, e5, e6⟩, ⟨f0, f1, f2, f3, f4, f5, f6⟩⟩ := hl.node3 hi.out
    go_region_held2 (fun w' => ((w'.cell? ⟨b, k * 7, none⟩ = some (.int .i64 q0.kind) ∧ w'.cell? ⟨b, k * 7 + 1, none⟩ = some (.int .i64 q0.base) ∧ w'.cell? ⟨b, k * 7 + 2, none⟩ = some (.int .i64 q0.loc) ∧ w'.cell? ⟨b, k * 7 + 3, none⟩ = some (.int .i64 q0.n) ∧ w'.cell? ⟨b, k * 7 + 4, none⟩ = some (.int .i64 q0.wr) ∧ w'.cell? ⟨b, k * 7 + 5, none⟩ = some (.int .i64 q0.rd) ∧ w'.cell? ⟨b, k * 7 + 6, none⟩ = some (.int .i64 q0.top)) ∧ (w'.cell? ⟨b, k * 7 + 7, none⟩ = some (.int .i64 q1.kind) ∧ w'.cell? ⟨b, k * 7 + 7 + 1, none⟩ = some (.int .i64 q1.base) ∧ w'.cell? ⟨b, k * 7 + 7 + 2, none⟩ = some (.int .i64 q1.loc) ∧ w'.cell? ⟨b, k * 7 + 7 + 3, none⟩ = some (.int .i64 q1.n) ∧ w'.cell? ⟨b, k * 7 + 7 + 4, none⟩ = some (.int .i64 q1.wr) ∧ w'.cell? ⟨b, k * 7 + 7 + 5, none⟩ = some (.int .i64 q1.rd) ∧ w'.cell? ⟨b, k * 7 + 7 + 6, none⟩ = some (.int .i64 q1.top)) ∧ (w'.cell? ⟨b, k * 7 + 14, none⟩ = some (.int .i64 rt.kind) ∧ w'.cell? ⟨b, k * 7 + 14 + 1, none⟩ = some (.int .i64 rt.base) ∧ w'.cell? ⟨b, k * 7 + 14 + 2, none⟩ = some (.int .i64 rt.loc) ∧ w'.cell? ⟨b, k * 7 + 14 + 3, none⟩ = some (.int .i64 rt.n) ∧ w'.cell? ⟨b, k * 7 + 14 + 4, none⟩ = some (.int .i64 rt.wr) ∧ w'.cell? ⟨b, k * 7 + 14 + 5, none⟩ = some (.int .i64 rt.rd) ∧ w'.cell? ⟨b, k * 7 + 14 + 6, none⟩ = some (.int .i64 rt.top)))) (first | with_reducible exact hS _ hl2 | go_keep) (fail)
    · rename_i hh
      clear hh
      obtain ⟨b1, b2, hP2, hK2, hl3⟩ := two_held hP hl (.cells #[.int .i64 q0.kind, .int .i64 q0.base, .int .i64 q0.loc, .int .i64 q0.n, .int .i64 q0.wr, .int .i64 q0.rd, .int .i64 q0.top, .int .i64 q1.kind, .int .i64 q1.base, .int .i64 q1.loc, .int .i64 q1.n, .int .i64 q1.wr, .int .i64 q1.rd, .int .i64 q1.top] 155) (.cells #[.int .i64 rt.kind, .int .i64 rt.base, .int .i64 rt.loc, .int .i64 rt.n, .int .i64 rt.wr, .int .i64 rt.rd, .int .i64 rt.top] 77)
      clear hS hl2 hl hP a0 a1 a2 a3 a4 a5 a6 e0 e1 e2 e3 e4 e5 e6 f0 f1 f2 f3 f4 f5 f6
      go_wp2_with fail
      go_meet
      exact ⟨_, _, rfl, rfl, b1, b2, hP2, hK2, hl3⟩
    · rename_i hh
      clear hh
      obtain ⟨b2, b1, hP2, hK2, hl3⟩ := two_held hP hl (.cells #[.int .i64 rt.kind, .int .i64 rt.base, .int .i64 rt.loc, .int .i64 rt.n, .int .i64 rt.wr, .int .i64 rt.rd, .int .i64 rt.top] 77) (.cells #[.int .i64 q0.kind, .int .i64 q0.base, .int .i64 q0.loc, .int .i64 q0.n, .int .i64 q0.wr, .int .i64 q0.rd, .int .i64 q0.top, .int .i64 q1.kind, .int .i64 q1.base, .int .i64 q1.loc, .int .i64 q1.n, .int .i64 q1.wr, .int .i64 q1.rd, .int .i64 q1.top] 155)
      clear hS hl2 hl hP a0 a1 a2 a3 a4 a5 a6 e0 e1 e2 e3 e4 e5 e6 f0 f1 f2 f3 f4 f5 f6
      go_wp2_with fail
      go_meet
      exact ⟨_, _, rfl, rfl, b1, b2, hP2, hK2, hl3⟩
  case rest =>
    clear hS hl hP
    obtain ⟨x, y, rfl, rfl, bx, bt, hP, hK, -⟩ := hcut
    go_wp2_with fail
    refine (hbh.out _).mono ?_
    rintro e w' ⟨rfl, rfl⟩
    have c_bx := bx.cells
    clear hbh
    have hPo := hP
    have bn := hP.held (.cells #[.int .i64 q1.kind, .int .i64 q1.base, .int .i64 q1.loc, .int .i64 q1.n, .int .i64 q1.wr, .int .i64 q1.rd, .int .i64 q1.top] 77)
    have hKn := hK.trans (Keep.alloc (.cells #[.int .i64 q1.kind, .int .i64 q1.base, .int .i64 q1.loc, .int .i64 q1.n, .int .i64 q1.wr, .int .i64 q1.rd, .int .i64 q1.top] 77) hP.lt hP.le)
    have hPn := hP.alloc (.cells #[.int .i64 q1.kind, .int .i64 q1.base, .int .i64 q1.loc, .int .i64 q1.n, .int .i64 q1.wr, .int .i64 q1.rd, .int .i64 q1.top] 77)
    have bxn := bx.alloc (.cells #[.int .i64 q1.kind, .int .i64 q1.base, .int .i64 q1.loc, .int .i64 q1.n, .int .i64 q1.wr, .int .i64 q1.rd, .int .i64 q1.top] 77) hP.lt
    have btn := bt.alloc (.cells #[.int .i64 q1.kind, .int .i64 q1.base, .int .i64 q1.loc, .int .i64 q1.n, .int .i64 q1.wr, .int .i64 q1.rd, .int .i64 q1.top] 77) hP.lt
    clear hP hK bx bt hPo
    have c_bxn := bxn.cells
    go_wp2_with fail
    clear c_bx c_bxn
    generalize hzn : wc.heap.size = z at *
    generalize wc.alloc _ = W at *
    clear hzn
    have hP := hPn
    have hK := hKn
    have bx := bxn
    have bt := btn
    clear hPn hKn bxn btn
    replace hO := hOh.out
    clear hOh
    refine tstepL hO hK (reg_write_p B p S q0 me 1 _ hP hq0 ⟨hm0, by omega⟩) (fun _ h => ⟨rfl, h⟩) ?_
    clear hO hK hP
    intro u S2 w2 hlf _ hP hk hK hO
    replace hN := Nat.lt_of_le_of_lt hlf hN
    replace bn := bn.keep hk
    replace bt := bt.keep hk
    have c_bt := bt.cells
    have hOh := Lib.hid hO
    clear hk hlf bx hO
    go_wp2_with fail
    replace hO := hOh.out
    clear hOh c_bt
    refine tstepL hO hK (reg_write_p B p S2 rt me 0 _ hP hrt ⟨hm0, hm3⟩) (fun _ h => ⟨rfl, h⟩) ?_
    clear hO hK hP
    intro u S3 w3 hlf _ hP hk hK hO
    replace hN := Nat.lt_of_le_of_lt hlf hN
    replace bn := bn.keep hk
    replace bt := bt.keep hk
    have hOh := Lib.hid hO
    clear hk hlf hO
    go_wp2_with fail
    go_loopw [] (fun wr => ∃ (n : Nat) (S4 : TS), Plays B wr p S4 ∧ KeepP B p w wr ∧ HeldP wr p z (.cells #[.int .i64 q1.kind, .int .i64 q1.base, .int .i64 q1.loc, .int .i64 q1.n, .int .i64 q1.wr, .int .i64 q1.rd, .int .i64 q1.top] 77) ∧ HeldP wr p y (.cells #[.int .i64 rt.kind, .int .i64 rt.base, .int .i64 rt.loc, .int .i64 rt.n, .int .i64 rt.wr, .int .i64 rt.rd, .int .i64 rt.top] 77) ∧ Hid (Owes R encU B p w ((arbSpin q1 rt 0 me n).run S4)) ∧ S4.left < n) (fun wr => leftW 1 3 wr p)
    case atStart => exact ⟨N, S3, hP, hK, bn, bt, hOh, hN⟩
    case round =>
      clear hP hK bn bt hOh hN
      obtain ⟨n, S4, hP, hK, bn, bt, hO, hN⟩ := hrel
      replace hO := hO.out
      have hlw := Lib.hid hP.left
      cases n with
      | zero => omega
      | succ n =>
        rw [arbSpin_succ] at hO
        have c_bn := bn.cells
        have hOh := Lib.hid hO
        clear hO
        go_wp2_with fail
        replace hO := hOh.out
        clear hOh c_bn
        refine tstepL hO hK (reg_read_p B p S4 q1 me _ hP hq1 ⟨hm0, by omega⟩) (fun _ h => ⟨rfl, h⟩) ?_
        clear hO hK hP
        intro v S5 w4 _ hlf hP hk hK hO
        replace hlf := hlf (asks_regR _ _ ht1)
        replace bn := bn.keep hk
        replace bt := bt.keep hk
        clear hk
        by_cases hv : v = 0
        · rw [if_pos hv] at hO
          subst hv
          have hf : R (.returned (encU ())) w4 := hO.done hP hK
          clear hO hP hK bn bt
          go_wp2_with fail
          first | exact hf | (refine bodyPost_ret (results_none rfl _ _ _) rfl ?_; exact hf)
        · rw [if_neg hv] at hO
          have hv2 : (v == 0) = false := by rw [beq_eq_false_iff_ne]; exact hv
          have c_bt := bt.cells
          have hOh := Lib.hid hO
          clear hv hO
          go_wp2_with fail
          replace hO := hOh.out
          clear hOh c_bt
          refine tstepL hO hK (reg_read_p B p S5 rt me _ hP hrt ⟨hm0, hm3⟩) (fun _ h => ⟨rfl, h⟩) ?_
          clear hO hK hP
          intro y0 S6 w5 hlf2 _ hP hk hK hO
          replace bn := bn.keep hk
          replace bt := bt.keep hk
          clear hk
          by_cases hy : y0 = 0
          · rw [if_pos hy] at hO
            have hy2 : (y0 != 0) = false := by simpa using hy
            have c_bn := bn.cells
            have hOh := Lib.hid hO
            clear hy hO
            go_wp2_with fail
            refine (cells_pm q1 me _ hq1 ht1 ⟨hm0, by omega⟩).mono ?_
            rintro e w6 ⟨cc, rfl, hcc, hx⟩
            replace bn := bn.ext hx hP.lt
            replace bt := bt.ext hx hP.lt
            replace hK := hK.trans (Keep.of_ext hx hP.lt hP.le)
            replace hP := hP.ext hx
            clear hx c_bn
            have hlw2 := Lib.hid hP.left
            go_wp2_with fail
            refine ⟨⟨n, S6, hP, hK, bn, bt, hOh, by omega⟩, ?_⟩
            rw [hlw.out, hlw2.out]
            omega
          · rw [if_neg hy] at hO
            have hy2 : (y0 != 0) = true := by simpa using hy
            have hf : R (.returned (encU ())) w5 := hO.done hP hK
            clear hO hP hK bn bt hy
            go_wp2_with fail
            first | exact hf | (refine bodyPost_ret (results_none rfl _ _ _) rfl ?_; exact hf)
set_option maxRecDepth 100000 in
set_option maxHeartbeats 1000000 in
theorem arbn_enter_p1 (B p N : Nat) (S : TS) (q0 q1 rt : Reg) (side me : Int) (b c k : Nat) (rs : List Reg) (w : World) (h : Plays B w p S) (hl : RegsAt [2, 3, 4] w p b rs) (hi : rs[k]? = some q0 ∧ rs[k + 1]? = some q1 ∧ rs[k + 2]? = some rt) (hq0 : q0.ok) (hq1 : q1.ok) (hrt : rt.ok)
    (hm0 : 0 ≤ me) (hm1 : me < q0.n) (hm2 : me < q1.n) (hm3 : me < rt.n) (ht1 : q0.told me) (hN : S.left < N) (hs : bitM side = 1) :
    Calls Tryz.prog 180 #[.pointer (some ⟨p, 0, none⟩), .slice (some ⟨b, k * 7, none⟩) 3 c, .int .i64 side, .int .i64 me] w (Post encU B p w ((arbEnter N q1 q0 rt 1 me).run S)) := by
  generalize hR : Post encU B p w ((arbEnter N q1 q0 rt 1 me).run S) = R
  have hO : Owes R encU B p w ((arbEnter N q1 q0 rt 1 me).run S) := hR ▸ owes _ _ _ _ _
  clear hR
  replace hi := Lib.hid hi
  have hP := h
  clear h
  unfold arbEnter at hO
  have hb := abit_p side
  rw [hs] at hb
  clear hs
  have hS : ∀ w', RegsAt [2, 3, 4] w' p b rs → ((w'.cell? ⟨b, k * 7, none⟩ = some (.int .i64 q0.kind) ∧ w'.cell? ⟨b, k * 7 + 1, none⟩ = some (.int .i64 q0.base) ∧ w'.cell? ⟨b, k * 7 + 2, none⟩ = some (.int .i64 q0.loc) ∧ w'.cell? ⟨b, k * 7 + 3, none⟩ = some (.int .i64 q0.n) ∧ w'.cell? ⟨b, k * 7 + 4, none⟩ = some (.int .i64 q0.wr) ∧ w'.cell? ⟨b, k * 7 + 5, none⟩ = some (.int .i64 q0.rd) ∧ w'.cell? ⟨b, k * 7 + 6, none⟩ = some (.int .i64 q0.top)) ∧ (w'.cell? ⟨b, k * 7 + 7, none⟩ = some (.int .i64 q1.kind) ∧ w'.cell? ⟨b, k * 7 + 7 + 1, none⟩ = some (.int .i64 q1.base) ∧ w'.cell? ⟨b, k * 7 + 7 + 2, none⟩ = some (.int .i64 q1.loc) ∧ w'.cell? ⟨b, k * 7 + 7 + 3, none⟩ = some (.int .i64 q1.n) ∧ w'.cell? ⟨b, k * 7 + 7 + 4, none⟩ = some (.int .i64 q1.wr) ∧ w'.cell? ⟨b, k * 7 + 7 + 5, none⟩ = some (.int .i64 q1.rd) ∧ w'.cell? ⟨b, k * 7 + 7 + 6, none⟩ = some (.int .i64 q1.top)) ∧ (w'.cell? ⟨b, k * 7 + 14, none⟩ = some (.int .i64 rt.kind) ∧ w'.cell? ⟨b, k * 7 + 14 + 1, none⟩ = some (.int .i64 rt.base) ∧ w'.cell? ⟨b, k * 7 + 14 + 2, none⟩ = some (.int .i64 rt.loc) ∧ w'.cell? ⟨b, k * 7 + 14 + 3, none⟩ = some (.int .i64 rt.n) ∧ w'.cell? ⟨b, k * 7 + 14 + 4, none⟩ = some (.int .i64 rt.wr) ∧ w'.cell? ⟨b, k * 7 + 14 + 5, none⟩ = some (.int .i64 rt.rd) ∧ w'.cell? ⟨b, k * 7 + 14 + 6, none⟩ = some (.int .i64 rt.top))) := fun w' y => by
    obtain ⟨⟨a0, a1, a2, a3, a4, a5, a6⟩, ⟨e0, e1, e2, e3, e4, e5, e6⟩, ⟨f0, f1, f2, f3, f4, f5, f6⟩⟩ := y.node3 hi.out
    exact ⟨⟨a0, a1, a2, a3, a4, a5, a6⟩, ⟨e0, e1, e2, e3, e4, e5, e6⟩, ⟨f0, f1, f2, f3, f4, f5, f6⟩⟩
  go_enter Tryz.func180, Tryz.ntmps180
  go_wp2_with fail
  have hOh := Lib.hid hO
  have hbh := Lib.hid hb
  clear hO hb
  go_upto_region 1 with fail
  go_cut [8, 9] (fun s8 s9 wx => ∃ (x y : Nat), s8 = .pointer (some ⟨x, 0, none⟩) ∧ s9 = .pointer (some ⟨y, 0, none⟩) ∧ HeldP wx p x (.cells #[.int .i64 q0.kind, .int .i64 q0.base, .int .i64 q0.loc, .int .i64 q0.n, .int .i64 q0.wr, .int .i64 q0.rd, .int .i64 q0.top, .int .i64 q1.kind, .int .i64 q1.base, .int .i64 q1.loc, .int .i64 q1.n, .int .i64 q1.wr, .int .i64 q1.rd, .int .i64 q1.top] 155) ∧ HeldP wx p y (.cells #[.int .i64 rt.kind, .int .i64 rt.base, .int .i64 rt.loc, .int .i64 rt.n, .int .i64 rt.wr, .int .i64 rt.rd, .int .i64 rt.top] 77) ∧ Plays B wx p S ∧ KeepP B p w wx ∧ RegsAt [2, 3, 4] wx p b rs)
  case first =>
    have hl2 := hl.extL (Ext.refl w).drew hP.lt
    obtain ⟨⟨a0, a1, a2, a3, a4, a5, a6⟩, ⟨e0, e1, e2, e3, e4, e5, e6⟩, ⟨f0, f1, f2, f3, f4, f5, f6⟩⟩ := hl.node3 hi.out
    go_region_held2 (fun w' => ((w'.cell? ⟨b, k * 7, none⟩ = some (.int .i64 q0.kind) ∧ w'.cell? ⟨b, k * 7 + 1, none⟩ = some (.int .i64 q0.base) ∧ w'.cell? ⟨b, k * 7 + 2, none⟩ = some (.int .i64 q0.loc) ∧ w'.cell? ⟨b, k * 7 + 3, none⟩ = some (.int .i64 q0.n) ∧ w'.cell? ⟨b, k * 7 + 4, none⟩ = some (.int .i64 q0.wr) ∧ w'.cell? ⟨b, k * 7 + 5, none⟩ = some (.int .i64 q0.rd) ∧ w'.cell? ⟨b, k * 7 + 6, none⟩ = some (.int .i64 q0.top)) ∧ (w'.cell? ⟨b, k * 7 + 7, none⟩ = some (.int .i64 q1.kind) ∧ w'.cell? ⟨b, k * 7 + 7 + 1, none⟩ = some (.int .i64 q1.base) ∧ w'.cell? ⟨b, k * 7 + 7 + 2, none⟩ = some (.int .i64 q1.loc) ∧ w'.cell? ⟨b, k * 7 + 7 + 3, none⟩ = some (.int .i64 q1.n) ∧ w'.cell? ⟨b, k * 7 + 7 + 4, none⟩ = some (.int .i64 q1.wr) ∧ w'.cell? ⟨b, k * 7 + 7 + 5, none⟩ = some (.int .i64 q1.rd) ∧ w'.cell? ⟨b, k * 7 + 7 + 6, none⟩ = some (.int .i64 q1.top)) ∧ (w'.cell? ⟨b, k * 7 + 14, none⟩ = some (.int .i64 rt.kind) ∧ w'.cell? ⟨b, k * 7 + 14 + 1, none⟩ = some (.int .i64 rt.base) ∧ w'.cell? ⟨b, k * 7 + 14 + 2, none⟩ = some (.int .i64 rt.loc) ∧ w'.cell? ⟨b, k * 7 + 14 + 3, none⟩ = some (.int .i64 rt.n) ∧ w'.cell? ⟨b, k * 7 + 14 + 4, none⟩ = some (.int .i64 rt.wr) ∧ w'.cell? ⟨b, k * 7 + 14 + 5, none⟩ = some (.int .i64 rt.rd) ∧ w'.cell? ⟨b, k * 7 + 14 + 6, none⟩ = some (.int .i64 rt.top)))) (first | with_reducible exact hS _ hl2 | go_keep) (fail)
    · rename_i hh
      clear hh
      obtain ⟨b1, b2, hP2, hK2, hl3⟩ := two_held hP hl (.cells #[.int .i64 q0.kind, .int .i64 q0.base, .int .i64 q0.loc, .int .i64 q0.n, .int .i64 q0.wr, .int .i64 q0.rd, .int .i64 q0.top, .int .i64 q1.kind, .int .i64 q1.base, .int .i64 q1.loc, .int .i64 q1.n, .int .i64 q1.wr, .int .i64 q1.rd, .int .i64 q1.top] 155) (.cells #[.int .i64 rt.kind, .int .i64 rt.base, .int .i64 rt.loc, .int .i64 rt.n, .int .i64 rt.wr, .int .i64 rt.rd, .int .i64 rt.top] 77)
      clear hS hl2 hl hP a0 a1 a2 a3 a4 a5 a6 e0 e1 e2 e3 e4 e5 e6 f0 f1 f2 f3 f4 f5 f6
      go_wp2_with fail
      go_meet
      exact ⟨_, _, rfl, rfl, b1, b2, hP2, hK2, hl3⟩
    · rename_i hh
      clear hh
      obtain ⟨b2, b1, hP2, hK2, hl3⟩ := two_held hP hl (.cells #[.int .i64 rt.kind, .int .i64 rt.base, .int .i64 rt.loc, .int .i64 rt.n, .int .i64 rt.wr, .int .i64 rt.rd, .int .i64 rt.top] 77) (.cells #[.int .i64 q0.kind, .int .i64 q0.base, .int .i64 q0.loc, .int .i64 q0.n, .int .i64 q0.wr, .int .i64 q0.rd, .int .i64 q0.top, .int .i64 q1.kind, .int .i64 q1.base, .int .i64 q1.loc, .int .i64 q1.n, .int .i64 q1.wr, .int .i64 q1.rd, .int .i64 q1.top] 155)
      clear hS hl2 hl hP a0 a1 a2 a3 a4 a5 a6 e0 e1 e2 e3 e4 e5 e6 f0 f1 f2 f3 f4 f5 f6
      go_wp2_with fail
      go_meet
      exact ⟨_, _, rfl, rfl, b1, b2, hP2, hK2, hl3⟩
  case rest =>
    clear hS hl hP
    obtain ⟨x, y, rfl, rfl, bx, bt, hP, hK, -⟩ := hcut
    go_wp2_with fail
    refine (hbh.out _).mono ?_
    rintro e w' ⟨rfl, rfl⟩
    have c_bx := bx.cells
    clear hbh
    have hPo := hP
    have bn := hP.held (.cells #[.int .i64 q0.kind, .int .i64 q0.base, .int .i64 q0.loc, .int .i64 q0.n, .int .i64 q0.wr, .int .i64 q0.rd, .int .i64 q0.top] 77)
    have hKn := hK.trans (Keep.alloc (.cells #[.int .i64 q0.kind, .int .i64 q0.base, .int .i64 q0.loc, .int .i64 q0.n, .int .i64 q0.wr, .int .i64 q0.rd, .int .i64 q0.top] 77) hP.lt hP.le)
    have hPn := hP.alloc (.cells #[.int .i64 q0.kind, .int .i64 q0.base, .int .i64 q0.loc, .int .i64 q0.n, .int .i64 q0.wr, .int .i64 q0.rd, .int .i64 q0.top] 77)
    have bxn := bx.alloc (.cells #[.int .i64 q0.kind, .int .i64 q0.base, .int .i64 q0.loc, .int .i64 q0.n, .int .i64 q0.wr, .int .i64 q0.rd, .int .i64 q0.top] 77) hP.lt
    have btn := bt.alloc (.cells #[.int .i64 q0.kind, .int .i64 q0.base, .int .i64 q0.loc, .int .i64 q0.n, .int .i64 q0.wr, .int .i64 q0.rd, .int .i64 q0.top] 77) hP.lt
    clear hP hK bx bt hPo
    have c_bxn := bxn.cells
    go_wp2_with fail
    clear c_bx c_bxn
    generalize hzn : wc.heap.size = z at *
    generalize wc.alloc _ = W at *
    clear hzn
    have hP := hPn
    have hK := hKn
    have bx := bxn
    have bt := btn
    clear hPn hKn bxn btn
    replace hO := hOh.out
    clear hOh
    refine tstepL hO hK (reg_write_p B p S q1 me 1 _ hP hq1 ⟨hm0, by omega⟩) (fun _ h => ⟨rfl, h⟩) ?_
    clear hO hK hP
    intro u S2 w2 hlf _ hP hk hK hO
    replace hN := Nat.lt_of_le_of_lt hlf hN
    replace bn := bn.keep hk
    replace bt := bt.keep hk
    have c_bt := bt.cells
    have hOh := Lib.hid hO
    clear hk hlf bx hO
    go_wp2_with fail
    replace hO := hOh.out
    clear hOh c_bt
    refine tstepL hO hK (reg_write_p B p S2 rt me 1 _ hP hrt ⟨hm0, hm3⟩) (fun _ h => ⟨rfl, h⟩) ?_
    clear hO hK hP
    intro u S3 w3 hlf _ hP hk hK hO
    replace hN := Nat.lt_of_le_of_lt hlf hN
    replace bn := bn.keep hk
    replace bt := bt.keep hk
    have hOh := Lib.hid hO
    clear hk hlf hO
    go_wp2_with fail
    go_loopw [] (fun wr => ∃ (n : Nat) (S4 : TS), Plays B wr p S4 ∧ KeepP B p w wr ∧ HeldP wr p z (.cells #[.int .i64 q0.kind, .int .i64 q0.base, .int .i64 q0.loc, .int .i64 q0.n, .int .i64 q0.wr, .int .i64 q0.rd, .int .i64 q0.top] 77) ∧ HeldP wr p y (.cells #[.int .i64 rt.kind, .int .i64 rt.base, .int .i64 rt.loc, .int .i64 rt.n, .int .i64 rt.wr, .int .i64 rt.rd, .int .i64 rt.top] 77) ∧ Hid (Owes R encU B p w ((arbSpin q0 rt 1 me n).run S4)) ∧ S4.left < n) (fun wr => leftW 1 3 wr p)
    case atStart => exact ⟨N, S3, hP, hK, bn, bt, hOh, hN⟩
    case round =>
      clear hP hK bn bt hOh hN
      obtain ⟨n, S4, hP, hK, bn, bt, hO, hN⟩ := hrel
      replace hO := hO.out
      have hlw := Lib.hid hP.left
      cases n with
      | zero => omega
      | succ n =>
        rw [arbSpin_succ] at hO
        have c_bn := bn.cells
        have hOh := Lib.hid hO
        clear hO
        go_wp2_with fail
        replace hO := hOh.out
        clear hOh c_bn
        refine tstepL hO hK (reg_read_p B p S4 q0 me _ hP hq0 ⟨hm0, by omega⟩) (fun _ h => ⟨rfl, h⟩) ?_
        clear hO hK hP
        intro v S5 w4 _ hlf hP hk hK hO
        replace hlf := hlf (asks_regR _ _ ht1)
        replace bn := bn.keep hk
        replace bt := bt.keep hk
        clear hk
        by_cases hv : v = 0
        · rw [if_pos hv] at hO
          subst hv
          have hf : R (.returned (encU ())) w4 := hO.done hP hK
          clear hO hP hK bn bt
          go_wp2_with fail
          first | exact hf | (refine bodyPost_ret (results_none rfl _ _ _) rfl ?_; exact hf)
        · rw [if_neg hv] at hO
          have hv2 : (v == 0) = false := by rw [beq_eq_false_iff_ne]; exact hv
          have c_bt := bt.cells
          have hOh := Lib.hid hO
          clear hv hO
          go_wp2_with fail
          replace hO := hOh.out
          clear hOh c_bt
          refine tstepL hO hK (reg_read_p B p S5 rt me _ hP hrt ⟨hm0, hm3⟩) (fun _ h => ⟨rfl, h⟩) ?_
          clear hO hK hP
          intro y0 S6 w5 hlf2 _ hP hk hK hO
          replace bn := bn.keep hk
          replace bt := bt.keep hk
          clear hk
          by_cases hy : y0 = 1
          · rw [if_pos hy] at hO
            have hy2 : (y0 != 1) = false := by simpa using hy
            have c_bn := bn.cells
            have hOh := Lib.hid hO
            clear hy hO
            go_wp2_with fail
            refine (cells_pm q0 me _ hq0 ht1 ⟨hm0, by omega⟩).mono ?_
            rintro e w6 ⟨cc, rfl, hcc, hx⟩
            replace bn := bn.ext hx hP.lt
            replace bt := bt.ext hx hP.lt
            replace hK := hK.trans (Keep.of_ext hx hP.lt hP.le)
            replace hP := hP.ext hx
            clear hx c_bn
            have hlw2 := Lib.hid hP.left
            go_wp2_with fail
            refine ⟨⟨n, S6, hP, hK, bn, bt, hOh, by omega⟩, ?_⟩
            rw [hlw.out, hlw2.out]
            omega
          · rw [if_neg hy] at hO
            have hy2 : (y0 != 1) = true := by simpa using hy
            have hf : R (.returned (encU ())) w5 := hO.done hP hK
            clear hO hP hK bn bt hy
            go_wp2_with fail
            first | exact hf | (refine bodyPost_ret (results_none rfl _ _ _) rfl ?_; exact hf)
set_option maxRecDepth 100000 in
theorem arbn_leave_p0 (B p : Nat) (S : TS) (q0 q1 rt : Reg) (side me : Int) (b c k : Nat) (rs : List Reg) (w : World) (h : Plays B w p S) (hl : RegsAt [2, 3, 4] w p b rs) (hi : rs[k]? = some q0 ∧ rs[k + 1]? = some q1 ∧ rs[k + 2]? = some rt) (hq : q0.ok)
    (hm0 : 0 ≤ me) (hm1 : me < q0.n) (hs : bitM side = 0) :
    Calls Tryz.prog 181 #[.pointer (some ⟨p, 0, none⟩), .slice (some ⟨b, k * 7, none⟩) 3 c, .int .i64 side, .int .i64 me] w (Post encU B p w ((regW q0 me 0).run S)) := by
  generalize hR : Post encU B p w ((regW q0 me 0).run S) = R
  have hO : Owes R encU B p w ((regW q0 me 0).run S) := hR ▸ owes _ _ _ _ _
  clear hR
  replace hi := Lib.hid hi
  have hK := Keep.refl [2, 3, 4] B p w
  have hP := h
  clear h
  have hb := abit_p side
  rw [hs] at hb
  clear hs
  have hS : ∀ w', RegsAt [2, 3, 4] w' p b rs → ((w'.cell? ⟨b, k * 7, none⟩ = some (.int .i64 q0.kind) ∧ w'.cell? ⟨b, k * 7 + 1, none⟩ = some (.int .i64 q0.base) ∧ w'.cell? ⟨b, k * 7 + 2, none⟩ = some (.int .i64 q0.loc) ∧ w'.cell? ⟨b, k * 7 + 3, none⟩ = some (.int .i64 q0.n) ∧ w'.cell? ⟨b, k * 7 + 4, none⟩ = some (.int .i64 q0.wr) ∧ w'.cell? ⟨b, k * 7 + 5, none⟩ = some (.int .i64 q0.rd) ∧ w'.cell? ⟨b, k * 7 + 6, none⟩ = some (.int .i64 q0.top)) ∧ (w'.cell? ⟨b, k * 7 + 7, none⟩ = some (.int .i64 q1.kind) ∧ w'.cell? ⟨b, k * 7 + 7 + 1, none⟩ = some (.int .i64 q1.base) ∧ w'.cell? ⟨b, k * 7 + 7 + 2, none⟩ = some (.int .i64 q1.loc) ∧ w'.cell? ⟨b, k * 7 + 7 + 3, none⟩ = some (.int .i64 q1.n) ∧ w'.cell? ⟨b, k * 7 + 7 + 4, none⟩ = some (.int .i64 q1.wr) ∧ w'.cell? ⟨b, k * 7 + 7 + 5, none⟩ = some (.int .i64 q1.rd) ∧ w'.cell? ⟨b, k * 7 + 7 + 6, none⟩ = some (.int .i64 q1.top)) ∧ (w'.cell? ⟨b, k * 7 + 14, none⟩ = some (.int .i64 rt.kind) ∧ w'.cell? ⟨b, k * 7 + 14 + 1, none⟩ = some (.int .i64 rt.base) ∧ w'.cell? ⟨b, k * 7 + 14 + 2, none⟩ = some (.int .i64 rt.loc) ∧ w'.cell? ⟨b, k * 7 + 14 + 3, none⟩ = some (.int .i64 rt.n) ∧ w'.cell? ⟨b, k * 7 + 14 + 4, none⟩ = some (.int .i64 rt.wr) ∧ w'.cell? ⟨b, k * 7 + 14 + 5, none⟩ = some (.int .i64 rt.rd) ∧ w'.cell? ⟨b, k * 7 + 14 + 6, none⟩ = some (.int .i64 rt.top))) := fun w' y => by
    obtain ⟨⟨a0, a1, a2, a3, a4, a5, a6⟩, ⟨e0, e1, e2, e3, e4, e5, e6⟩, ⟨f0, f1, f2, f3, f4, f5, f6⟩⟩ := y.node3 hi.out
    exact ⟨⟨a0, a1, a2, a3, a4, a5, a6⟩, ⟨e0, e1, e2, e3, e4, e5, e6⟩, ⟨f0, f1, f2, f3, f4, f5, f6⟩⟩
  go_enter Tryz.func181, Tryz.ntmps181
  go_wp2_with fail
  have hOh := Lib.hid hO
  have hbh := Lib.hid hb
  clear hO hb
  have hl2 := hl.extL (Ext.refl w).drew hP.lt
  obtain ⟨⟨a0, a1, a2, a3, a4, a5, a6⟩, ⟨e0, e1, e2, e3, e4, e5, e6⟩, ⟨f0, f1, f2, f3, f4, f5, f6⟩⟩ := hl.node3 hi.out
  go_region_held2 (fun w' => ((w'.cell? ⟨b, k * 7, none⟩ = some (.int .i64 q0.kind) ∧ w'.cell? ⟨b, k * 7 + 1, none⟩ = some (.int .i64 q0.base) ∧ w'.cell? ⟨b, k * 7 + 2, none⟩ = some (.int .i64 q0.loc) ∧ w'.cell? ⟨b, k * 7 + 3, none⟩ = some (.int .i64 q0.n) ∧ w'.cell? ⟨b, k * 7 + 4, none⟩ = some (.int .i64 q0.wr) ∧ w'.cell? ⟨b, k * 7 + 5, none⟩ = some (.int .i64 q0.rd) ∧ w'.cell? ⟨b, k * 7 + 6, none⟩ = some (.int .i64 q0.top)) ∧ (w'.cell? ⟨b, k * 7 + 7, none⟩ = some (.int .i64 q1.kind) ∧ w'.cell? ⟨b, k * 7 + 7 + 1, none⟩ = some (.int .i64 q1.base) ∧ w'.cell? ⟨b, k * 7 + 7 + 2, none⟩ = some (.int .i64 q1.loc) ∧ w'.cell? ⟨b, k * 7 + 7 + 3, none⟩ = some (.int .i64 q1.n) ∧ w'.cell? ⟨b, k * 7 + 7 + 4, none⟩ = some (.int .i64 q1.wr) ∧ w'.cell? ⟨b, k * 7 + 7 + 5, none⟩ = some (.int .i64 q1.rd) ∧ w'.cell? ⟨b, k * 7 + 7 + 6, none⟩ = some (.int .i64 q1.top)) ∧ (w'.cell? ⟨b, k * 7 + 14, none⟩ = some (.int .i64 rt.kind) ∧ w'.cell? ⟨b, k * 7 + 14 + 1, none⟩ = some (.int .i64 rt.base) ∧ w'.cell? ⟨b, k * 7 + 14 + 2, none⟩ = some (.int .i64 rt.loc) ∧ w'.cell? ⟨b, k * 7 + 14 + 3, none⟩ = some (.int .i64 rt.n) ∧ w'.cell? ⟨b, k * 7 + 14 + 4, none⟩ = some (.int .i64 rt.wr) ∧ w'.cell? ⟨b, k * 7 + 14 + 5, none⟩ = some (.int .i64 rt.rd) ∧ w'.cell? ⟨b, k * 7 + 14 + 6, none⟩ = some (.int .i64 rt.top)))) (first | with_reducible exact hS _ hl2 | go_keep) (fail)
  rename_i hh
  clear hh
  have bx := (hP.held (.cells #[.int .i64 q0.kind, .int .i64 q0.base, .int .i64 q0.loc, .int .i64 q0.n, .int .i64 q0.wr, .int .i64 q0.rd, .int .i64 q0.top, .int .i64 q1.kind, .int .i64 q1.base, .int .i64 q1.loc, .int .i64 q1.n, .int .i64 q1.wr, .int .i64 q1.rd, .int .i64 q1.top] 155)).drew
  replace hK := (hK.trans (Keep.alloc (.cells #[.int .i64 q0.kind, .int .i64 q0.base, .int .i64 q0.loc, .int .i64 q0.n, .int .i64 q0.wr, .int .i64 q0.rd, .int .i64 q0.top, .int .i64 q1.kind, .int .i64 q1.base, .int .i64 q1.loc, .int .i64 q1.n, .int .i64 q1.wr, .int .i64 q1.rd, .int .i64 q1.top] 155) hP.lt hP.le)).drew
  replace hP := (hP.alloc (.cells #[.int .i64 q0.kind, .int .i64 q0.base, .int .i64 q0.loc, .int .i64 q0.n, .int .i64 q0.wr, .int .i64 q0.rd, .int .i64 q0.top, .int .i64 q1.kind, .int .i64 q1.base, .int .i64 q1.loc, .int .i64 q1.n, .int .i64 q1.wr, .int .i64 q1.rd, .int .i64 q1.top] 155)).drew
  clear hS hl2 hl a0 a1 a2 a3 a4 a5 a6 e0 e1 e2 e3 e4 e5 e6 f0 f1 f2 f3 f4 f5 f6
  have c_bx := bx.cells
  go_wp2_with fail
  refine (hbh.out _).mono ?_
  rintro e w' ⟨rfl, rfl⟩
  go_wp2_with fail
  replace hO := hOh.out
  clear hOh c_bx bx
  refine tlast hO hK (reg_write_p B p S q0 me 0 _ hP hq ⟨hm0, hm1⟩) (fun _ h => ⟨rfl, h⟩) ?_
  clear hO hK hP
  intro u S2 w3 hr hP hk hK hO
  have hf := hO.done hP hK
  clear hO hP hK hr hk
  go_wp2_with fail
  first | exact hf | (refine bodyPost_ret (results_none rfl _ _ _) rfl ?_; exact hf)
set_option maxRecDepth 100000 in
theorem arbn_leave_p1 (B p : Nat) (S : TS) (q0 q1 rt : Reg) (side me : Int) (b c k : Nat) (rs : List Reg) (w : World) (h : Plays B w p S) (hl : RegsAt [2, 3, 4] w p b rs) (hi : rs[k]? = some q0 ∧ rs[k + 1]? = some q1 ∧ rs[k + 2]? = some rt) (hq : q1.ok)
    (hm0 : 0 ≤ me) (hm1 : me < q1.n) (hs : bitM side = 1) :
    Calls Tryz.prog 181 #[.pointer (some ⟨p, 0, none⟩), .slice (some ⟨b, k * 7, none⟩) 3 c, .int .i64 side, .int .i64 me] w (Post encU B p w ((regW q1 me 0).run S)) := by
  generalize hR : Post encU B p w ((regW q1 me 0).run S) = R
  have hO : Owes R encU B p w ((regW q1 me 0).run S) := hR ▸ owes _ _ _ _ _
  clear hR
  replace hi := Lib.hid hi
  have hK := Keep.refl [2, 3, 4] B p w
  have hP := h
  clear h
  have hb := abit_p side
  rw [hs] at hb
  clear hs
  have hS : ∀ w', RegsAt [2, 3, 4] w' p b rs → ((w'.cell? ⟨b, k * 7, none⟩ = some (.int .i64 q0.kind) ∧ w'.cell? ⟨b, k * 7 + 1, none⟩ = some (.int .i64 q0.base) ∧ w'.cell? ⟨b, k * 7 + 2, none⟩ = some (.int .i64 q0.loc) ∧ w'.cell? ⟨b, k * 7 + 3, none⟩ = some (.int .i64 q0.n) ∧ w'.cell? ⟨b, k * 7 + 4, none⟩ = some (.int .i64 q0.wr) ∧ w'.cell? ⟨b, k * 7 + 5, none⟩ = some (.int .i64 q0.rd) ∧ w'.cell? ⟨b, k * 7 + 6, none⟩ = some (.int .i64 q0.top)) ∧ (w'.cell? ⟨b, k * 7 + 7, none⟩ = some (.int .i64 q1.kind) ∧ w'.cell? ⟨b, k * 7 + 7 + 1, none⟩ = some (.int .i64 q1.base) ∧ w'.cell? ⟨b, k * 7 + 7 + 2, none⟩ = some (.int .i64 q1.loc) ∧ w'.cell? ⟨b, k * 7 + 7 + 3, none⟩ = some (.int .i64 q1.n) ∧ w'.cell? ⟨b, k * 7 + 7 + 4, none⟩ = some (.int .i64 q1.wr) ∧ w'.cell? ⟨b, k * 7 + 7 + 5, none⟩ = some (.int .i64 q1.rd) ∧ w'.cell? ⟨b, k * 7 + 7 + 6, none⟩ = some (.int .i64 q1.top)) ∧ (w'.cell? ⟨b, k * 7 + 14, none⟩ = some (.int .i64 rt.kind) ∧ w'.cell? ⟨b, k * 7 + 14 + 1, none⟩ = some (.int .i64 rt.base) ∧ w'.cell? ⟨b, k * 7 + 14 + 2, none⟩ = some (.int .i64 rt.loc) ∧ w'.cell? ⟨b, k * 7 + 14 + 3, none⟩ = some (.int .i64 rt.n) ∧ w'.cell? ⟨b, k * 7 + 14 + 4, none⟩ = some (.int .i64 rt.wr) ∧ w'.cell? ⟨b, k * 7 + 14 + 5, none⟩ = some (.int .i64 rt.rd) ∧ w'.cell? ⟨b, k * 7 + 14 + 6, none⟩ = some (.int .i64 rt.top))) := fun w' y => by
    obtain ⟨⟨a0, a1, a2, a3, a4, a5, a6⟩, ⟨e0, e1, e2, e3, e4, e5, e6⟩, ⟨f0, f1, f2, f3, f4, f5, f6⟩⟩ := y.node3 hi.out
    exact ⟨⟨a0, a1, a2, a3, a4, a5, a6⟩, ⟨e0, e1, e2, e3, e4, e5, e6⟩, ⟨f0, f1, f2, f3, f4, f5, f6⟩⟩
  go_enter Tryz.func181, Tryz.ntmps181
  go_wp2_with fail
  have hOh := Lib.hid hO
  have hbh := Lib.hid hb
  clear hO hb
  have hl2 := hl.extL (Ext.refl w).drew hP.lt
  obtain ⟨⟨a0, a1, a2, a3, a4, a5, a6⟩, ⟨e0, e1, e2, e3, e4, e5, e6⟩, ⟨f0, f1, f2, f3, f4, f5, f6⟩⟩ := hl.node3 hi.out
  go_region_held2 (fun w' => ((w'.cell? ⟨b, k * 7, none⟩ = some (.int .i64 q0.kind) ∧ w'.cell? ⟨b, k * 7 + 1, none⟩ = some (.int .i64 q0.base) ∧ w'.cell? ⟨b, k * 7 + 2, none⟩ = some (.int .i64 q0.loc) ∧ w'.cell? ⟨b, k * 7 + 3, none⟩ = some (.int .i64 q0.n) ∧ w'.cell? ⟨b, k * 7 + 4, none⟩ = some (.int .i64 q0.wr) ∧ w'.cell? ⟨b, k * 7 + 5, none⟩ = some (.int .i64 q0.rd) ∧ w'.cell? ⟨b, k * 7 + 6, none⟩ = some (.int .i64 q0.top)) ∧ (w'.cell? ⟨b, k * 7 + 7, none⟩ = some (.int .i64 q1.kind) ∧ w'.cell? ⟨b, k * 7 + 7 + 1, none⟩ = some (.int .i64 q1.base) ∧ w'.cell? ⟨b, k * 7 + 7 + 2, none⟩ = some (.int .i64 q1.loc) ∧ w'.cell? ⟨b, k * 7 + 7 + 3, none⟩ = some (.int .i64 q1.n) ∧ w'.cell? ⟨b, k * 7 + 7 + 4, none⟩ = some (.int .i64 q1.wr) ∧ w'.cell? ⟨b, k * 7 + 7 + 5, none⟩ = some (.int .i64 q1.rd) ∧ w'.cell? ⟨b, k * 7 + 7 + 6, none⟩ = some (.int .i64 q1.top)) ∧ (w'.cell? ⟨b, k * 7 + 14, none⟩ = some (.int .i64 rt.kind) ∧ w'.cell? ⟨b, k * 7 + 14 + 1, none⟩ = some (.int .i64 rt.base) ∧ w'.cell? ⟨b, k * 7 + 14 + 2, none⟩ = some (.int .i64 rt.loc) ∧ w'.cell? ⟨b, k * 7 + 14 + 3, none⟩ = some (.int .i64 rt.n) ∧ w'.cell? ⟨b, k * 7 + 14 + 4, none⟩ = some (.int .i64 rt.wr) ∧ w'.cell? ⟨b, k * 7 + 14 + 5, none⟩ = some (.int .i64 rt.rd) ∧ w'.cell? ⟨b, k * 7 + 14 + 6, none⟩ = some (.int .i64 rt.top)))) (first | with_reducible exact hS _ hl2 | go_keep) (fail)
  rename_i hh
  clear hh
  have bx := (hP.held (.cells #[.int .i64 q0.kind, .int .i64 q0.base, .int .i64 q0.loc, .int .i64 q0.n, .int .i64 q0.wr, .int .i64 q0.rd, .int .i64 q0.top, .int .i64 q1.kind, .int .i64 q1.base, .int .i64 q1.loc, .int .i64 q1.n, .int .i64 q1.wr, .int .i64 q1.rd, .int .i64 q1.top] 155)).drew
  replace hK := (hK.trans (Keep.alloc (.cells #[.int .i64 q0.kind, .int .i64 q0.base, .int .i64 q0.loc, .int .i64 q0.n, .int .i64 q0.wr, .int .i64 q0.rd, .int .i64 q0.top, .int .i64 q1.kind, .int .i64 q1.base, .int .i64 q1.loc, .int .i64 q1.n, .int .i64 q1.wr, .int .i64 q1.rd, .int .i64 q1.top] 155) hP.lt hP.le)).drew
  replace hP := (hP.alloc (.cells #[.int .i64 q0.kind, .int .i64 q0.base, .int .i64 q0.loc, .int .i64 q0.n, .int .i64 q0.wr, .int .i64 q0.rd, .int .i64 q0.top, .int .i64 q1.kind, .int .i64 q1.base, .int .i64 q1.loc, .int .i64 q1.n, .int .i64 q1.wr, .int .i64 q1.rd, .int .i64 q1.top] 155)).drew
  clear hS hl2 hl a0 a1 a2 a3 a4 a5 a6 e0 e1 e2 e3 e4 e5 e6 f0 f1 f2 f3 f4 f5 f6
  have c_bx := bx.cells
  go_wp2_with fail
  refine (hbh.out _).mono ?_
  rintro e w' ⟨rfl, rfl⟩
  go_wp2_with fail
  replace hO := hOh.out
  clear hOh c_bx bx
  refine tlast hO hK (reg_write_p B p S q1 me 0 _ hP hq ⟨hm0, hm1⟩) (fun _ h => ⟨rfl, h⟩) ?_
  clear hO hK hP
  intro u S2 w3 hr hP hk hK hO
  have hf := hO.done hP hK
  clear hO hP hK hr hk
  go_wp2_with fail
  first | exact hf | (refine bodyPost_ret (results_none rfl _ _ _) rfl ?_; exact hf)
theorem arbn_enter_p (B p N : Nat) (S : TS) (q0 q1 rt : Reg) (side me : Int) (b c k : Nat) (rs : List Reg) (w : World) (h : Plays B w p S) (hl : RegsAt [2, 3, 4] w p b rs) (hi : rs[k]? = some q0 ∧ rs[k + 1]? = some q1 ∧ rs[k + 2]? = some rt) (hq0 : q0.ok) (hq1 : q1.ok) (hrt : rt.ok)
    (hm0 : 0 ≤ me) (hm1 : me < q0.n) (hm2 : me < q1.n) (hm3 : me < rt.n) (ht0 : q0.told me) (ht1 : q1.told me) (hN : S.left < N) :
    Calls Tryz.prog 180 #[.pointer (some ⟨p, 0, none⟩), .slice (some ⟨b, k * 7, none⟩) 3 c, .int .i64 side, .int .i64 me] w (Post encU B p w ((arbM N q0 q1 rt side me).run S)) := by
  unfold arbM
  rcases bitM_or side with hs | hs
  · rw [if_neg (by omega)]
    exact arbn_enter_p0 B p N S q0 q1 rt side me b c k rs w h hl hi hq0 hq1 hrt hm0 hm1 hm2 hm3 ht1 hN hs
  · rw [if_pos hs]
    exact arbn_enter_p1 B p N S q0 q1 rt side me b c k rs w h hl hi hq0 hq1 hrt hm0 hm1 hm2 hm3 ht0 hN hs
theorem arbn_leave_p (B p : Nat) (S : TS) (q0 q1 rt : Reg) (side me : Int) (b c k : Nat) (rs : List Reg) (w : World) (h : Plays B w p S) (hl : RegsAt [2, 3, 4] w p b rs) (hi : rs[k]? = some q0 ∧ rs[k + 1]? = some q1 ∧ rs[k + 2]? = some rt) (hq0 : q0.ok) (hq1 : q1.ok)
    (hm0 : 0 ≤ me) (hm1 : me < q0.n) (hm2 : me < q1.n) :
    Calls Tryz.prog 181 #[.pointer (some ⟨p, 0, none⟩), .slice (some ⟨b, k * 7, none⟩) 3 c, .int .i64 side, .int .i64 me] w (Post encU B p w ((kesL q0 q1 side me).run S)) := by
  unfold kesL
  rcases bitM_or side with hs | hs
  · rw [hs, if_neg (by omega)]
    exact arbn_leave_p0 B p S q0 q1 rt side me b c k rs w h hl hi hq0 hm0 hm1 hs
  · rw [hs, if_pos rfl]
    exact arbn_leave_p1 B p S q0 q1 rt side me b c k rs w h hl hi hq1 hm0 hm2 hs
end Go.Proofs.YtpcohbpeglledaaGreat
/-
  Kessels' lock at a node of a tree: entering and leaving, both sides.
-/
namespace Go.Proofs.YtpcohbpeglledaaGreat
open Go.RowKit Kv
theorem RegsAt.node4r {ix : List Nat} {p b k : Nat} {w : World} {rs : List Reg} {x y z u : Reg} (h : RegsAt ix w p b rs) (hi : rs[k]? = some x ∧ rs[k + 1]? = some y ∧ rs[k + 2]? = some z ∧ rs[k + 3]? = some u) :
    RegCells w b (k * 7) x ∧ RegCells w b (k * 7 + 7) y ∧ RegCells w b (k * 7 + 14) z ∧ RegCells w b (k * 7 + 21) u := by
  have h1 := h.nth hi.2.1
  have h2 := h.nth hi.2.2.1
  have h3 := h.nth hi.2.2.2
  rw [show (k + 1) * 7 = k * 7 + 7 from by omega] at h1
  rw [show (k + 2) * 7 = k * 7 + 14 from by omega] at h2
  rw [show (k + 3) * 7 = k * 7 + 21 from by omega] at h3
  exact ⟨h.nth hi.1, h1, h2, h3⟩
theorem RegsAt.node4 {ix : List Nat} {p b k : Nat} {w : World} {rs : List Reg} {x y z u : Reg} (h : RegsAt ix w p b rs) (hi : rs[k]? = some x ∧ rs[k + 1]? = some y ∧ rs[k + 2]? = some z ∧ rs[k + 3]? = some u) :
    RegCells w b (k * 7) x ∧ RegCells w b (k * 7 + 7) y ∧ RegCells w b (k * 7 + 14) z ∧ RegCells w b (k * 7 + 14 + 7) u := by
  obtain ⟨h0, h1, h2, h3⟩ := h.node4r hi
  rw [show k * 7 + 21 = k * 7 + 14 + 7 from by omega] at h3
  exact ⟨h0, h1, h2, h3⟩
set_option maxRecDepth 100000 in
set_option maxHeartbeats 1000000 in
theorem kesn_enter_p0 (B p N : Nat) (S : TS) (q0 q1 r0 r1 : Reg) (side me : Int) (b c k : Nat) (rs : List Reg) (w : World) (h : Plays B w p S) (hl : RegsAt [2, 3, 4] w p b rs) (hi : rs[k]? = some q0 ∧ rs[k + 1]? = some q1 ∧ rs[k + 2]? = some r0 ∧ rs[k + 3]? = some r1) (hq0 : q0.ok) (hq1 : q1.ok) (hr0 : r0.ok) (hr1 : r1.ok)
    (hm0 : 0 ≤ me) (hm1 : me < q0.n) (hm2 : me < q1.n) (hm3 : me < r0.n) (hm4 : me < r1.n) (ht1 : q1.told me) (_ht2 : r1.told me) (hN : S.left < N) (hs : bitM side = 0) (hc4 : 4 ≤ c) (hc5 : c ≤ 9223372036854775807) :
    Calls Tryz.prog 28 #[.pointer (some ⟨p, 0, none⟩), .slice (some ⟨b, k * 7, none⟩) 4 c, .int .i64 side, .int .i64 me] w (Post encU B p w ((kesEnter N q0 q1 r0 r1 0 me).run S)) := by
  generalize hR : Post encU B p w ((kesEnter N q0 q1 r0 r1 0 me).run S) = R
  have hO : Owes R encU B p w ((kesEnter N q0 q1 r0 r1 0 me).run S) := hR ▸ owes _ _ _ _ _
  clear hR
  replace hi := Lib.hid hi
  have hmf : ∀ (fn : Fn) (first cap : Array Value) (w : World), (Instr.makeFunc fn first cap).run Tryz.prog w = .ok (.func fn first cap) w := fun _ _ _ _ => rfl
  have hK := Keep.refl [2, 3, 4] B p w
  have hP := h
  clear h
  unfold kesEnter at hO
  obtain ⟨⟨a0, a1, a2, a3, a4, a5, a6⟩, ⟨e0, e1, e2, e3, e4, e5, e6⟩, ⟨f0, f1, f2, f3, f4, f5, f6⟩, ⟨g0, g1, g2, g3, g4, g5, g6⟩⟩ := hl.node4 hi.out
  have hc6 : (2 : Int) ≤ (c : Int) := by omega
  have hc7 : (4 : Int) ≤ (c : Int) := by omega
  have hb := kbit_p side w
  rw [hs] at hb
  clear hs
  go_enter Tryz.func28, Tryz.ntmps28
  go_wp2_with fail
  refine hb.mono ?_
  rintro e w' ⟨rfl, rfl⟩
  clear hb
  go_wp2_with fail
  go_quiet (fail)
  have hx := (Ext.refl w).drewN nq
  replace hl := hl.extL hx hP.lt
  replace hK := hK.trans (Keep.of_ext hx hP.lt hP.le)
  replace hP := hP.ext hx
  clear a0 a1 a2 a3 a4 a5 a6 e0 e1 e2 e3 e4 e5 e6 f0 f1 f2 f3 f4 f5 f6 g0 g1 g2 g3 g4 g5 g6 hx
  generalize w.drewN nq = wz at *
  obtain ⟨⟨a0, a1, a2, a3, a4, a5, a6⟩, ⟨e0, e1, e2, e3, e4, e5, e6⟩, ⟨f0, f1, f2, f3, f4, f5, f6⟩, ⟨g0, g1, g2, g3, g4, g5, g6⟩⟩ := hl.node4 hi.out
  go_wp2_with fail
  refine tstepL hO hK (reg_write_p B p S q0 me 1 _ hP hq0 ⟨hm0, by omega⟩) (fun _ h => ⟨rfl, h⟩) ?_
  clear hO hK hP
  intro u S w1 hlf _ hP hk hK hO
  replace hN := Nat.lt_of_le_of_lt hlf hN
  replace hl := hl.keep hk
  clear a0 a1 a2 a3 a4 a5 a6 e0 e1 e2 e3 e4 e5 e6 f0 f1 f2 f3 f4 f5 f6 g0 g1 g2 g3 g4 g5 g6 hk hlf
  obtain ⟨⟨a0, a1, a2, a3, a4, a5, a6⟩, ⟨e0, e1, e2, e3, e4, e5, e6⟩, ⟨f0, f1, f2, f3, f4, f5, f6⟩, ⟨g0, g1, g2, g3, g4, g5, g6⟩⟩ := hl.node4 hi.out
  go_wp2_with fail
  refine tstepL hO hK (reg_read_p B p S r1 me _ hP hr1 ⟨hm0, by omega⟩) (fun _ h => ⟨rfl, h⟩) ?_
  clear hO hK hP
  intro x S w2 hlf _ hP hk hK hO
  replace hN := Nat.lt_of_le_of_lt hlf hN
  replace hl := hl.keep hk
  clear a0 a1 a2 a3 a4 a5 a6 e0 e1 e2 e3 e4 e5 e6 f0 f1 f2 f3 f4 f5 f6 g0 g1 g2 g3 g4 g5 g6 hk hlf
  obtain ⟨⟨a0, a1, a2, a3, a4, a5, a6⟩, ⟨e0, e1, e2, e3, e4, e5, e6⟩, ⟨f0, f1, f2, f3, f4, f5, f6⟩, ⟨g0, g1, g2, g3, g4, g5, g6⟩⟩ := hl.node4 hi.out
  go_wp2_with fail
  have hbx : 0 ≤ bitM x ∧ bitM x ≤ 1 := by unfold bitM; split <;> omega
  have hwx := w64 (1 - bitM x) (by omega) (by omega)
  refine (kbit_p x _).mono ?_
  rintro e w' ⟨rfl, rfl⟩
  go_wp2_with fail
  have hPo := hP
  have bT := hP.held (.cells #[.int .i64 (bitM x)] 3)
  replace hK := hK.trans (Keep.alloc (.cells #[.int .i64 (bitM x)] 3) hP.lt hP.le)
  replace hP := hP.alloc (.cells #[.int .i64 (bitM x)] 3)
  have c_bT := bT.cells
  replace hl := hl.extL ((Ext.refl _).alloc (.cells #[.int .i64 (bitM x)] 3)) hPo.lt
  clear hPo
  clear a0 a1 a2 a3 a4 a5 a6 e0 e1 e2 e3 e4 e5 e6 f0 f1 f2 f3 f4 f5 f6 g0 g1 g2 g3 g4 g5 g6
  rw [show kesT 0 x = (bitM x) from rfl] at hO
  replace hP := hP.drew
  replace hK := hK.drew
  replace bT := bT.drew
  replace hl := hl.extL (Ext.refl _).drew hP.lt
  have hS : ∀ w', RegsAt [2, 3, 4] w' p b rs → HeldP w' p w2.heap.size (.cells #[.int .i64 (bitM x)] 3) → (w'.cell? ⟨b, k * 7 + 14, none⟩ = some (.int .i64 r0.kind) ∧ w'.cell? ⟨b, k * 7 + 14 + 1, none⟩ = some (.int .i64 r0.base) ∧ w'.cell? ⟨b, k * 7 + 14 + 2, none⟩ = some (.int .i64 r0.loc) ∧ w'.cell? ⟨b, k * 7 + 14 + 3, none⟩ = some (.int .i64 r0.n) ∧ w'.cell? ⟨b, k * 7 + 14 + 4, none⟩ = some (.int .i64 r0.wr) ∧ w'.cell? ⟨b, k * 7 + 14 + 5, none⟩ = some (.int .i64 r0.rd) ∧ w'.cell? ⟨b, k * 7 + 14 + 6, none⟩ = some (.int .i64 r0.top)) ∧ (∀ i, w'.cell? ⟨w2.heap.size, i, none⟩ = (#[.int .i64 (bitM x)] : Array Value)[i]?) := fun w' h1 h2 => by
    obtain ⟨y0, y1, y2, y3, y4, y5, y6⟩ := (h1.node4 hi.out).2.2.1
    exact ⟨⟨y0, y1, y2, y3, y4, y5, y6⟩, h2.cells⟩
  go_region_held2 (fun w' => (w'.cell? ⟨b, k * 7 + 14, none⟩ = some (.int .i64 r0.kind) ∧ w'.cell? ⟨b, k * 7 + 14 + 1, none⟩ = some (.int .i64 r0.base) ∧ w'.cell? ⟨b, k * 7 + 14 + 2, none⟩ = some (.int .i64 r0.loc) ∧ w'.cell? ⟨b, k * 7 + 14 + 3, none⟩ = some (.int .i64 r0.n) ∧ w'.cell? ⟨b, k * 7 + 14 + 4, none⟩ = some (.int .i64 r0.wr) ∧ w'.cell? ⟨b, k * 7 + 14 + 5, none⟩ = some (.int .i64 r0.rd) ∧ w'.cell? ⟨b, k * 7 + 14 + 6, none⟩ = some (.int .i64 r0.top)) ∧ (∀ i, w'.cell? ⟨w2.heap.size, i, none⟩ = (#[.int .i64 (bitM x)] : Array Value)[i]?)) (exact hS _ hl bT)
    (first
      | (go_at_call 89
         refine tstepL hO hK (reg_write_p B p S r0 me (bitM x) _ hP hr0 ⟨hm0, by omega⟩) (fun _ h => ⟨rfl, h⟩) ?_
         clear hO hK hP
         intro u S w3 hlf _ hP hk hK hO
         replace hN := Nat.lt_of_le_of_lt hlf hN
         replace hl := hl.keep hk
         replace bT := bT.keep hk
         clear hk hlf))
  rename_i hh
  clear hh c_bT
  generalize htx : (bitM x) = t at *
  go_wp2_with fail
  go_loopw [] (fun wr => ∃ (n : Nat) (S1 : TS), Plays B wr p S1 ∧ KeepP B p w wr ∧ HeldP wr p w2.heap.size (.cells #[.int .i64 t] 3) ∧ RegsAt [2, 3, 4] wr p b rs ∧ Hid (Owes R encU B p w ((kesSpin q1 r1 0 t me n).run S1)) ∧ S1.left < n) (fun wr => leftW 1 3 wr p)
  case atStart => exact ⟨N, S, hP, hK, bT, hl, hO, hN⟩
  case round =>
    clear hS hP hK bT hl hO hN
    obtain ⟨n, S1, hP, hK, bT, hl, hO, hN⟩ := hrel
    have hO := hO.out
    have hlw := Lib.hid hP.left
    cases n with
    | zero => omega
    | succ n =>
      unfold kesSpin at hO
      obtain ⟨⟨a0, a1, a2, a3, a4, a5, a6⟩, ⟨e0, e1, e2, e3, e4, e5, e6⟩, ⟨f0, f1, f2, f3, f4, f5, f6⟩, ⟨g0, g1, g2, g3, g4, g5, g6⟩⟩ := hl.node4 hi.out
      go_wp2_with fail
      refine tstepL hO hK (reg_read_p B p S1 q1 me _ hP hq1 ⟨hm0, by omega⟩) (fun _ h => ⟨rfl, h⟩) ?_
      clear hO hK hP
      intro v S2 w4 _ hlf hP hk hK hO
      replace hlf := hlf (asks_regR _ _ ht1)
      replace hl := hl.keep hk
      replace bT := bT.keep hk
      clear a0 a1 a2 a3 a4 a5 a6 e0 e1 e2 e3 e4 e5 e6 f0 f1 f2 f3 f4 f5 f6 g0 g1 g2 g3 g4 g5 g6 hk
      by_cases hv : v = 0
      · rw [if_pos hv] at hO
        subst hv
        have hf : R (.returned (encU ())) w4 := hO.done hP hK
        clear hO hP hK hl bT
        go_wp2_with fail
        first | exact hf | (refine bodyPost_ret (results_none rfl _ _ _) rfl ?_; exact hf)
      · rw [if_neg hv] at hO
        have hv2 : (v == 0) = false := by rw [beq_eq_false_iff_ne]; exact hv
        obtain ⟨⟨a0, a1, a2, a3, a4, a5, a6⟩, ⟨e0, e1, e2, e3, e4, e5, e6⟩, ⟨f0, f1, f2, f3, f4, f5, f6⟩, ⟨g0, g1, g2, g3, g4, g5, g6⟩⟩ := hl.node4 hi.out
        clear hv
        go_wp2_with fail
        refine tstepL hO hK (reg_read_p B p S2 r1 me _ hP hr1 ⟨hm0, by omega⟩) (fun _ h => ⟨rfl, h⟩) ?_
        clear hO hK hP
        intro y S3 w5 hlf2 _ hP hk hK hO
        replace hl := hl.keep hk
        replace bT := bT.keep hk
        clear a0 a1 a2 a3 a4 a5 a6 e0 e1 e2 e3 e4 e5 e6 f0 f1 f2 f3 f4 f5 f6 g0 g1 g2 g3 g4 g5 g6 hk
        have c_bT := bT.cells
        go_wp2_with fail
        refine (kbit_p y _).mono ?_
        rintro e w' ⟨rfl, rfl⟩
        go_wp2_with fail
        refine (kfree0_p (bitM y) t _ _ (c_bT 0)).mono ?_
        rintro e w' ⟨rfl, rfl⟩
        by_cases hy : kesFree 0 t y = true
        · rw [if_pos hy] at hO
          have hy2 : (bitM y != t) = true := by unfold kesFree at hy; simpa using hy
          have hf : R (.returned (encU ())) w5 := hO.done hP hK
          clear hO hP hK hl bT hy
          go_wp2_with fail
          first | exact hf | (refine bodyPost_ret (results_none rfl _ _ _) rfl ?_; exact hf)
        · rw [if_neg hy] at hO
          have hy2 : (bitM y != t) = false := by unfold kesFree at hy; simpa using hy
          obtain ⟨⟨a0, a1, a2, a3, a4, a5, a6⟩, ⟨e0, e1, e2, e3, e4, e5, e6⟩, ⟨f0, f1, f2, f3, f4, f5, f6⟩, ⟨g0, g1, g2, g3, g4, g5, g6⟩⟩ := hl.node4 hi.out
          clear hy c_bT
          go_wp2_with fail
          refine (cells_pm q1 me _ hq1 ht1 ⟨hm0, by omega⟩).mono ?_
          rintro e w6 ⟨cc, rfl, hcc, hx⟩
          replace hl := hl.extL hx hP.lt
          replace bT := bT.ext hx hP.lt
          replace hK := hK.trans (Keep.of_ext hx hP.lt hP.le)
          replace hP := hP.ext hx
          clear a0 a1 a2 a3 a4 a5 a6 e0 e1 e2 e3 e4 e5 e6 f0 f1 f2 f3 f4 f5 f6 g0 g1 g2 g3 g4 g5 g6 hx
          have hlw2 := Lib.hid hP.left
          have hOh := Lib.hid hO
          clear hO
          go_wp2_with fail
          refine ⟨⟨n, S3, hP, hK, bT, hl, hOh, by omega⟩, ?_⟩
          rw [hlw.out, hlw2.out]
          omega
set_option maxRecDepth 100000 in
set_option maxHeartbeats 1000000 in
theorem kesn_enter_p1 (B p N : Nat) (S : TS) (q0 q1 r0 r1 : Reg) (side me : Int) (b c k : Nat) (rs : List Reg) (w : World) (h : Plays B w p S) (hl : RegsAt [2, 3, 4] w p b rs) (hi : rs[k]? = some q0 ∧ rs[k + 1]? = some q1 ∧ rs[k + 2]? = some r0 ∧ rs[k + 3]? = some r1) (hq0 : q0.ok) (hq1 : q1.ok) (hr0 : r0.ok) (hr1 : r1.ok)
    (hm0 : 0 ≤ me) (hm1 : me < q0.n) (hm2 : me < q1.n) (hm3 : me < r0.n) (hm4 : me < r1.n) (ht1 : q0.told me) (_ht2 : r0.told me) (hN : S.left < N) (hs : bitM side = 1) (hc4 : 4 ≤ c) (hc5 : c ≤ 9223372036854775807) :
    Calls Tryz.prog 28 #[.pointer (some ⟨p, 0, none⟩), .slice (some ⟨b, k * 7, none⟩) 4 c, .int .i64 side, .int .i64 me] w (Post encU B p w ((kesEnter N q1 q0 r1 r0 1 me).run S)) := by
  generalize hR : Post encU B p w ((kesEnter N q1 q0 r1 r0 1 me).run S) = R
  have hO : Owes R encU B p w ((kesEnter N q1 q0 r1 r0 1 me).run S) := hR ▸ owes _ _ _ _ _
  clear hR
  replace hi := Lib.hid hi
  have hmf : ∀ (fn : Fn) (first cap : Array Value) (w : World), (Instr.makeFunc fn first cap).run Tryz.prog w = .ok (.func fn first cap) w := fun _ _ _ _ => rfl
  have hK := Keep.refl [2, 3, 4] B p w
  have hP := h
  clear h
  unfold kesEnter at hO
  obtain ⟨⟨a0, a1, a2, a3, a4, a5, a6⟩, ⟨e0, e1, e2, e3, e4, e5, e6⟩, ⟨f0, f1, f2, f3, f4, f5, f6⟩, ⟨g0, g1, g2, g3, g4, g5, g6⟩⟩ := hl.node4 hi.out
  have hc6 : (2 : Int) ≤ (c : Int) := by omega
  have hc7 : (4 : Int) ≤ (c : Int) := by omega
  have hb := kbit_p side w
  rw [hs] at hb
  clear hs
  go_enter Tryz.func28, Tryz.ntmps28
  go_wp2_with fail
  refine hb.mono ?_
  rintro e w' ⟨rfl, rfl⟩
  clear hb
  go_wp2_with fail
  go_quiet (fail)
  have hx := (Ext.refl w).drewN nq
  replace hl := hl.extL hx hP.lt
  replace hK := hK.trans (Keep.of_ext hx hP.lt hP.le)
  replace hP := hP.ext hx
  clear a0 a1 a2 a3 a4 a5 a6 e0 e1 e2 e3 e4 e5 e6 f0 f1 f2 f3 f4 f5 f6 g0 g1 g2 g3 g4 g5 g6 hx
  generalize w.drewN nq = wz at *
  obtain ⟨⟨a0, a1, a2, a3, a4, a5, a6⟩, ⟨e0, e1, e2, e3, e4, e5, e6⟩, ⟨f0, f1, f2, f3, f4, f5, f6⟩, ⟨g0, g1, g2, g3, g4, g5, g6⟩⟩ := hl.node4 hi.out
  go_wp2_with fail
  refine tstepL hO hK (reg_write_p B p S q1 me 1 _ hP hq1 ⟨hm0, by omega⟩) (fun _ h => ⟨rfl, h⟩) ?_
  clear hO hK hP
  intro u S w1 hlf _ hP hk hK hO
  replace hN := Nat.lt_of_le_of_lt hlf hN
  replace hl := hl.keep hk
  clear a0 a1 a2 a3 a4 a5 a6 e0 e1 e2 e3 e4 e5 e6 f0 f1 f2 f3 f4 f5 f6 g0 g1 g2 g3 g4 g5 g6 hk hlf
  obtain ⟨⟨a0, a1, a2, a3, a4, a5, a6⟩, ⟨e0, e1, e2, e3, e4, e5, e6⟩, ⟨f0, f1, f2, f3, f4, f5, f6⟩, ⟨g0, g1, g2, g3, g4, g5, g6⟩⟩ := hl.node4 hi.out
  go_wp2_with fail
  refine tstepL hO hK (reg_read_p B p S r0 me _ hP hr0 ⟨hm0, by omega⟩) (fun _ h => ⟨rfl, h⟩) ?_
  clear hO hK hP
  intro x S w2 hlf _ hP hk hK hO
  replace hN := Nat.lt_of_le_of_lt hlf hN
  replace hl := hl.keep hk
  clear a0 a1 a2 a3 a4 a5 a6 e0 e1 e2 e3 e4 e5 e6 f0 f1 f2 f3 f4 f5 f6 g0 g1 g2 g3 g4 g5 g6 hk hlf
  obtain ⟨⟨a0, a1, a2, a3, a4, a5, a6⟩, ⟨e0, e1, e2, e3, e4, e5, e6⟩, ⟨f0, f1, f2, f3, f4, f5, f6⟩, ⟨g0, g1, g2, g3, g4, g5, g6⟩⟩ := hl.node4 hi.out
  go_wp2_with fail
  have hbx : 0 ≤ bitM x ∧ bitM x ≤ 1 := by unfold bitM; split <;> omega
  have hwx := w64 (1 - bitM x) (by omega) (by omega)
  refine (kbit_p x _).mono ?_
  rintro e w' ⟨rfl, rfl⟩
  go_wp2_with fail
  have hPo := hP
  have bT := hP.held (.cells #[.int .i64 (1 - bitM x)] 3)
  replace hK := hK.trans (Keep.alloc (.cells #[.int .i64 (1 - bitM x)] 3) hP.lt hP.le)
  replace hP := hP.alloc (.cells #[.int .i64 (1 - bitM x)] 3)
  have c_bT := bT.cells
  replace hl := hl.extL ((Ext.refl _).alloc (.cells #[.int .i64 (1 - bitM x)] 3)) hPo.lt
  clear hPo
  clear a0 a1 a2 a3 a4 a5 a6 e0 e1 e2 e3 e4 e5 e6 f0 f1 f2 f3 f4 f5 f6 g0 g1 g2 g3 g4 g5 g6
  rw [show kesT 1 x = (1 - bitM x) from rfl] at hO
  replace hP := hP.drew
  replace hK := hK.drew
  replace bT := bT.drew
  replace hl := hl.extL (Ext.refl _).drew hP.lt
  have hS : ∀ w', RegsAt [2, 3, 4] w' p b rs → HeldP w' p w2.heap.size (.cells #[.int .i64 (1 - bitM x)] 3) → (w'.cell? ⟨b, k * 7 + 14 + 7, none⟩ = some (.int .i64 r1.kind) ∧ w'.cell? ⟨b, k * 7 + 14 + 7 + 1, none⟩ = some (.int .i64 r1.base) ∧ w'.cell? ⟨b, k * 7 + 14 + 7 + 2, none⟩ = some (.int .i64 r1.loc) ∧ w'.cell? ⟨b, k * 7 + 14 + 7 + 3, none⟩ = some (.int .i64 r1.n) ∧ w'.cell? ⟨b, k * 7 + 14 + 7 + 4, none⟩ = some (.int .i64 r1.wr) ∧ w'.cell? ⟨b, k * 7 + 14 + 7 + 5, none⟩ = some (.int .i64 r1.rd) ∧ w'.cell? ⟨b, k * 7 + 14 + 7 + 6, none⟩ = some (.int .i64 r1.top)) ∧ (∀ i, w'.cell? ⟨w2.heap.size, i, none⟩ = (#[.int .i64 (1 - bitM x)] : Array Value)[i]?) := fun w' h1 h2 => by
    obtain ⟨y0, y1, y2, y3, y4, y5, y6⟩ := (h1.node4 hi.out).2.2.2
    exact ⟨⟨y0, y1, y2, y3, y4, y5, y6⟩, h2.cells⟩
  go_region_held2 (fun w' => (w'.cell? ⟨b, k * 7 + 14 + 7, none⟩ = some (.int .i64 r1.kind) ∧ w'.cell? ⟨b, k * 7 + 14 + 7 + 1, none⟩ = some (.int .i64 r1.base) ∧ w'.cell? ⟨b, k * 7 + 14 + 7 + 2, none⟩ = some (.int .i64 r1.loc) ∧ w'.cell? ⟨b, k * 7 + 14 + 7 + 3, none⟩ = some (.int .i64 r1.n) ∧ w'.cell? ⟨b, k * 7 + 14 + 7 + 4, none⟩ = some (.int .i64 r1.wr) ∧ w'.cell? ⟨b, k * 7 + 14 + 7 + 5, none⟩ = some (.int .i64 r1.rd) ∧ w'.cell? ⟨b, k * 7 + 14 + 7 + 6, none⟩ = some (.int .i64 r1.top)) ∧ (∀ i, w'.cell? ⟨w2.heap.size, i, none⟩ = (#[.int .i64 (1 - bitM x)] : Array Value)[i]?)) (exact hS _ hl bT)
    (first
      | (go_at_call 89
         refine tstepL hO hK (reg_write_p B p S r1 me (1 - bitM x) _ hP hr1 ⟨hm0, by omega⟩) (fun _ h => ⟨rfl, h⟩) ?_
         clear hO hK hP
         intro u S w3 hlf _ hP hk hK hO
         replace hN := Nat.lt_of_le_of_lt hlf hN
         replace hl := hl.keep hk
         replace bT := bT.keep hk
         clear hk hlf))
  rename_i hh
  clear hh c_bT
  generalize htx : (1 - bitM x) = t at *
  go_wp2_with fail
  go_loopw [] (fun wr => ∃ (n : Nat) (S1 : TS), Plays B wr p S1 ∧ KeepP B p w wr ∧ HeldP wr p w2.heap.size (.cells #[.int .i64 t] 3) ∧ RegsAt [2, 3, 4] wr p b rs ∧ Hid (Owes R encU B p w ((kesSpin q0 r0 1 t me n).run S1)) ∧ S1.left < n) (fun wr => leftW 1 3 wr p)
  case atStart => exact ⟨N, S, hP, hK, bT, hl, hO, hN⟩
  case round =>
    clear hS hP hK bT hl hO hN
    obtain ⟨n, S1, hP, hK, bT, hl, hO, hN⟩ := hrel
    have hO := hO.out
    have hlw := Lib.hid hP.left
    cases n with
    | zero => omega
    | succ n =>
      unfold kesSpin at hO
      obtain ⟨⟨a0, a1, a2, a3, a4, a5, a6⟩, ⟨e0, e1, e2, e3, e4, e5, e6⟩, ⟨f0, f1, f2, f3, f4, f5, f6⟩, ⟨g0, g1, g2, g3, g4, g5, g6⟩⟩ := hl.node4 hi.out
      go_wp2_with fail
      refine tstepL hO hK (reg_read_p B p S1 q0 me _ hP hq0 ⟨hm0, by omega⟩) (fun _ h => ⟨rfl, h⟩) ?_
      clear hO hK hP
      intro v S2 w4 _ hlf hP hk hK hO
      replace hlf := hlf (asks_regR _ _ ht1)
      replace hl := hl.keep hk
      replace bT := bT.keep hk
      clear a0 a1 a2 a3 a4 a5 a6 e0 e1 e2 e3 e4 e5 e6 f0 f1 f2 f3 f4 f5 f6 g0 g1 g2 g3 g4 g5 g6 hk
      by_cases hv : v = 0
      · rw [if_pos hv] at hO
        subst hv
        have hf : R (.returned (encU ())) w4 := hO.done hP hK
        clear hO hP hK hl bT
        go_wp2_with fail
        first | exact hf | (refine bodyPost_ret (results_none rfl _ _ _) rfl ?_; exact hf)
      · rw [if_neg hv] at hO
        have hv2 : (v == 0) = false := by rw [beq_eq_false_iff_ne]; exact hv
        obtain ⟨⟨a0, a1, a2, a3, a4, a5, a6⟩, ⟨e0, e1, e2, e3, e4, e5, e6⟩, ⟨f0, f1, f2, f3, f4, f5, f6⟩, ⟨g0, g1, g2, g3, g4, g5, g6⟩⟩ := hl.node4 hi.out
        clear hv
        go_wp2_with fail
        refine tstepL hO hK (reg_read_p B p S2 r0 me _ hP hr0 ⟨hm0, by omega⟩) (fun _ h => ⟨rfl, h⟩) ?_
        clear hO hK hP
        intro y S3 w5 hlf2 _ hP hk hK hO
        replace hl := hl.keep hk
        replace bT := bT.keep hk
        clear a0 a1 a2 a3 a4 a5 a6 e0 e1 e2 e3 e4 e5 e6 f0 f1 f2 f3 f4 f5 f6 g0 g1 g2 g3 g4 g5 g6 hk
        have c_bT := bT.cells
        go_wp2_with fail
        refine (kbit_p y _).mono ?_
        rintro e w' ⟨rfl, rfl⟩
        go_wp2_with fail
        refine (kfree1_p (bitM y) t _ _ (c_bT 0)).mono ?_
        rintro e w' ⟨rfl, rfl⟩
        by_cases hy : kesFree 1 t y = true
        · rw [if_pos hy] at hO
          have hy2 : (bitM y == t) = true := by unfold kesFree at hy; simpa using hy
          have hf : R (.returned (encU ())) w5 := hO.done hP hK
          clear hO hP hK hl bT hy
          go_wp2_with fail
          first | exact hf | (refine bodyPost_ret (results_none rfl _ _ _) rfl ?_; exact hf)
        · rw [if_neg hy] at hO
          have hy2 : (bitM y == t) = false := by unfold kesFree at hy; simpa using hy
          obtain ⟨⟨a0, a1, a2, a3, a4, a5, a6⟩, ⟨e0, e1, e2, e3, e4, e5, e6⟩, ⟨f0, f1, f2, f3, f4, f5, f6⟩, ⟨g0, g1, g2, g3, g4, g5, g6⟩⟩ := hl.node4 hi.out
          clear hy c_bT
          go_wp2_with fail
          refine (cells_pm q0 me _ hq0 ht1 ⟨hm0, by omega⟩).mono ?_
          rintro e w6 ⟨cc, rfl, hcc, hx⟩
          replace hl := hl.extL hx hP.lt
          replace bT := bT.ext hx hP.lt
          replace hK := hK.trans (Keep.of_ext hx hP.lt hP.le)
          replace hP := hP.ext hx
          clear a0 a1 a2 a3 a4 a5 a6 e0 e1 e2 e3 e4 e5 e6 f0 f1 f2 f3 f4 f5 f6 g0 g1 g2 g3 g4 g5 g6 hx
          have hlw2 := Lib.hid hP.left
          have hOh := Lib.hid hO
          clear hO
          go_wp2_with fail
          refine ⟨⟨n, S3, hP, hK, bT, hl, hOh, by omega⟩, ?_⟩
          rw [hlw.out, hlw2.out]
          omega
theorem kesn_leave_p (B p : Nat) (S : TS) (q0 q1 r0 r1 : Reg) (side me : Int) (b c k : Nat) (rs : List Reg) (w : World) (h : Plays B w p S) (hl : RegsAt [2, 3, 4] w p b rs) (hi : rs[k]? = some q0 ∧ rs[k + 1]? = some q1 ∧ rs[k + 2]? = some r0 ∧ rs[k + 3]? = some r1) (hq0 : q0.ok) (hq1 : q1.ok)
    (hm0 : 0 ≤ me) (hm1 : me < q0.n) (hm2 : me < q1.n) :
    Calls Tryz.prog 31 #[.pointer (some ⟨p, 0, none⟩), .slice (some ⟨b, k * 7, none⟩) 4 c, .int .i64 side, .int .i64 me] w (Post encU B p w ((regW (if bitM side = 1 then q1 else q0) me 0).run S)) := by
  replace hi := Lib.hid hi
  have hb := kbit_p' side w
  obtain ⟨⟨a0, a1, a2, a3, a4, a5, a6⟩, ⟨e0, e1, e2, e3, e4, e5, e6⟩, -, -⟩ := hl.node4 hi.out
  have hs : bitM side = 0 ∨ bitM side = 1 := by unfold bitM; split <;> simp
  rcases hs with hs | hs
  · rw [hs] at hb ⊢
    rw [if_neg (by omega)]
    generalize hR : Post encU B p w ((regW q0 me 0).run S) = R
    have hO : Owes R encU B p w ((regW q0 me 0).run S) := hR ▸ owes _ _ _ _ _
    clear hR
    go_enter Tryz.func31, Tryz.ntmps31
    go_wp2_with fail
    refine hb.mono ?_
    rintro e w' ⟨rfl, rfl⟩
    go_wp2_with fail
    clear a0 a1 a2 a3 a4 a5 a6 e0 e1 e2 e3 e4 e5 e6 hl hb
    refine tlast hO (Keep.refl _ _ _ _) (reg_write_p B p S q0 me 0 _ h hq0 ⟨hm0, hm1⟩) (fun _ h => ⟨rfl, h⟩) ?_
    intro v S1 w1 hr hP1 hk1 hK1 hO1
    have hf := hO1.done hP1 hK1
    clear hO1 hP1 hK1 hr hk1 hO h
    go_wp2_with fail
    first | exact hf | (refine bodyPost_ret (results_none rfl _ _ _) rfl ?_; exact hf)
  · rw [hs] at hb ⊢
    rw [if_pos rfl]
    generalize hR : Post encU B p w ((regW q1 me 0).run S) = R
    have hO : Owes R encU B p w ((regW q1 me 0).run S) := hR ▸ owes _ _ _ _ _
    clear hR
    go_enter Tryz.func31, Tryz.ntmps31
    go_wp2_with fail
    refine hb.mono ?_
    rintro e w' ⟨rfl, rfl⟩
    go_wp2_with fail
    clear a0 a1 a2 a3 a4 a5 a6 e0 e1 e2 e3 e4 e5 e6 hl hb
    refine tlast hO (Keep.refl _ _ _ _) (reg_write_p B p S q1 me 0 _ h hq1 ⟨hm0, hm2⟩) (fun _ h => ⟨rfl, h⟩) ?_
    intro v S1 w1 hr hP1 hk1 hK1 hO1
    have hf := hO1.done hP1 hK1
    clear hO1 hP1 hK1 hr hk1 hO h
    go_wp2_with fail
    first | exact hf | (refine bodyPost_ret (results_none rfl _ _ _) rfl ?_; exact hf)
set_option maxRecDepth 100000 in
set_option maxHeartbeats 1000000 in
theorem kesn_zero_r (B p N : Nat) (o : Bool) (S : TS) (q0 q1 r0 r1 : Reg) (me : Int) (b c k : Nat) (rs : List Reg) (w : World) (h : RAt B w p o S) (hl : RegsAt [3, 4, 5] w p b rs) (hi : rs[k]? = some q0 ∧ rs[k + 1]? = some q1 ∧ rs[k + 2]? = some r0 ∧ rs[k + 3]? = some r1) (hq0 : q0.ok) (hq1 : q1.ok) (hr0 : r0.ok) (hr1 : r1.ok)
    (hm0 : 0 ≤ me) (hm1 : me < q0.n) (hm2 : me < q1.n) (hm3 : me < r0.n) (hm4 : me < r1.n) (ht1 : q1.told me) (_ht2 : r1.told me) (hN : S.left < N) :
    Calls Tryz.prog 101 #[.pointer (some ⟨p, 0, none⟩), .slice (some ⟨b, k * 7, none⟩) 4 c, .int .i64 me] w (RPost encU B p w (kesEnter N q0 q1 r0 r1 0 me) o S) := by
  generalize hR : RPost encU B p w (kesEnter N q0 q1 r0 r1 0 me) o S = R
  have hO : ROwes R encU B p w (kesEnter N q0 q1 r0 r1 0 me) o S := hR ▸ rowes _ _ _ _ _ _ _
  clear hR
  replace hi := Lib.hid hi
  have hK := Keep.refl [3, 4, 5] B p w
  have hP := h
  clear h
  unfold kesEnter at hO
  obtain ⟨⟨a0, a1, a2, a3, a4, a5, a6⟩, ⟨e0, e1, e2, e3, e4, e5, e6⟩, ⟨f0, f1, f2, f3, f4, f5, f6⟩, ⟨g0, g1, g2, g3, g4, g5, g6⟩⟩ := hl.node4r hi.out
  go_enter Tryz.func101, Tryz.ntmps101
  go_wp2_with fail
  refine rstepL hO hK (reg_write_r B p o S q0 me 1 _ hP hq0 ⟨hm0, by omega⟩) ?_
  clear hO hK hP
  intro u o S w1 hlf _ hP hk hK hO
  replace hN := Nat.lt_of_le_of_lt hlf hN
  replace hl := hl.keep hk
  clear a0 a1 a2 a3 a4 a5 a6 e0 e1 e2 e3 e4 e5 e6 f0 f1 f2 f3 f4 f5 f6 g0 g1 g2 g3 g4 g5 g6 hk hlf
  obtain ⟨⟨a0, a1, a2, a3, a4, a5, a6⟩, ⟨e0, e1, e2, e3, e4, e5, e6⟩, ⟨f0, f1, f2, f3, f4, f5, f6⟩, ⟨g0, g1, g2, g3, g4, g5, g6⟩⟩ := hl.node4r hi.out
  obtain ⟨_, _, _, _, _, hcc⟩ := hP.cell
  cases o with
  | true =>
    have hf : R (.returned (encU ())) w1 := hO.over () hP hK
    clear hO hP hK hl
    go_wp2_with fail
    first | exact hf | (refine bodyPost_ret (results_none rfl _ _ _) rfl ?_; exact hf)
  | false =>
    go_wp2_with fail
    clear hcc
    refine rstepL hO hK (reg_read_r B p false S r1 me _ hP hr1 ⟨hm0, by omega⟩) ?_
    clear hO hK hP
    intro x o S w2 hlf _ hP hk hK hO
    replace hN := Nat.lt_of_le_of_lt hlf hN
    replace hl := hl.keep hk
    clear a0 a1 a2 a3 a4 a5 a6 e0 e1 e2 e3 e4 e5 e6 f0 f1 f2 f3 f4 f5 f6 g0 g1 g2 g3 g4 g5 g6 hk hlf
    obtain ⟨⟨a0, a1, a2, a3, a4, a5, a6⟩, ⟨e0, e1, e2, e3, e4, e5, e6⟩, ⟨f0, f1, f2, f3, f4, f5, f6⟩, ⟨g0, g1, g2, g3, g4, g5, g6⟩⟩ := hl.node4r hi.out
    have hbx : 0 ≤ bitM x ∧ bitM x ≤ 1 := by unfold bitM; split <;> omega
    have hwx := w64 (1 - bitM x) (by omega) (by omega)
    go_wp2_with fail
    refine (bit_r x _).mono ?_
    rintro e w' ⟨rfl, rfl⟩
    rw [show kesT 0 x = (bitM x) from rfl] at hO
    obtain ⟨_, _, _, _, _, hcc⟩ := hP.cell
    generalize htx : (bitM x) = t at hO ⊢
    go_upto_if 28 with fail
    go_cut [6] (fun s6 wx => s6 = .int .i64 t ∧ ∃ o1 S1, RAt B wx p o1 S1 ∧ KeepR B p w wx ∧ RegsAt [3, 4, 5] wx p b rs ∧ Hid (ROwes R encU B p w (kesSpin q1 r1 0 t me N) o1 S1) ∧ S1.left < N)
    case first =>
      clear hcc
      cases o with
      | true =>
        clear a0 a1 a2 a3 a4 a5 a6 e0 e1 e2 e3 e4 e5 e6 f0 f1 f2 f3 f4 f5 f6 g0 g1 g2 g3 g4 g5 g6
        go_wp2_with fail
        go_meet
        exact ⟨rfl, true, S, hP, hK, hl, hO.any _, hN⟩
      | false =>
        go_wp2_with fail
        refine rstepL hO hK (reg_write_r B p false S r0 me t _ hP hr0 ⟨hm0, by omega⟩) ?_
        clear hO hK hP
        intro u o S3 w3 hlf _ hP hk hK hO
        replace hl := hl.keep hk
        clear a0 a1 a2 a3 a4 a5 a6 e0 e1 e2 e3 e4 e5 e6 f0 f1 f2 f3 f4 f5 f6 g0 g1 g2 g3 g4 g5 g6 hk
        go_wp2_with fail
        go_meet
        exact ⟨rfl, o, S3, hP, hK, hl, hO, by omega⟩
    case rest =>
      clear a0 a1 a2 a3 a4 a5 a6 e0 e1 e2 e3 e4 e5 e6 f0 f1 f2 f3 f4 f5 f6 g0 g1 g2 g3 g4 g5 g6 hP hK hl hO hN hcc
      obtain ⟨rfl, o1, S1, hP, hK, hl, hO, hN⟩ := hcut
      go_wp2_with fail
      go_loopw [] (fun wr => ∃ (n : Nat) (o2 : Bool) (S2 : TS), RAt B wr p o2 S2 ∧ KeepR B p w wr ∧ RegsAt [3, 4, 5] wr p b rs ∧ Hid (ROwes R encU B p w (kesSpin q1 r1 0 t me n) o2 S2) ∧ (o2 = false → S2.left < n)) (fun wr => leftR wr p)
      case atStart => exact ⟨N, o1, S1, hP, hK, hl, hO, fun _ => hN⟩
      case round =>
        clear hP hK hl hO hN
        obtain ⟨n, o2, S2, hP, hK, hl, hO, hN⟩ := hrel
        have hO := hO.out
        have hlw := Lib.hid hP.leftR
        obtain ⟨_, _, _, _, _, hcc⟩ := hP.cell
        cases o2 with
        | true =>
          have hf : R (.returned (encU ())) wr := hO.over () hP hK
          clear hO hP hK hl hN
          go_wp2_with fail
          first | exact hf | (refine bodyPost_ret (results_none rfl _ _ _) rfl ?_; exact hf)
        | false =>
          have hN := hN rfl
          cases n with
          | zero => omega
          | succ n =>
            unfold kesSpin at hO
            obtain ⟨⟨a0, a1, a2, a3, a4, a5, a6⟩, ⟨e0, e1, e2, e3, e4, e5, e6⟩, ⟨f0, f1, f2, f3, f4, f5, f6⟩, ⟨g0, g1, g2, g3, g4, g5, g6⟩⟩ := hl.node4r hi.out
            go_wp2_with fail
            clear hcc
            refine rstepL hO hK (reg_read_r B p false S2 q1 me _ hP hq1 ⟨hm0, by omega⟩) ?_
            clear hO hK hP
            intro v o3 S3 w4 hlf hlt hP hk hK hO
            replace hl := hl.keep hk
            clear a0 a1 a2 a3 a4 a5 a6 e0 e1 e2 e3 e4 e5 e6 f0 f1 f2 f3 f4 f5 f6 g0 g1 g2 g3 g4 g5 g6 hk
            obtain ⟨_, _, _, _, _, hcc⟩ := hP.cell
            by_cases hv : v = 0
            · rw [if_pos hv] at hO
              subst hv
              have hf : R (.returned (encU ())) w4 := hO.ret hP hK
              clear hO hP hK hl hcc
              go_wp2_with fail
              first | exact hf | (refine bodyPost_ret (results_none rfl _ _ _) rfl ?_; exact hf)
            · rw [if_neg hv] at hO
              have hv2 : (v == 0) = false := by rw [beq_eq_false_iff_ne]; exact hv
              clear hv
              cases o3 with
              | true =>
                have hlw2 := Lib.hid hP.leftR
                have hOh := Lib.hid hO
                clear hO
                go_wp2_with fail
                refine ⟨⟨n, true, S3, hP, hK, hl, hOh.out.any _, fun h => by cases h⟩, ?_⟩
                rw [hlw.out, hlw2.out]
                simp
                omega
              | false =>
                replace hlt := (hlt rfl).2 (asks_regR _ _ ht1)
                obtain ⟨⟨a0, a1, a2, a3, a4, a5, a6⟩, ⟨e0, e1, e2, e3, e4, e5, e6⟩, ⟨f0, f1, f2, f3, f4, f5, f6⟩, ⟨g0, g1, g2, g3, g4, g5, g6⟩⟩ := hl.node4r hi.out
                go_wp2_with fail
                clear hcc
                refine rstepL hO hK (reg_read_r B p false S3 r1 me _ hP hr1 ⟨hm0, by omega⟩) ?_
                clear hO hK hP
                intro y o4 S4 w5 hlf4 _ hP hk hK hO
                replace hl := hl.keep hk
                clear a0 a1 a2 a3 a4 a5 a6 e0 e1 e2 e3 e4 e5 e6 f0 f1 f2 f3 f4 f5 f6 g0 g1 g2 g3 g4 g5 g6 hk
                go_wp2_with fail
                refine (bit_r y _).mono ?_
                rintro e w' ⟨rfl, rfl⟩
                by_cases hy : kesFree 0 t y = true
                · rw [if_pos hy] at hO
                  have hy2 : (bitM y != t) = true := by unfold kesFree at hy; simpa using hy
                  have hf : R (.returned (encU ())) w5 := hO.ret hP hK
                  clear hO hP hK hl hy
                  go_wp2_with fail
                  first | exact hf | (refine bodyPost_ret (results_none rfl _ _ _) rfl ?_; exact hf)
                · rw [if_neg hy] at hO
                  have hy2 : (bitM y != t) = false := by unfold kesFree at hy; simpa using hy
                  have hlw2 := Lib.hid hP.leftR
                  have hOh := Lib.hid hO
                  clear hO hy
                  go_wp2_with fail
                  refine ⟨⟨n, o4, S4, hP, hK, hl, hOh, fun _ => by omega⟩, ?_⟩
                  rw [hlw.out, hlw2.out]
                  simp only [Bool.false_eq_true, if_false]
                  split <;> omega
set_option maxRecDepth 100000 in
set_option maxHeartbeats 1000000 in
theorem kesn_one_r (B p N : Nat) (o : Bool) (S : TS) (q0 q1 r0 r1 : Reg) (me : Int) (b c k : Nat) (rs : List Reg) (w : World) (h : RAt B w p o S) (hl : RegsAt [3, 4, 5] w p b rs) (hi : rs[k]? = some q0 ∧ rs[k + 1]? = some q1 ∧ rs[k + 2]? = some r0 ∧ rs[k + 3]? = some r1) (hq0 : q0.ok) (hq1 : q1.ok) (hr0 : r0.ok) (hr1 : r1.ok)
    (hm0 : 0 ≤ me) (hm1 : me < q0.n) (hm2 : me < q1.n) (hm3 : me < r0.n) (hm4 : me < r1.n) (ht1 : q0.told me) (_ht2 : r0.told me) (hN : S.left < N) :
    Calls Tryz.prog 102 #[.pointer (some ⟨p, 0, none⟩), .slice (some ⟨b, k * 7, none⟩) 4 c, .int .i64 me] w (RPost encU B p w (kesEnter N q1 q0 r1 r0 1 me) o S) := by
  generalize hR : RPost encU B p w (kesEnter N q1 q0 r1 r0 1 me) o S = R
  have hO : ROwes R encU B p w (kesEnter N q1 q0 r1 r0 1 me) o S := hR ▸ rowes _ _ _ _ _ _ _
  clear hR
  replace hi := Lib.hid hi
  have hK := Keep.refl [3, 4, 5] B p w
  have hP := h
  clear h
  unfold kesEnter at hO
  obtain ⟨⟨a0, a1, a2, a3, a4, a5, a6⟩, ⟨e0, e1, e2, e3, e4, e5, e6⟩, ⟨f0, f1, f2, f3, f4, f5, f6⟩, ⟨g0, g1, g2, g3, g4, g5, g6⟩⟩ := hl.node4r hi.out
  go_enter Tryz.func102, Tryz.ntmps102
  go_wp2_with fail
  refine rstepL hO hK (reg_write_r B p o S q1 me 1 _ hP hq1 ⟨hm0, by omega⟩) ?_
  clear hO hK hP
  intro u o S w1 hlf _ hP hk hK hO
  replace hN := Nat.lt_of_le_of_lt hlf hN
  replace hl := hl.keep hk
  clear a0 a1 a2 a3 a4 a5 a6 e0 e1 e2 e3 e4 e5 e6 f0 f1 f2 f3 f4 f5 f6 g0 g1 g2 g3 g4 g5 g6 hk hlf
  obtain ⟨⟨a0, a1, a2, a3, a4, a5, a6⟩, ⟨e0, e1, e2, e3, e4, e5, e6⟩, ⟨f0, f1, f2, f3, f4, f5, f6⟩, ⟨g0, g1, g2, g3, g4, g5, g6⟩⟩ := hl.node4r hi.out
  obtain ⟨_, _, _, _, _, hcc⟩ := hP.cell
  cases o with
  | true =>
    have hf : R (.returned (encU ())) w1 := hO.over () hP hK
    clear hO hP hK hl
    go_wp2_with fail
    first | exact hf | (refine bodyPost_ret (results_none rfl _ _ _) rfl ?_; exact hf)
  | false =>
    go_wp2_with fail
    clear hcc
    refine rstepL hO hK (reg_read_r B p false S r0 me _ hP hr0 ⟨hm0, by omega⟩) ?_
    clear hO hK hP
    intro x o S w2 hlf _ hP hk hK hO
    replace hN := Nat.lt_of_le_of_lt hlf hN
    replace hl := hl.keep hk
    clear a0 a1 a2 a3 a4 a5 a6 e0 e1 e2 e3 e4 e5 e6 f0 f1 f2 f3 f4 f5 f6 g0 g1 g2 g3 g4 g5 g6 hk hlf
    obtain ⟨⟨a0, a1, a2, a3, a4, a5, a6⟩, ⟨e0, e1, e2, e3, e4, e5, e6⟩, ⟨f0, f1, f2, f3, f4, f5, f6⟩, ⟨g0, g1, g2, g3, g4, g5, g6⟩⟩ := hl.node4r hi.out
    have hbx : 0 ≤ bitM x ∧ bitM x ≤ 1 := by unfold bitM; split <;> omega
    have hwx := w64 (1 - bitM x) (by omega) (by omega)
    go_wp2_with fail
    refine (bit_r x _).mono ?_
    rintro e w' ⟨rfl, rfl⟩
    rw [show kesT 1 x = (1 - bitM x) from rfl] at hO
    obtain ⟨_, _, _, _, _, hcc⟩ := hP.cell
    generalize htx : (1 - bitM x) = t at hO ⊢
    go_upto_if 29 with fail
    go_cut [6] (fun s6 wx => s6 = .int .i64 t ∧ ∃ o1 S1, RAt B wx p o1 S1 ∧ KeepR B p w wx ∧ RegsAt [3, 4, 5] wx p b rs ∧ Hid (ROwes R encU B p w (kesSpin q0 r0 1 t me N) o1 S1) ∧ S1.left < N)
    case first =>
      clear hcc
      cases o with
      | true =>
        clear a0 a1 a2 a3 a4 a5 a6 e0 e1 e2 e3 e4 e5 e6 f0 f1 f2 f3 f4 f5 f6 g0 g1 g2 g3 g4 g5 g6
        go_wp2_with fail
        go_meet
        exact ⟨rfl, true, S, hP, hK, hl, hO.any _, hN⟩
      | false =>
        go_wp2_with fail
        refine rstepL hO hK (reg_write_r B p false S r1 me t _ hP hr1 ⟨hm0, by omega⟩) ?_
        clear hO hK hP
        intro u o S3 w3 hlf _ hP hk hK hO
        replace hl := hl.keep hk
        clear a0 a1 a2 a3 a4 a5 a6 e0 e1 e2 e3 e4 e5 e6 f0 f1 f2 f3 f4 f5 f6 g0 g1 g2 g3 g4 g5 g6 hk
        go_wp2_with fail
        go_meet
        exact ⟨rfl, o, S3, hP, hK, hl, hO, by omega⟩
    case rest =>
      clear a0 a1 a2 a3 a4 a5 a6 e0 e1 e2 e3 e4 e5 e6 f0 f1 f2 f3 f4 f5 f6 g0 g1 g2 g3 g4 g5 g6 hP hK hl hO hN hcc
      obtain ⟨rfl, o1, S1, hP, hK, hl, hO, hN⟩ := hcut
      go_wp2_with fail
      go_loopw [] (fun wr => ∃ (n : Nat) (o2 : Bool) (S2 : TS), RAt B wr p o2 S2 ∧ KeepR B p w wr ∧ RegsAt [3, 4, 5] wr p b rs ∧ Hid (ROwes R encU B p w (kesSpin q0 r0 1 t me n) o2 S2) ∧ (o2 = false → S2.left < n)) (fun wr => leftR wr p)
      case atStart => exact ⟨N, o1, S1, hP, hK, hl, hO, fun _ => hN⟩
      case round =>
        clear hP hK hl hO hN
        obtain ⟨n, o2, S2, hP, hK, hl, hO, hN⟩ := hrel
        have hO := hO.out
        have hlw := Lib.hid hP.leftR
        obtain ⟨_, _, _, _, _, hcc⟩ := hP.cell
        cases o2 with
        | true =>
          have hf : R (.returned (encU ())) wr := hO.over () hP hK
          clear hO hP hK hl hN
          go_wp2_with fail
          first | exact hf | (refine bodyPost_ret (results_none rfl _ _ _) rfl ?_; exact hf)
        | false =>
          have hN := hN rfl
          cases n with
          | zero => omega
          | succ n =>
            unfold kesSpin at hO
            obtain ⟨⟨a0, a1, a2, a3, a4, a5, a6⟩, ⟨e0, e1, e2, e3, e4, e5, e6⟩, ⟨f0, f1, f2, f3, f4, f5, f6⟩, ⟨g0, g1, g2, g3, g4, g5, g6⟩⟩ := hl.node4r hi.out
            go_wp2_with fail
            clear hcc
            refine rstepL hO hK (reg_read_r B p false S2 q0 me _ hP hq0 ⟨hm0, by omega⟩) ?_
            clear hO hK hP
            intro v o3 S3 w4 hlf hlt hP hk hK hO
            replace hl := hl.keep hk
            clear a0 a1 a2 a3 a4 a5 a6 e0 e1 e2 e3 e4 e5 e6 f0 f1 f2 f3 f4 f5 f6 g0 g1 g2 g3 g4 g5 g6 hk
            obtain ⟨_, _, _, _, _, hcc⟩ := hP.cell
            by_cases hv : v = 0
            · rw [if_pos hv] at hO
              subst hv
              have hf : R (.returned (encU ())) w4 := hO.ret hP hK
              clear hO hP hK hl hcc
              go_wp2_with fail
              first | exact hf | (refine bodyPost_ret (results_none rfl _ _ _) rfl ?_; exact hf)
            · rw [if_neg hv] at hO
              have hv2 : (v == 0) = false := by rw [beq_eq_false_iff_ne]; exact hv
              clear hv
              cases o3 with
              | true =>
                have hlw2 := Lib.hid hP.leftR
                have hOh := Lib.hid hO
                clear hO
                go_wp2_with fail
                refine ⟨⟨n, true, S3, hP, hK, hl, hOh.out.any _, fun h => by cases h⟩, ?_⟩
                rw [hlw.out, hlw2.out]
                simp
                omega
              | false =>
                replace hlt := (hlt rfl).2 (asks_regR _ _ ht1)
                obtain ⟨⟨a0, a1, a2, a3, a4, a5, a6⟩, ⟨e0, e1, e2, e3, e4, e5, e6⟩, ⟨f0, f1, f2, f3, f4, f5, f6⟩, ⟨g0, g1, g2, g3, g4, g5, g6⟩⟩ := hl.node4r hi.out
                go_wp2_with fail
                clear hcc
                refine rstepL hO hK (reg_read_r B p false S3 r0 me _ hP hr0 ⟨hm0, by omega⟩) ?_
                clear hO hK hP
                intro y o4 S4 w5 hlf4 _ hP hk hK hO
                replace hl := hl.keep hk
                clear a0 a1 a2 a3 a4 a5 a6 e0 e1 e2 e3 e4 e5 e6 f0 f1 f2 f3 f4 f5 f6 g0 g1 g2 g3 g4 g5 g6 hk
                go_wp2_with fail
                refine (bit_r y _).mono ?_
                rintro e w' ⟨rfl, rfl⟩
                by_cases hy : kesFree 1 t y = true
                · rw [if_pos hy] at hO
                  have hy2 : (bitM y == t) = true := by unfold kesFree at hy; simpa using hy
                  have hf : R (.returned (encU ())) w5 := hO.ret hP hK
                  clear hO hP hK hl hy
                  go_wp2_with fail
                  first | exact hf | (refine bodyPost_ret (results_none rfl _ _ _) rfl ?_; exact hf)
                · rw [if_neg hy] at hO
                  have hy2 : (bitM y == t) = false := by unfold kesFree at hy; simpa using hy
                  have hlw2 := Lib.hid hP.leftR
                  have hOh := Lib.hid hO
                  clear hO hy
                  go_wp2_with fail
                  refine ⟨⟨n, o4, S4, hP, hK, hl, hOh, fun _ => by omega⟩, ?_⟩
                  rw [hlw.out, hlw2.out]
                  simp only [Bool.false_eq_true, if_false]
                  split <;> omega
theorem kesn_enter_p (B p N : Nat) (S : TS) (q0 q1 r0 r1 : Reg) (side me : Int) (b c k : Nat) (rs : List Reg) (w : World) (h : Plays B w p S) (hl : RegsAt [2, 3, 4] w p b rs) (hi : rs[k]? = some q0 ∧ rs[k + 1]? = some q1 ∧ rs[k + 2]? = some r0 ∧ rs[k + 3]? = some r1) (hq0 : q0.ok) (hq1 : q1.ok) (hr0 : r0.ok) (hr1 : r1.ok)
    (hm0 : 0 ≤ me) (hm1 : me < q0.n) (hm2 : me < q1.n) (hm3 : me < r0.n) (hm4 : me < r1.n) (ht1 : q0.told me) (ht2 : q1.told me) (ht3 : r0.told me) (ht4 : r1.told me) (hN : S.left < N) (hc4 : 4 ≤ c) (hc5 : c ≤ 9223372036854775807) :
    Calls Tryz.prog 28 #[.pointer (some ⟨p, 0, none⟩), .slice (some ⟨b, k * 7, none⟩) 4 c, .int .i64 side, .int .i64 me] w (Post encU B p w ((kesM N q0 q1 r0 r1 side me).run S)) := by
  unfold kesM
  rcases bitM_or side with hs | hs
  · rw [if_neg (by omega)]
    exact kesn_enter_p0 B p N S q0 q1 r0 r1 side me b c k rs w h hl hi hq0 hq1 hr0 hr1 hm0 hm1 hm2 hm3 hm4 ht2 ht4 hN hs hc4 hc5
  · rw [if_pos hs]
    exact kesn_enter_p1 B p N S q0 q1 r0 r1 side me b c k rs w h hl hi hq0 hq1 hr0 hr1 hm0 hm1 hm2 hm3 hm4 ht1 ht3 hN hs hc4 hc5
theorem kesn_enter_r (B p N : Nat) (o : Bool) (S : TS) (q0 q1 r0 r1 : Reg) (side me : Int) (b c k : Nat) (rs : List Reg) (w : World) (h : RAt B w p o S) (hl : RegsAt [3, 4, 5] w p b rs) (hi : rs[k]? = some q0 ∧ rs[k + 1]? = some q1 ∧ rs[k + 2]? = some r0 ∧ rs[k + 3]? = some r1) (hq0 : q0.ok) (hq1 : q1.ok) (hr0 : r0.ok) (hr1 : r1.ok)
    (hm0 : 0 ≤ me) (hm1 : me < q0.n) (hm2 : me < q1.n) (hm3 : me < r0.n) (hm4 : me < r1.n) (ht1 : q0.told me) (ht2 : q1.told me) (ht3 : r0.told me) (ht4 : r1.told me) (hN : S.left < N) :
    Calls Tryz.prog 29 #[.pointer (some ⟨p, 0, none⟩), .slice (some ⟨b, k * 7, none⟩) 4 c, .int .i64 side, .int .i64 me] w (RPost encU B p w (kesM N q0 q1 r0 r1 side me) o S) := by
  unfold kesM
  by_cases hs : side = 0
  · have hb : bitM side = 0 := by unfold bitM; rw [if_pos hs]
    rw [if_neg (by omega)]
    have hz := kesn_zero_r B p N o S q0 q1 r0 r1 me b c k rs w h hl hi hq0 hq1 hr0 hr1 hm0 hm1 hm2 hm3 hm4 ht2 ht4 hN
    generalize hR : RPost encU B p w (kesEnter N q0 q1 r0 r1 0 me) o S = R
    have hO : ROwes R encU B p w (kesEnter N q0 q1 r0 r1 0 me) o S := hR ▸ rowes _ _ _ _ _ _ _
    clear hR
    clear hb
    go_enter Tryz.func29, Tryz.ntmps29
    go_wp2_with fail
    refine hz.mono fun e w' hp => ?_
    have hf := hO e w' hp
    obtain ⟨a, o', S', rfl, _⟩ := hp
    clear hO hz h hl
    go_wp2_with fail
    first | exact hf | (refine bodyPost_ret (results_none rfl _ _ _) rfl ?_; exact hf)
  · have hb : bitM side = 1 := by unfold bitM; rw [if_neg hs]
    have hs2 : (side == 0) = false := by rw [beq_eq_false_iff_ne]; exact hs
    rw [if_pos hb]
    have hz := kesn_one_r B p N o S q0 q1 r0 r1 me b c k rs w h hl hi hq0 hq1 hr0 hr1 hm0 hm1 hm2 hm3 hm4 ht1 ht3 hN
    generalize hR : RPost encU B p w (kesEnter N q1 q0 r1 r0 1 me) o S = R
    have hO : ROwes R encU B p w (kesEnter N q1 q0 r1 r0 1 me) o S := hR ▸ rowes _ _ _ _ _ _ _
    clear hR
    clear hb hs
    go_enter Tryz.func29, Tryz.ntmps29
    go_wp2_with fail
    refine hz.mono fun e w' hp => ?_
    have hf := hO e w' hp
    obtain ⟨a, o', S', rfl, _⟩ := hp
    clear hO hz h hl
    go_wp2_with fail
    first | exact hf | (refine bodyPost_ret (results_none rfl _ _ _) rfl ?_; exact hf)
theorem kesn_leave_r (B p : Nat) (o : Bool) (S : TS) (q0 q1 r0 r1 : Reg) (side me : Int) (b c k : Nat) (rs : List Reg) (w : World) (h : RAt B w p o S) (hl : RegsAt [3, 4, 5] w p b rs) (hi : rs[k]? = some q0 ∧ rs[k + 1]? = some q1 ∧ rs[k + 2]? = some r0 ∧ rs[k + 3]? = some r1) (hq0 : q0.ok) (hq1 : q1.ok)
    (hm0 : 0 ≤ me) (hm1 : me < q0.n) (hm2 : me < q1.n) :
    Calls Tryz.prog 140 #[.pointer (some ⟨p, 0, none⟩), .slice (some ⟨b, k * 7, none⟩) 4 c, .int .i64 side, .int .i64 me] w (RPost encU B p w (kesL q0 q1 side me) o S) := by
  replace hi := Lib.hid hi
  have hb := bit_r side w
  unfold kesL
  obtain ⟨⟨a0, a1, a2, a3, a4, a5, a6⟩, ⟨e0, e1, e2, e3, e4, e5, e6⟩, -, -⟩ := hl.node4r hi.out
  rcases bitM_or side with hs | hs
  · rw [hs] at hb ⊢
    rw [if_neg (by omega)]
    have hz := reg_write_r B p o S q0 me 0 w h hq0 ⟨hm0, hm1⟩
    generalize hR : RPost encU B p w (regW q0 me 0) o S = R
    have hO : ROwes R encU B p w (regW q0 me 0) o S := hR ▸ rowes _ _ _ _ _ _ _
    clear hR
    go_enter Tryz.func140, Tryz.ntmps140
    go_wp2_with fail
    refine hb.mono ?_
    rintro e w' ⟨rfl, rfl⟩
    go_wp2_with fail
    clear a0 a1 a2 a3 a4 a5 a6 e0 e1 e2 e3 e4 e5 e6 hl hb
    refine hz.mono fun e w' hp => ?_
    have hf := hO e w' hp
    obtain ⟨a, o', S', rfl, _⟩ := hp
    clear hO hz h
    go_wp2_with fail
    first | exact hf | (refine bodyPost_ret (results_none rfl _ _ _) rfl ?_; exact hf)
  · rw [hs] at hb ⊢
    rw [if_pos rfl]
    have hz := reg_write_r B p o S q1 me 0 w h hq1 ⟨hm0, hm2⟩
    generalize hR : RPost encU B p w (regW q1 me 0) o S = R
    have hO : ROwes R encU B p w (regW q1 me 0) o S := hR ▸ rowes _ _ _ _ _ _ _
    clear hR
    go_enter Tryz.func140, Tryz.ntmps140
    go_wp2_with fail
    refine hb.mono ?_
    rintro e w' ⟨rfl, rfl⟩
    go_wp2_with fail
    clear a0 a1 a2 a3 a4 a5 a6 e0 e1 e2 e3 e4 e5 e6 hl hb
    refine hz.mono fun e w' hp => ?_
    have hf := hO e w' hp
    obtain ⟨a, o', S', rfl, _⟩ := hp
    clear hO hz h
    go_wp2_with fail
    first | exact hf | (refine bodyPost_ret (results_none rfl _ _ _) rfl ?_; exact hf)
end Go.Proofs.YtpcohbpeglledaaGreat
/-
  Peterson's lock of two sides at a node of a tree, by the document.
-/
namespace Go.Proofs.YtpcohbpeglledaaGreat
open Go.RowKit Kv
set_option maxRecDepth 100000 in
set_option maxHeartbeats 1000000 in
theorem darbn_enter_r0 (B p N : Nat) (o : Bool) (S : TS) (q0 q1 rt : Reg) (side me : Int) (b c k : Nat) (rs : List Reg) (w : World) (h : RAt B w p o S) (hl : RegsAt [3, 4, 5] w p b rs) (hi : rs[k]? = some q0 ∧ rs[k + 1]? = some q1 ∧ rs[k + 2]? = some rt) (hq0 : q0.ok) (hq1 : q1.ok) (hrt : rt.ok)
    (hm0 : 0 ≤ me) (hm1 : me < q0.n) (hm2 : me < q1.n) (hm3 : me < rt.n) (ht1 : q1.told me) (hN : S.left < N) (hs : bitM side = 0) :
    Calls Tryz.prog 139 #[.pointer (some ⟨p, 0, none⟩), .slice (some ⟨b, k * 7, none⟩) 3 c, .int .i64 side, .int .i64 me] w (RPost encU B p w (arbEnter N q0 q1 rt 0 me) o S) := by
  generalize hR : RPost encU B p w (arbEnter N q0 q1 rt 0 me) o S = R
  have hO : ROwes R encU B p w (arbEnter N q0 q1 rt 0 me) o S := hR ▸ rowes _ _ _ _ _ _ _
  clear hR
  have hK := Keep.refl [3, 4, 5] B p w
  have hP := h
  clear h
  unfold arbEnter at hO
  replace hi := Lib.hid hi
  have hb := bit_r side w
  rw [hs] at hb
  clear hs
  go_enter Tryz.func139, Tryz.ntmps139
  go_wp2_with fail
  refine hb.mono ?_
  rintro e w' ⟨rfl, rfl⟩
  clear hb
  have hOh := Lib.hid hO
  clear hO
  obtain ⟨a0, a1, a2, a3, a4, a5, a6⟩ := (hl.node3 hi.out).1
  go_wp2_with fail
  replace hO := hOh.out
  clear hOh a0 a1 a2 a3 a4 a5 a6
  refine rstepL hO hK (reg_write_r B p o S q0 me 1 _ hP hq0 ⟨hm0, by omega⟩) ?_
  clear hO hK hP
  intro u o1 S1 w1 hlf _ hP hk hK hO
  replace hN := Nat.lt_of_le_of_lt hlf hN
  replace hl := hl.keep hk
  clear hk hlf
  obtain ⟨_, _, _, _, _, hcc⟩ := hP.cell
  cases o1 with
  | true =>
    have hf : R (.returned (encU ())) w1 := hO.over () hP hK
    have hPh := Lib.hid hP
    clear hO hP hK
    go_wp2_with fail
    go_loopw [] (fun wr => w1 = wr) (fun _ => 0)
    case atStart => rfl
    case round =>
      subst hrel
      go_wp2_with fail
      first | exact hf | (refine bodyPost_ret (results_none rfl _ _ _) rfl ?_; exact hf)
  | false =>
    have hOh := Lib.hid hO
    clear hO
    obtain ⟨a0, a1, a2, a3, a4, a5, a6⟩ := (hl.node3 hi.out).2.2
    go_wp2_with fail
    replace hO := hOh.out
    clear hOh a0 a1 a2 a3 a4 a5 a6 hcc
    refine rstepL hO hK (reg_write_r B p false S1 rt me 0 _ hP hrt ⟨hm0, by omega⟩) ?_
    clear hO hK hP
    intro u o2 S2 w2 hlf _ hP hk hK hO
    replace hN := Nat.lt_of_le_of_lt hlf hN
    replace hl := hl.keep hk
    clear hk hlf
    have hOh := Lib.hid hO
    clear hO
    go_wp2_with fail
    go_loopw [] (fun wr => ∃ (n : Nat) (o3 : Bool) (S3 : TS), RAt B wr p o3 S3 ∧ KeepR B p w wr ∧ RegsAt [3, 4, 5] wr p b rs ∧ Hid (ROwes R encU B p w (arbSpin q1 rt 0 me n) o3 S3) ∧ (o3 = false → S3.left < n)) (fun wr => leftR wr p)
    case atStart => exact ⟨N, o2, S2, hP, hK, hl, hOh, fun _ => hN⟩
    case round =>
      clear hP hK hl hOh hN
      obtain ⟨n, o3, S3, hP, hK, hl, hO, hN⟩ := hrel
      replace hO := hO.out
      have hlw := Lib.hid hP.leftR
      obtain ⟨_, _, _, _, _, hcc⟩ := hP.cell
      cases o3 with
      | true =>
        have hf : R (.returned (encU ())) wr := hO.over () hP hK
        clear hO hP hK hN
        go_wp2_with fail
        first | exact hf | (refine bodyPost_ret (results_none rfl _ _ _) rfl ?_; exact hf)
      | false =>
        have hN := hN rfl
        cases n with
        | zero => omega
        | succ n =>
          rw [arbSpin_succ] at hO
          have hOh := Lib.hid hO
          clear hO
          obtain ⟨a0, a1, a2, a3, a4, a5, a6⟩ := (hl.node3 hi.out).2.1
          go_wp2_with fail
          replace hO := hOh.out
          clear hOh hcc a0 a1 a2 a3 a4 a5 a6
          refine rstepL hO hK (reg_read_r B p false S3 q1 me _ hP hq1 ⟨hm0, by omega⟩) ?_
          clear hO hK hP
          intro x o4 S4 w4 hlf hlt hP hk hK hO
          replace hl := hl.keep hk
          clear hk
          by_cases hx : x = 0
          · have dx : (x == 0) = true := by simpa using hx
            rw [if_pos hx] at hO
            have hf : R (.returned (encU ())) w4 := hO.ret hP hK
            clear hO hP hK hx
            go_wp2_with fail
            first | exact hf | (refine bodyPost_ret (results_none rfl _ _ _) rfl ?_; exact hf)
          · have dx : (x == 0) = false := by simpa using hx
            rw [if_neg hx] at hO
            clear hx
            obtain ⟨_, _, _, _, _, hcc⟩ := hP.cell
            cases o4 with
            | true =>
              have hOh := Lib.hid (hO.any (arbSpin q1 rt 0 me n))
              have hlw2 := Lib.hid hP.leftR
              clear hO
              go_wp2_with fail
              refine ⟨⟨n, true, S4, hP, hK, hl, hOh, nofun⟩, ?_⟩
              rw [hlw.out, hlw2.out]
              simp
              omega
            | false =>
              have hlt := (hlt rfl).2 (asks_regR _ _ ht1)
              have hOh := Lib.hid hO
              clear hO
              obtain ⟨a0, a1, a2, a3, a4, a5, a6⟩ := (hl.node3 hi.out).2.2
              go_wp2_with fail
              replace hO := hOh.out
              clear hOh hcc a0 a1 a2 a3 a4 a5 a6
              refine rstepL hO hK (reg_read_r B p false S4 rt me _ hP hrt ⟨hm0, by omega⟩) ?_
              clear hO hK hP
              intro y o5 S5 w5 hlf2 _ hP hk hK hO
              replace hl := hl.keep hk
              clear hk
              by_cases hy : y = 0
              · have dy : (y != 0) = false := by simpa using hy
                rw [if_pos hy] at hO
                clear hy
                have hOh := Lib.hid hO
                have hlw2 := Lib.hid hP.leftR
                clear hO
                go_wp2_with fail
                refine ⟨⟨n, o5, S5, hP, hK, hl, hOh, fun _ => by omega⟩, ?_⟩
                rw [hlw.out, hlw2.out]
                cases o5 <;> simp <;> omega
              · have dy : (y != 0) = true := by simpa using hy
                rw [if_neg hy] at hO
                have hf : R (.returned (encU ())) w5 := hO.ret hP hK
                clear hO hP hK hy
                go_wp2_with fail
                first | exact hf | (refine bodyPost_ret (results_none rfl _ _ _) rfl ?_; exact hf)
set_option maxRecDepth 100000 in
set_option maxHeartbeats 1000000 in
theorem darbn_enter_r1 (B p N : Nat) (o : Bool) (S : TS) (q0 q1 rt : Reg) (side me : Int) (b c k : Nat) (rs : List Reg) (w : World) (h : RAt B w p o S) (hl : RegsAt [3, 4, 5] w p b rs) (hi : rs[k]? = some q0 ∧ rs[k + 1]? = some q1 ∧ rs[k + 2]? = some rt) (hq0 : q0.ok) (hq1 : q1.ok) (hrt : rt.ok)
    (hm0 : 0 ≤ me) (hm1 : me < q0.n) (hm2 : me < q1.n) (hm3 : me < rt.n) (ht1 : q0.told me) (hN : S.left < N) (hs : bitM side = 1) :
    Calls Tryz.prog 139 #[.pointer (some ⟨p, 0, none⟩), .slice (some ⟨b, k * 7, none⟩) 3 c, .int .i64 side, .int .i64 me] w (RPost encU B p w (arbEnter N q1 q0 rt 1 me) o S) := by
  generalize hR : RPost encU B p w (arbEnter N q1 q0 rt 1 me) o S = R
  have hO : ROwes R encU B p w (arbEnter N q1 q0 rt 1 me) o S := hR ▸ rowes _ _ _ _ _ _ _
  clear hR
  have hK := Keep.refl [3, 4, 5] B p w
  have hP := h
  clear h
  unfold arbEnter at hO
  replace hi := Lib.hid hi
  have hb := bit_r side w
  rw [hs] at hb
  clear hs
  go_enter Tryz.func139, Tryz.ntmps139
  go_wp2_with fail
  refine hb.mono ?_
  rintro e w' ⟨rfl, rfl⟩
  clear hb
  have hOh := Lib.hid hO
  clear hO
  obtain ⟨a0, a1, a2, a3, a4, a5, a6⟩ := (hl.node3 hi.out).2.1
  go_wp2_with fail
  replace hO := hOh.out
  clear hOh a0 a1 a2 a3 a4 a5 a6
  refine rstepL hO hK (reg_write_r B p o S q1 me 1 _ hP hq1 ⟨hm0, by omega⟩) ?_
  clear hO hK hP
  intro u o1 S1 w1 hlf _ hP hk hK hO
  replace hN := Nat.lt_of_le_of_lt hlf hN
  replace hl := hl.keep hk
  clear hk hlf
  obtain ⟨_, _, _, _, _, hcc⟩ := hP.cell
  cases o1 with
  | true =>
    have hf : R (.returned (encU ())) w1 := hO.over () hP hK
    have hPh := Lib.hid hP
    clear hO hP hK
    go_wp2_with fail
    go_loopw [] (fun wr => w1 = wr) (fun _ => 0)
    case atStart => rfl
    case round =>
      subst hrel
      go_wp2_with fail
      first | exact hf | (refine bodyPost_ret (results_none rfl _ _ _) rfl ?_; exact hf)
  | false =>
    have hOh := Lib.hid hO
    clear hO
    obtain ⟨a0, a1, a2, a3, a4, a5, a6⟩ := (hl.node3 hi.out).2.2
    go_wp2_with fail
    replace hO := hOh.out
    clear hOh a0 a1 a2 a3 a4 a5 a6 hcc
    refine rstepL hO hK (reg_write_r B p false S1 rt me 1 _ hP hrt ⟨hm0, by omega⟩) ?_
    clear hO hK hP
    intro u o2 S2 w2 hlf _ hP hk hK hO
    replace hN := Nat.lt_of_le_of_lt hlf hN
    replace hl := hl.keep hk
    clear hk hlf
    have hOh := Lib.hid hO
    clear hO
    go_wp2_with fail
    go_loopw [] (fun wr => ∃ (n : Nat) (o3 : Bool) (S3 : TS), RAt B wr p o3 S3 ∧ KeepR B p w wr ∧ RegsAt [3, 4, 5] wr p b rs ∧ Hid (ROwes R encU B p w (arbSpin q0 rt 1 me n) o3 S3) ∧ (o3 = false → S3.left < n)) (fun wr => leftR wr p)
    case atStart => exact ⟨N, o2, S2, hP, hK, hl, hOh, fun _ => hN⟩
    case round =>
      clear hP hK hl hOh hN
      obtain ⟨n, o3, S3, hP, hK, hl, hO, hN⟩ := hrel
      replace hO := hO.out
      have hlw := Lib.hid hP.leftR
      obtain ⟨_, _, _, _, _, hcc⟩ := hP.cell
      cases o3 with
      | true =>
        have hf : R (.returned (encU ())) wr := hO.over () hP hK
        clear hO hP hK hN
        go_wp2_with fail
        first | exact hf | (refine bodyPost_ret (results_none rfl _ _ _) rfl ?_; exact hf)
      | false =>
        have hN := hN rfl
        cases n with
        | zero => omega
        | succ n =>
          rw [arbSpin_succ] at hO
          have hOh := Lib.hid hO
          clear hO
          obtain ⟨a0, a1, a2, a3, a4, a5, a6⟩ := (hl.node3 hi.out).1
          go_wp2_with fail
          replace hO := hOh.out
          clear hOh hcc a0 a1 a2 a3 a4 a5 a6
          refine rstepL hO hK (reg_read_r B p false S3 q0 me _ hP hq0 ⟨hm0, by omega⟩) ?_
          clear hO hK hP
          intro x o4 S4 w4 hlf hlt hP hk hK hO
          replace hl := hl.keep hk
          clear hk
          by_cases hx : x = 0
          · have dx : (x == 0) = true := by simpa using hx
            rw [if_pos hx] at hO
            have hf : R (.returned (encU ())) w4 := hO.ret hP hK
            clear hO hP hK hx
            go_wp2_with fail
            first | exact hf | (refine bodyPost_ret (results_none rfl _ _ _) rfl ?_; exact hf)
          · have dx : (x == 0) = false := by simpa using hx
            rw [if_neg hx] at hO
            clear hx
            obtain ⟨_, _, _, _, _, hcc⟩ := hP.cell
            cases o4 with
            | true =>
              have hOh := Lib.hid (hO.any (arbSpin q0 rt 1 me n))
              have hlw2 := Lib.hid hP.leftR
              clear hO
              go_wp2_with fail
              refine ⟨⟨n, true, S4, hP, hK, hl, hOh, nofun⟩, ?_⟩
              rw [hlw.out, hlw2.out]
              simp
              omega
            | false =>
              have hlt := (hlt rfl).2 (asks_regR _ _ ht1)
              have hOh := Lib.hid hO
              clear hO
              obtain ⟨a0, a1, a2, a3, a4, a5, a6⟩ := (hl.node3 hi.out).2.2
              go_wp2_with fail
              replace hO := hOh.out
              clear hOh hcc a0 a1 a2 a3 a4 a5 a6
              refine rstepL hO hK (reg_read_r B p false S4 rt me _ hP hrt ⟨hm0, by omega⟩) ?_
              clear hO hK hP
              intro y o5 S5 w5 hlf2 _ hP hk hK hO
              replace hl := hl.keep hk
              clear hk
              by_cases hy : y = 1
              · have dy : (y != 1) = false := by simpa using hy
                rw [if_pos hy] at hO
                clear hy
                have hOh := Lib.hid hO
                have hlw2 := Lib.hid hP.leftR
                clear hO
                go_wp2_with fail
                refine ⟨⟨n, o5, S5, hP, hK, hl, hOh, fun _ => by omega⟩, ?_⟩
                rw [hlw.out, hlw2.out]
                cases o5 <;> simp <;> omega
              · have dy : (y != 1) = true := by simpa using hy
                rw [if_neg hy] at hO
                have hf : R (.returned (encU ())) w5 := hO.ret hP hK
                clear hO hP hK hy
                go_wp2_with fail
                first | exact hf | (refine bodyPost_ret (results_none rfl _ _ _) rfl ?_; exact hf)
theorem darbn_enter_r (B p N : Nat) (o : Bool) (S : TS) (q0 q1 rt : Reg) (side me : Int) (b c k : Nat) (rs : List Reg) (w : World) (h : RAt B w p o S) (hl : RegsAt [3, 4, 5] w p b rs) (hi : rs[k]? = some q0 ∧ rs[k + 1]? = some q1 ∧ rs[k + 2]? = some rt) (hq0 : q0.ok) (hq1 : q1.ok) (hrt : rt.ok)
    (hm0 : 0 ≤ me) (hm1 : me < q0.n) (hm2 : me < q1.n) (hm3 : me < rt.n) (ht0 : q0.told me) (ht1 : q1.told me) (hN : S.left < N) :
    Calls Tryz.prog 139 #[.pointer (some ⟨p, 0, none⟩), .slice (some ⟨b, k * 7, none⟩) 3 c, .int .i64 side, .int .i64 me] w (RPost encU B p w (arbM N q0 q1 rt side me) o S) := by
  unfold arbM
  rcases bitM_or side with hs | hs
  · rw [if_neg (by omega)]
    exact darbn_enter_r0 B p N o S q0 q1 rt side me b c k rs w h hl hi hq0 hq1 hrt hm0 hm1 hm2 hm3 ht1 hN hs
  · rw [if_pos hs]
    exact darbn_enter_r1 B p N o S q0 q1 rt side me b c k rs w h hl hi hq0 hq1 hrt hm0 hm1 hm2 hm3 ht0 hN hs
theorem darbn_leave_r (B p : Nat) (o : Bool) (S : TS) (q0 q1 rt : Reg) (side me : Int) (b c k : Nat) (rs : List Reg) (w : World) (h : RAt B w p o S) (hl : RegsAt [3, 4, 5] w p b rs) (hi : rs[k]? = some q0 ∧ rs[k + 1]? = some q1 ∧ rs[k + 2]? = some rt) (hq0 : q0.ok) (hq1 : q1.ok)
    (hm0 : 0 ≤ me) (hm1 : me < q0.n) (hm2 : me < q1.n) :
    Calls Tryz.prog 140 #[.pointer (some ⟨p, 0, none⟩), .slice (some ⟨b, k * 7, none⟩) 3 c, .int .i64 side, .int .i64 me] w (RPost encU B p w (kesL q0 q1 side me) o S) := by
  have hb := bit_r side w
  unfold kesL
  replace hi := Lib.hid hi
  rcases bitM_or side with hs | hs
  · rw [hs] at hb ⊢
    rw [if_neg (by omega)]
    have hz := reg_write_r B p o S q0 me 0 w h hq0 ⟨hm0, by omega⟩
    generalize hR : RPost encU B p w (regW q0 me 0) o S = R
    have hO : ROwes R encU B p w (regW q0 me 0) o S := hR ▸ rowes _ _ _ _ _ _ _
    clear hR
    go_enter Tryz.func140, Tryz.ntmps140
    go_wp2_with fail
    refine hb.mono ?_
    rintro e w' ⟨rfl, rfl⟩
    obtain ⟨a0, a1, a2, a3, a4, a5, a6⟩ := (hl.node3 hi.out).1
    go_wp2_with fail
    clear a0 a1 a2 a3 a4 a5 a6 hl hb
    refine hz.mono fun e w' hp => ?_
    have hf := hO e w' hp
    obtain ⟨a, o', S', rfl, _⟩ := hp
    clear hO hz h
    go_wp2_with fail
    first | exact hf | (refine bodyPost_ret (results_none rfl _ _ _) rfl ?_; exact hf)
  · rw [hs] at hb ⊢
    rw [if_pos rfl]
    have hz := reg_write_r B p o S q1 me 0 w h hq1 ⟨hm0, by omega⟩
    generalize hR : RPost encU B p w (regW q1 me 0) o S = R
    have hO : ROwes R encU B p w (regW q1 me 0) o S := hR ▸ rowes _ _ _ _ _ _ _
    clear hR
    go_enter Tryz.func140, Tryz.ntmps140
    go_wp2_with fail
    refine hb.mono ?_
    rintro e w' ⟨rfl, rfl⟩
    obtain ⟨a0, a1, a2, a3, a4, a5, a6⟩ := (hl.node3 hi.out).2.1
    go_wp2_with fail
    clear a0 a1 a2 a3 a4 a5 a6 hl hb
    refine hz.mono fun e w' hp => ?_
    have hf := hO e w' hp
    obtain ⟨a, o', S', rfl, _⟩ := hp
    clear hO hz h
    go_wp2_with fail
    first | exact hf | (refine bodyPost_ret (results_none rfl _ _ _) rfl ?_; exact hf)
end Go.Proofs.YtpcohbpeglledaaGreat
/-
  The splitter: passing it, by the program.
-/
namespace Go.Proofs.YtpcohbpeglledaaGreat
open Go.RowKit Kv
theorem RegsAt.ext {ix : List Nat} {p b : Nat} {w w' : World} {l : List Reg} (h : RegsAt ix w p b l) (hx : Ext w w') (hp : p < w.heap.size) : RegsAt ix w' p b l := h.keep (B := 0) (Keep.of_ext hx hp (Nat.zero_le _))
theorem two_boxes {B p : Nat} {w : World} {S : TS} (h : Plays B w p S) (o1 o2 : Obj) :
    HeldP ((w.alloc o1).alloc o2).drew p w.heap.size o1 ∧ HeldP ((w.alloc o1).alloc o2).drew p (w.heap.size + 1) o2 ∧ Plays B ((w.alloc o1).alloc o2).drew p S ∧ KeepP B p w ((w.alloc o1).alloc o2).drew := by
  have h2 := (h.alloc o1).held o2
  rw [World.size_alloc] at h2
  exact ⟨((h.held o1).alloc o2 (h.alloc o1).lt).drew, h2.drew, ((h.alloc o1).alloc o2).drew, ((Keep.alloc o1 h.lt h.le).trans (Keep.alloc o2 (h.alloc o1).lt (h.alloc o1).le)).drew⟩
set_option maxRecDepth 100000 in
set_option maxHeartbeats 4000000 in
theorem pass_p (B p : Nat) (S : TS) (x y : Reg) (me : Int) (b c : Nat) (w : World) (h : Plays B w p S) (hl : RegsAt [2, 3, 4] w p b [x, y]) (hx : x.ok) (hy : y.ok) (hm : 0 ≤ me) (hmx : me < x.n) (hmy : me < y.n) :
    Calls Tryz.prog 19 #[.pointer (some ⟨p, 0, none⟩), .slice (some ⟨b, 0, none⟩) 2 c, .int .i64 me] w (Post encI B p w ((passM x y me).run S)) := by
  generalize hR : Post encI B p w ((passM x y me).run S) = R
  have hO : Owes R encI B p w ((passM x y me).run S) := hR ▸ owes _ _ _ _ _
  clear hR
  have hmw := IntWalk.i64_in (me + 1) (by have := hx.n; omega)
  obtain ⟨⟨c0, c1, c2, c3, c4, c5, c6⟩, ⟨c7, c8, c9, c10, c11, c12, c13⟩⟩ := hl.two
  have hn := hx.n
  have hK := Keep.refl [2, 3, 4] B p w
  have hP := h
  clear h
  unfold passM at hO
  go_enter Tryz.func19, Tryz.ntmps19
  go_wp2_with fail
  go_region_held2 (fun w' => (w'.cell? ⟨b, 0, none⟩ = some (.int .i64 x.kind) ∧ w'.cell? ⟨b, 1, none⟩ = some (.int .i64 x.base) ∧ w'.cell? ⟨b, 2, none⟩ = some (.int .i64 x.loc) ∧ w'.cell? ⟨b, 3, none⟩ = some (.int .i64 x.n) ∧ w'.cell? ⟨b, 4, none⟩ = some (.int .i64 x.wr) ∧ w'.cell? ⟨b, 5, none⟩ = some (.int .i64 x.rd) ∧ w'.cell? ⟨b, 6, none⟩ = some (.int .i64 x.top)) ∧
      (w'.cell? ⟨b, 7, none⟩ = some (.int .i64 y.kind) ∧ w'.cell? ⟨b, 8, none⟩ = some (.int .i64 y.base) ∧ w'.cell? ⟨b, 9, none⟩ = some (.int .i64 y.loc) ∧ w'.cell? ⟨b, 10, none⟩ = some (.int .i64 y.n) ∧ w'.cell? ⟨b, 11, none⟩ = some (.int .i64 y.wr) ∧ w'.cell? ⟨b, 12, none⟩ = some (.int .i64 y.rd) ∧ w'.cell? ⟨b, 13, none⟩ = some (.int .i64 y.top))) (first | with_reducible exact hl.two | go_keep) (fail)
  · rename_i hh
    clear hh
    obtain ⟨b1, b2, hP2, hK2⟩ := two_boxes hP (.cells #[.int .i64 x.kind, .int .i64 x.base, .int .i64 x.loc, .int .i64 x.n, .int .i64 x.wr, .int .i64 x.rd, .int .i64 x.top] 77) (.cells #[.int .i64 y.kind, .int .i64 y.base, .int .i64 y.loc, .int .i64 y.n, .int .i64 y.wr, .int .i64 y.rd, .int .i64 y.top] 77)
    clear hP hK hl
    have hP := hP2
    have hK := hK2
    clear hP2 hK2
    have c_b1 := b1.cells
    have c_b2 := b2.cells
    clear c0 c1 c2 c3 c4 c5 c6 c7 c8 c9 c10 c11 c12 c13
    go_wp2_with fail
    refine tstep hO hK (reg_write_p B p S x me (me + 1) _ hP hx ⟨hm, hmx⟩) (fun _ h => ⟨rfl, h⟩) ?_
    clear hO hK hP c_b1 c_b2
    intro u S w1 hr hP hk hK hO
    replace b1 := b1.keep hk
    have c_b1 := b1.cells
    replace b2 := b2.keep hk
    have c_b2 := b2.cells
    clear hk hr
    go_wp2_with fail
    refine tstep hO hK (reg_read_p B p S y me _ hP hy ⟨hm, hmy⟩) (fun _ h => ⟨rfl, h⟩) ?_
    clear hO hK hP c_b1 c_b2
    intro v S w1 hr hP hk hK hO
    replace b1 := b1.keep hk
    have c_b1 := b1.cells
    replace b2 := b2.keep hk
    have c_b2 := b2.cells
    clear hk hr
    by_cases hv : v = 0
    · rw [if_neg (by simpa using hv)] at hO
      have hv2 : (v != 0) = false := by simp [hv]
      clear hv
      go_wp2_with fail
      refine tstep hO hK (reg_write_p B p S y me 1 _ hP hy ⟨hm, hmy⟩) (fun _ h => ⟨rfl, h⟩) ?_
      clear hO hK hP c_b1 c_b2
      intro u S w1 hr hP hk hK hO
      replace b1 := b1.keep hk
      have c_b1 := b1.cells
      replace b2 := b2.keep hk
      have c_b2 := b2.cells
      clear hk hr
      go_wp2_with fail
      refine tstep hO hK (reg_read_p B p S x me _ hP hx ⟨hm, hmx⟩) (fun _ h => ⟨rfl, h⟩) ?_
      clear hO hK hP c_b1 c_b2
      intro z S w1 hr hP hk hK hO
      replace b1 := b1.keep hk
      have c_b1 := b1.cells
      replace b2 := b2.keep hk
      have c_b2 := b2.cells
      clear hk hr
      by_cases hz : z = me + 1
      · rw [if_pos hz] at hO
        have hz2 : (z == me + 1) = true := by simp [hz]
        clear hz
        have hf : R (.returned (.int .i64 0)) w1 := hO.done hP hK
        clear hO hP hK
        go_wp2_with fail
        exact hf
      · rw [if_neg hz] at hO
        have hz2 : (z == me + 1) = false := by rw [beq_eq_false_iff_ne]; exact hz
        clear hz
        have hf : R (.returned (.int .i64 2)) w1 := hO.done hP hK
        clear hO hP hK
        go_wp2_with fail
        exact hf
    · rw [if_pos hv] at hO
      have hv2 : (v != 0) = true := by rw [bne_iff_ne]; exact hv
      have hf : R (.returned (.int .i64 1)) w1 := hO.done hP hK
      clear hO hP hK hv
      go_wp2_with fail
      exact hf
  · rename_i hh
    clear hh
    obtain ⟨b2, b1, hP2, hK2⟩ := two_boxes hP (.cells #[.int .i64 y.kind, .int .i64 y.base, .int .i64 y.loc, .int .i64 y.n, .int .i64 y.wr, .int .i64 y.rd, .int .i64 y.top] 77) (.cells #[.int .i64 x.kind, .int .i64 x.base, .int .i64 x.loc, .int .i64 x.n, .int .i64 x.wr, .int .i64 x.rd, .int .i64 x.top] 77)
    clear hP hK hl
    have hP := hP2
    have hK := hK2
    clear hP2 hK2
    have c_b1 := b1.cells
    have c_b2 := b2.cells
    clear c0 c1 c2 c3 c4 c5 c6 c7 c8 c9 c10 c11 c12 c13
    go_wp2_with fail
    refine tstep hO hK (reg_write_p B p S x me (me + 1) _ hP hx ⟨hm, hmx⟩) (fun _ h => ⟨rfl, h⟩) ?_
    clear hO hK hP c_b1 c_b2
    intro u S w1 hr hP hk hK hO
    replace b1 := b1.keep hk
    have c_b1 := b1.cells
    replace b2 := b2.keep hk
    have c_b2 := b2.cells
    clear hk hr
    go_wp2_with fail
    refine tstep hO hK (reg_read_p B p S y me _ hP hy ⟨hm, hmy⟩) (fun _ h => ⟨rfl, h⟩) ?_
    clear hO hK hP c_b1 c_b2
    intro v S w1 hr hP hk hK hO
    replace b1 := b1.keep hk
    have c_b1 := b1.cells
    replace b2 := b2.keep hk
    have c_b2 := b2.cells
    clear hk hr
    by_cases hv : v = 0
    · rw [if_neg (by simpa using hv)] at hO
      have hv2 : (v != 0) = false := by simp [hv]
      clear hv
      go_wp2_with fail
      refine tstep hO hK (reg_write_p B p S y me 1 _ hP hy ⟨hm, hmy⟩) (fun _ h => ⟨rfl, h⟩) ?_
      clear hO hK hP c_b1 c_b2
      intro u S w1 hr hP hk hK hO
      replace b1 := b1.keep hk
      have c_b1 := b1.cells
      replace b2 := b2.keep hk
      have c_b2 := b2.cells
      clear hk hr
      go_wp2_with fail
      refine tstep hO hK (reg_read_p B p S x me _ hP hx ⟨hm, hmx⟩) (fun _ h => ⟨rfl, h⟩) ?_
      clear hO hK hP c_b1 c_b2
      intro z S w1 hr hP hk hK hO
      replace b1 := b1.keep hk
      have c_b1 := b1.cells
      replace b2 := b2.keep hk
      have c_b2 := b2.cells
      clear hk hr
      by_cases hz : z = me + 1
      · rw [if_pos hz] at hO
        have hz2 : (z == me + 1) = true := by simp [hz]
        clear hz
        have hf : R (.returned (.int .i64 0)) w1 := hO.done hP hK
        clear hO hP hK
        go_wp2_with fail
        exact hf
      · rw [if_neg hz] at hO
        have hz2 : (z == me + 1) = false := by rw [beq_eq_false_iff_ne]; exact hz
        clear hz
        have hf : R (.returned (.int .i64 2)) w1 := hO.done hP hK
        clear hO hP hK
        go_wp2_with fail
        exact hf
    · rw [if_pos hv] at hO
      have hv2 : (v != 0) = true := by rw [bne_iff_ne]; exact hv
      have hf : R (.returned (.int .i64 1)) w1 := hO.done hP hK
      clear hO hP hK hv
      go_wp2_with fail
      exact hf
end Go.Proofs.YtpcohbpeglledaaGreat
