/-
  Peterson's lock of two sides at a node of a tree: entering and leaving, by the program.
-/
import Derived.Test.YtbphlkaihfbgeaaJTreeAloneSaid0
import Derived.Deep.DeepCutAuto
import Derived.Laws.EntriesVeiled
/-
  Peterson's lock of two sides at a node of a tree: entering and leaving, by the program.
-/
namespace Go.Proofs.Ytbphlkaihfbgeaa
open Go.RowKit Kv
theorem RegsAt.node3 {ix : List Nat} {p b k : Nat} {w : World} {rs : List Reg} {x y z : Reg} (h : RegsAt ix w p b rs) (hi : rs[k]? = some x ∧ rs[k + 1]? = some y ∧ rs[k + 2]? = some z) :
    RegCells w b (k * 7) x ∧ RegCells w b (k * 7 + 7) y ∧ RegCells w b (k * 7 + 14) z := by
  have h1 := h.nth hi.2.1
  have h2 := h.nth hi.2.2
  rw [show (k + 1) * 7 = k * 7 + 7 from by omega] at h1
  rw [show (k + 2) * 7 = k * 7 + 14 from by omega] at h2
  exact ⟨h.nth hi.1, h1, h2⟩
set_option maxRecDepth 100000 in
set_option maxHeartbeats 1000000 in
theorem arbn_enter_p0 (B p N : Nat) (S : TS) (q0 q1 rt : Reg) (side me : Int) (b c k : Nat) (rs : List Reg) (w : World) (h : Plays B w p S) (hl : RegsAt [2, 3, 4] w p b rs) (hi : rs[k]? = some q0 ∧ rs[k + 1]? = some q1 ∧ rs[k + 2]? = some rt) (hq0 : q0.ok) (hq1 : q1.ok) (hrt : rt.ok)
    (hm0 : 0 ≤ me) (hm1 : me < q0.n) (hm2 : me < q1.n) (hm3 : me < rt.n) (ht1 : q1.told me) (hN : S.left < N) (hs : bitM side = 0) :
    Calls Try.prog 192 #[.pointer (some ⟨p, 0, none⟩), .slice (some ⟨b, k * 7, none⟩) 3 c, .int .i64 side, .int .i64 me] w (Post encU B p w ((arbEnter N q0 q1 rt 0 me).run S)) := by
  generalize hR : Post encU B p w ((arbEnter N q0 q1 rt 0 me).run S) = R
  have hO : Owes R encU B p w ((arbEnter N q0 q1 rt 0 me).run S) := hR ▸ owes _ _ _ _ _
  clear hR
  replace hi := Lib.hid hi
  have hP := h
  clear h
  unfold arbEnter at hO
  have hb := abit_p side
  rw [hs] at hb
  clear hs
  have hS : ∀ w', RegsAt [2, 3, 4] w' p b rs → ((w'.cell? ⟨b, k * 7, none⟩ = some (.int .i64 q0.kind) ∧ w'.cell? ⟨b, k * 7 + 1, none⟩ = some (.int .i64 q0.base) ∧ w'.cell? ⟨b, k * 7 + 2, none⟩ = some (.int .i64 q0.loc) ∧ w'.cell? ⟨b, k * 7 + 3, none⟩ = some (.int .i64 q0.n) ∧ w'.cell? ⟨b, k * 7 + 4, none⟩ = some (.int .i64 q0.wr) ∧ w'.cell? ⟨b, k * 7 + 5, none⟩ = some (.int .i64 q0.rd) ∧ w'.cell? ⟨b, k * 7 + 6, none⟩ = some (.int .i64 q0.top)) ∧ (w'.cell? ⟨b, k * 7 + 7, none⟩ = some (.int .i64 q1.kind) ∧ w'.cell? ⟨b, k * 7 + 7 + 1, none⟩ = some (.int .i64 q1.base) ∧ w'.cell? ⟨b, k * 7 + 7 + 2, none⟩ = some (.int .i64 q1.loc) ∧ w'.cell? ⟨b, k * 7 + 7 + 3, none⟩ = some (.int .i64 q1.n) ∧ w'.cell? ⟨b, k * 7 + 7 + 4, none⟩ = some (.int .i64 q1.wr) ∧ w'.cell? ⟨b, k * 7 + 7 + 5, none⟩ = some (.int .i64 q1.rd) ∧ w'.cell? ⟨b, k * 7 + 7 + 6, none⟩ = some (.int .i64 q1.top)) ∧ (w'.cell? ⟨b, k * 7 + 14, none⟩ = some (.int .i64 rt.kind) ∧ w'.cell? ⟨b, k * 7 + 14 + 1, none⟩ = some (.int .i64 rt.base) ∧ w'.cell? ⟨b, k * 7 + 14 + 2, none⟩ = some (.int .i64 rt.loc) ∧ w'.cell? ⟨b, k * 7 + 14 + 3, none⟩ = some (.int .i64 rt.n) ∧ w'.cell? ⟨b, k * 7 + 14 + 4, none⟩ = some (.int .i64 rt.wr) ∧ w'.cell? ⟨b, k * 7 + 14 + 5, none⟩ = some (.int .i64 rt.rd) ∧ w'.cell? ⟨b, k * 7 + 14 + 6, none⟩ = some (.int .i64 rt.top))) := fun w' y => by
    obtain ⟨⟨a0, a1, a2, a3, a4, a5, a6⟩, ⟨e0, e1, e2, e3, e4, e5, e6⟩, ⟨f0, f1, f2, f3, f4, f5, f6⟩⟩ := y.node3 hi.out
    exact ⟨⟨a0, a1, a2, a3, a4, a5, a6⟩, ⟨e0, e1, e2, e3, e4, e5, e6⟩, ⟨f0, f1, f2, f3, f4, f5, f6⟩⟩
  go_enter Try.func192, Try.ntmps192
  go_wp2_with fail
  have hOh := Lib.hid hO
  have hbh := Lib.hid hb
  clear hO hb
  go_upto_region 1 with fail
  go_cut [8, 9] (fun s8 s9 wx => ∃ (x y : Nat), s8 = .pointer (some ⟨x, 0, none⟩) ∧ s9 = .pointer (some ⟨y, 0, none⟩) ∧ HeldP wx p x (.cells #[.int .i64 q0.kind, .int .i64 q0.base, .int .i64 q0.loc, .int .i64 q0.n, .int .i64 q0.wr, .int .i64 q0.rd, .int .i64 q0.top, .int .i64 q1.kind, .int .i64 q1.base, .int .i64 q1.loc, .int .i64 q1.n, .int .i64 q1.wr, .int .i64 q1.rd, .int .i64 q1.top] 170) ∧ HeldP wx p y (.cells #[.int .i64 rt.kind, .int .i64 rt.base, .int .i64 rt.loc, .int .i64 rt.n, .int .i64 rt.wr, .int .i64 rt.rd, .int .i64 rt.top] 56) ∧ Plays B wx p S ∧ KeepP B p w wx ∧ RegsAt [2, 3, 4] wx p b rs)
  case first =>
    have hl2 := hl.extL (Ext.refl w).drew hP.lt
    obtain ⟨⟨a0, a1, a2, a3, a4, a5, a6⟩, ⟨e0, e1, e2, e3, e4, e5, e6⟩, ⟨f0, f1, f2, f3, f4, f5, f6⟩⟩ := hl.node3 hi.out
    go_region_held2 (fun w' => ((w'.cell? ⟨b, k * 7, none⟩ = some (.int .i64 q0.kind) ∧ w'.cell? ⟨b, k * 7 + 1, none⟩ = some (.int .i64 q0.base) ∧ w'.cell? ⟨b, k * 7 + 2, none⟩ = some (.int .i64 q0.loc) ∧ w'.cell? ⟨b, k * 7 + 3, none⟩ = some (.int .i64 q0.n) ∧ w'.cell? ⟨b, k * 7 + 4, none⟩ = some (.int .i64 q0.wr) ∧ w'.cell? ⟨b, k * 7 + 5, none⟩ = some (.int .i64 q0.rd) ∧ w'.cell? ⟨b, k * 7 + 6, none⟩ = some (.int .i64 q0.top)) ∧ (w'.cell? ⟨b, k * 7 + 7, none⟩ = some (.int .i64 q1.kind) ∧ w'.cell? ⟨b, k * 7 + 7 + 1, none⟩ = some (.int .i64 q1.base) ∧ w'.cell? ⟨b, k * 7 + 7 + 2, none⟩ = some (.int .i64 q1.loc) ∧ w'.cell? ⟨b, k * 7 + 7 + 3, none⟩ = some (.int .i64 q1.n) ∧ w'.cell? ⟨b, k * 7 + 7 + 4, none⟩ = some (.int .i64 q1.wr) ∧ w'.cell? ⟨b, k * 7 + 7 + 5, none⟩ = some (.int .i64 q1.rd) ∧ w'.cell? ⟨b, k * 7 + 7 + 6, none⟩ = some (.int .i64 q1.top)) ∧ (w'.cell? ⟨b, k * 7 + 14, none⟩ = some (.int .i64 rt.kind) ∧ w'.cell? ⟨b, k * 7 + 14 + 1, none⟩ = some (.int .i64 rt.base) ∧ w'.cell? ⟨b, k * 7 + 14 + 2, none⟩ = some (.int .i64 rt.loc) ∧ w'.cell? ⟨b, k * 7 + 14 + 3, none⟩ = some (.int .i64 rt.n) ∧ w'.cell? ⟨b, k * 7 + 14 + 4, none⟩ = some (.int .i64 rt.wr) ∧ w'.cell? ⟨b, k * 7 + 14 + 5, none⟩ = some (.int .i64 rt.rd) ∧ w'.cell? ⟨b, k * 7 + 14 + 6, none⟩ = some (.int .i64 rt.top)))) (first | with_reducible exact hS _ hl2 | go_keep) (fail)
    · rename_i hh
      clear hh
      obtain ⟨b1, b2, hP2, hK2, hl3⟩ := two_held hP hl (.cells #[.int .i64 q0.kind, .int .i64 q0.base, .int .i64 q0.loc, .int .i64 q0.n, .int .i64 q0.wr, .int .i64 q0.rd, .int .i64 q0.top, .int .i64 q1.kind, .int .i64 q1.base, .int .i64 q1.loc, .int .i64 q1.n, .int .i64 q1.wr, .int .i64 q1.rd, .int .i64 q1.top] 170) (.cells #[.int .i64 rt.kind, .int .i64 rt.base, .int .i64 rt.loc, .int .i64 rt.n, .int .i64 rt.wr, .int .i64 rt.rd, .int .i64 rt.top] 56)
      clear hS hl2 hl hP a0 a1 a2 a3 a4 a5 a6 e0 e1 e2 e3 e4 e5 e6 f0 f1 f2 f3 f4 f5 f6
      go_wp2_with fail
      go_meet
      exact ⟨_, _, rfl, rfl, b1, b2, hP2, hK2, hl3⟩
    · rename_i hh
      clear hh
      obtain ⟨b2, b1, hP2, hK2, hl3⟩ := two_held hP hl (.cells #[.int .i64 rt.kind, .int .i64 rt.base, .int .i64 rt.loc, .int .i64 rt.n, .int .i64 rt.wr, .int .i64 rt.rd, .int .i64 rt.top] 56) (.cells #[.int .i64 q0.kind, .int .i64 q0.base, .int .i64 q0.loc, .int .i64 q0.n, .int .i64 q0.wr, .int .i64 q0.rd, .int .i64 q0.top, .int .i64 q1.kind, .int .i64 q1.base, .int .i64 q1.loc, .int .i64 q1.n, .int .i64 q1.wr, .int .i64 q1.rd, .int .i64 q1.top] 170)
      clear hS hl2 hl hP a0 a1 a2 a3 a4 a5 a6 e0 e1 e2 e3 e4 e5 e6 f0 f1 f2 f3 f4 f5 f6
      go_wp2_with fail
      go_meet
      exact ⟨_, _, rfl, rfl, b1, b2, hP2, hK2, hl3⟩
  case rest =>
    clear hS hl hP
    obtain ⟨x, y, rfl, rfl, bx, bt, hP, hK, -⟩ := hcut
    go_wp2_with fail
    refine (hbh.out _).mono ?_
    rintro e w' ⟨rfl, rfl⟩
    have c_bx := bx.cells
    clear hbh
    have hPo := hP
    have bn := hP.held (.cells #[.int .i64 q1.kind, .int .i64 q1.base, .int .i64 q1.loc, .int .i64 q1.n, .int .i64 q1.wr, .int .i64 q1.rd, .int .i64 q1.top] 56)
    have hKn := hK.trans (Keep.alloc (.cells #[.int .i64 q1.kind, .int .i64 q1.base, .int .i64 q1.loc, .int .i64 q1.n, .int .i64 q1.wr, .int .i64 q1.rd, .int .i64 q1.top] 56) hP.lt hP.le)
    have hPn := hP.alloc (.cells #[.int .i64 q1.kind, .int .i64 q1.base, .int .i64 q1.loc, .int .i64 q1.n, .int .i64 q1.wr, .int .i64 q1.rd, .int .i64 q1.top] 56)
    have bxn := bx.alloc (.cells #[.int .i64 q1.kind, .int .i64 q1.base, .int .i64 q1.loc, .int .i64 q1.n, .int .i64 q1.wr, .int .i64 q1.rd, .int .i64 q1.top] 56) hP.lt
    have btn := bt.alloc (.cells #[.int .i64 q1.kind, .int .i64 q1.base, .int .i64 q1.loc, .int .i64 q1.n, .int .i64 q1.wr, .int .i64 q1.rd, .int .i64 q1.top] 56) hP.lt
    clear hP hK bx bt hPo
    have c_bxn := bxn.cells
    go_wp2_with fail
    clear c_bx c_bxn
    generalize hzn : wc.heap.size = z at *
    generalize wc.alloc _ = W at *
    clear hzn
    have hP := hPn
    have hK := hKn
    have bx := bxn
    have bt := btn
    clear hPn hKn bxn btn
    replace hO := hOh.out
    clear hOh
    refine tstepL hO hK (reg_write_p B p S q0 me 1 _ hP hq0 ⟨hm0, by omega⟩) (fun _ h => ⟨rfl, h⟩) ?_
    clear hO hK hP
    intro u S2 w2 hlf _ hP hk hK hO
    replace hN := Nat.lt_of_le_of_lt hlf hN
    replace bn := bn.keep hk
    replace bt := bt.keep hk
    have c_bt := bt.cells
    have hOh := Lib.hid hO
    clear hk hlf bx hO
    go_wp2_with fail
    replace hO := hOh.out
    clear hOh c_bt
    refine tstepL hO hK (reg_write_p B p S2 rt me 0 _ hP hrt ⟨hm0, hm3⟩) (fun _ h => ⟨rfl, h⟩) ?_
    clear hO hK hP
    intro u S3 w3 hlf _ hP hk hK hO
    replace hN := Nat.lt_of_le_of_lt hlf hN
    replace bn := bn.keep hk
    replace bt := bt.keep hk
    have hOh := Lib.hid hO
    clear hk hlf hO
    go_wp2_with fail
    go_loopw [] (fun wr => ∃ (n : Nat) (S4 : TS), Plays B wr p S4 ∧ KeepP B p w wr ∧ HeldP wr p z (.cells #[.int .i64 q1.kind, .int .i64 q1.base, .int .i64 q1.loc, .int .i64 q1.n, .int .i64 q1.wr, .int .i64 q1.rd, .int .i64 q1.top] 56) ∧ HeldP wr p y (.cells #[.int .i64 rt.kind, .int .i64 rt.base, .int .i64 rt.loc, .int .i64 rt.n, .int .i64 rt.wr, .int .i64 rt.rd, .int .i64 rt.top] 56) ∧ Hid (Owes R encU B p w ((arbSpin q1 rt 0 me n).run S4)) ∧ S4.left < n) (fun wr => leftW 1 3 wr p)
    case atStart => exact ⟨N, S3, hP, hK, bn, bt, hOh, hN⟩
    case round =>
      clear hP hK bn bt hOh hN
      obtain ⟨n, S4, hP, hK, bn, bt, hO, hN⟩ := hrel
      replace hO := hO.out
      have hlw := Lib.hid hP.left
      cases n with
      | zero => omega
      | succ n =>
        rw [arbSpin_succ] at hO
        have c_bn := bn.cells
        have hOh := Lib.hid hO
        clear hO
        go_wp2_with fail
        replace hO := hOh.out
        clear hOh c_bn
        refine tstepL hO hK (reg_read_p B p S4 q1 me _ hP hq1 ⟨hm0, by omega⟩) (fun _ h => ⟨rfl, h⟩) ?_
        clear hO hK hP
        intro v S5 w4 _ hlf hP hk hK hO
        replace hlf := hlf (asks_regR _ _ ht1)
        replace bn := bn.keep hk
        replace bt := bt.keep hk
        clear hk
        by_cases hv : v = 0
        · rw [if_pos hv] at hO
          subst hv
          have hf : R (.returned (encU ())) w4 := hO.done hP hK
          clear hO hP hK bn bt
          go_wp2_with fail
          first | exact hf | (refine bodyPost_ret (results_none rfl _ _ _) rfl ?_; exact hf)
        · rw [if_neg hv] at hO
          have hv2 : (v == 0) = false := by rw [beq_eq_false_iff_ne]; exact hv
          have c_bt := bt.cells
          have hOh := Lib.hid hO
          clear hv hO
          go_wp2_with fail
          replace hO := hOh.out
          clear hOh c_bt
          refine tstepL hO hK (reg_read_p B p S5 rt me _ hP hrt ⟨hm0, hm3⟩) (fun _ h => ⟨rfl, h⟩) ?_
          clear hO hK hP
          intro y0 S6 w5 hlf2 _ hP hk hK hO
          replace bn := bn.keep hk
          replace bt := bt.keep hk
          clear hk
          by_cases hy : y0 = 0
          · rw [if_pos hy] at hO
            have hy2 : (y0 != 0) = false := by simpa using hy
            have c_bn := bn.cells
            have hOh := Lib.hid hO
            clear hy hO
            go_wp2_with fail
            refine (cells_pm q1 me _ hq1 ht1 ⟨hm0, by omega⟩).mono ?_
            rintro e w6 ⟨cc, rfl, hcc, hx⟩
            replace bn := bn.ext hx hP.lt
            replace bt := bt.ext hx hP.lt
            replace hK := hK.trans (Keep.of_ext hx hP.lt hP.le)
            replace hP := hP.ext hx
            clear hx c_bn
            have hlw2 := Lib.hid hP.left
            go_wp2_with fail
            refine ⟨⟨n, S6, hP, hK, bn, bt, hOh, by omega⟩, ?_⟩
            rw [hlw.out, hlw2.out]
            omega
          · rw [if_neg hy] at hO
            have hy2 : (y0 != 0) = true := by simpa using hy
            have hf : R (.returned (encU ())) w5 := hO.done hP hK
            clear hO hP hK bn bt hy
            go_wp2_with fail
            first | exact hf | (refine bodyPost_ret (results_none rfl _ _ _) rfl ?_; exact hf)
set_option maxRecDepth 100000 in
set_option maxHeartbeats 1000000 in
theorem arbn_enter_p1 (B p N : Nat) (S : TS) (q0 q1 rt : Reg) (side me : Int) (b c k : Nat) (rs : List Reg) (w : World) (h : Plays B w p S) (hl : RegsAt [2, 3, 4] w p b rs) (hi : rs[k]? = some q0 ∧ rs[k + 1]? = some q1 ∧ rs[k + 2]? = some rt) (hq0 : q0.ok) (hq1 : q1.ok) (hrt : rt.ok)
    (hm0 : 0 ≤ me) (hm1 : me < q0.n) (hm2 : me < q1.n) (hm3 : me < rt.n) (ht1 : q0.told me) (hN : S.left < N) (hs : bitM side = 1) :
    Calls Try.prog 192 #[.pointer (some ⟨p, 0, none⟩), .slice (some ⟨b, k * 7, none⟩) 3 c, .int .i64 side, .int .i64 me] w (Post encU B p w ((arbEnter N q1 q0 rt 1 me).run S)) := by
  generalize hR : Post encU B p w ((arbEnter N q1 q0 rt 1 me).run S) = R
  have hO : Owes R encU B p w ((arbEnter N q1 q0 rt 1 me).run S) := hR ▸ owes _ _ _ _ _
  clear hR
  replace hi := Lib.hid hi
  have hP := h
  clear h
  unfold arbEnter at hO
  have hb := abit_p side
  rw [hs] at hb
  clear hs
  have hS : ∀ w', RegsAt [2, 3, 4] w' p b rs → ((w'.cell? ⟨b, k * 7, none⟩ = some (.int .i64 q0.kind) ∧ w'.cell? ⟨b, k * 7 + 1, none⟩ = some (.int .i64 q0.base) ∧ w'.cell? ⟨b, k * 7 + 2, none⟩ = some (.int .i64 q0.loc) ∧ w'.cell? ⟨b, k * 7 + 3, none⟩ = some (.int .i64 q0.n) ∧ w'.cell? ⟨b, k * 7 + 4, none⟩ = some (.int .i64 q0.wr) ∧ w'.cell? ⟨b, k * 7 + 5, none⟩ = some (.int .i64 q0.rd) ∧ w'.cell? ⟨b, k * 7 + 6, none⟩ = some (.int .i64 q0.top)) ∧ (w'.cell? ⟨b, k * 7 + 7, none⟩ = some (.int .i64 q1.kind) ∧ w'.cell? ⟨b, k * 7 + 7 + 1, none⟩ = some (.int .i64 q1.base) ∧ w'.cell? ⟨b, k * 7 + 7 + 2, none⟩ = some (.int .i64 q1.loc) ∧ w'.cell? ⟨b, k * 7 + 7 + 3, none⟩ = some (.int .i64 q1.n) ∧ w'.cell? ⟨b, k * 7 + 7 + 4, none⟩ = some (.int .i64 q1.wr) ∧ w'.cell? ⟨b, k * 7 + 7 + 5, none⟩ = some (.int .i64 q1.rd) ∧ w'.cell? ⟨b, k * 7 + 7 + 6, none⟩ = some (.int .i64 q1.top)) ∧ (w'.cell? ⟨b, k * 7 + 14, none⟩ = some (.int .i64 rt.kind) ∧ w'.cell? ⟨b, k * 7 + 14 + 1, none⟩ = some (.int .i64 rt.base) ∧ w'.cell? ⟨b, k * 7 + 14 + 2, none⟩ = some (.int .i64 rt.loc) ∧ w'.cell? ⟨b, k * 7 + 14 + 3, none⟩ = some (.int .i64 rt.n) ∧ w'.cell? ⟨b, k * 7 + 14 + 4, none⟩ = some (.int .i64 rt.wr) ∧ w'.cell? ⟨b, k * 7 + 14 + 5, none⟩ = some (.int .i64 rt.rd) ∧ w'.cell? ⟨b, k * 7 + 14 + 6, none⟩ = some (.int .i64 rt.top))) := fun w' y => by
    obtain ⟨⟨a0, a1, a2, a3, a4, a5, a6⟩, ⟨e0, e1, e2, e3, e4, e5, e6⟩, ⟨f0, f1, f2, f3, f4, f5, f6⟩⟩ := y.node3 hi.out
    exact ⟨⟨a0, a1, a2, a3, a4, a5, a6⟩, ⟨e0, e1, e2, e3, e4, e5, e6⟩, ⟨f0, f1, f2, f3, f4, f5, f6⟩⟩
  go_enter Try.func192, Try.ntmps192
  go_wp2_with fail
  have hOh := Lib.hid hO
  have hbh := Lib.hid hb
  clear hO hb
  go_upto_region 1 with fail
  go_cut [8, 9] (fun s8 s9 wx => ∃ (x y : Nat), s8 = .pointer (some ⟨x, 0, none⟩) ∧ s9 = .pointer (some ⟨y, 0, none⟩) ∧ HeldP wx p x (.cells #[.int .i64 q0.kind, .int .i64 q0.base, .int .i64 q0.loc, .int .i64 q0.n, .int .i64 q0.wr, .int .i64 q0.rd, .int .i64 q0.top, .int .i64 q1.kind, .int .i64 q1.base, .int .i64 q1.loc, .int .i64 q1.n, .int .i64 q1.wr, .int .i64 q1.rd, .int .i64 q1.top] 170) ∧ HeldP wx p y (.cells #[.int .i64 rt.kind, .int .i64 rt.base, .int .i64 rt.loc, .int .i64 rt.n, .int .i64 rt.wr, .int .i64 rt.rd, .int .i64 rt.top] 56) ∧ Plays B wx p S ∧ KeepP B p w wx ∧ RegsAt [2, 3, 4] wx p b rs)
  case first =>
    have hl2 := hl.extL (Ext.refl w).drew hP.lt
    obtain ⟨⟨a0, a1, a2, a3, a4, a5, a6⟩, ⟨e0, e1, e2, e3, e4, e5, e6⟩, ⟨f0, f1, f2, f3, f4, f5, f6⟩⟩ := hl.node3 hi.out
    go_region_held2 (fun w' => ((w'.cell? ⟨b, k * 7, none⟩ = some (.int .i64 q0.kind) ∧ w'.cell? ⟨b, k * 7 + 1, none⟩ = some (.int .i64 q0.base) ∧ w'.cell? ⟨b, k * 7 + 2, none⟩ = some (.int .i64 q0.loc) ∧ w'.cell? ⟨b, k * 7 + 3, none⟩ = some (.int .i64 q0.n) ∧ w'.cell? ⟨b, k * 7 + 4, none⟩ = some (.int .i64 q0.wr) ∧ w'.cell? ⟨b, k * 7 + 5, none⟩ = some (.int .i64 q0.rd) ∧ w'.cell? ⟨b, k * 7 + 6, none⟩ = some (.int .i64 q0.top)) ∧ (w'.cell? ⟨b, k * 7 + 7, none⟩ = some (.int .i64 q1.kind) ∧ w'.cell? ⟨b, k * 7 + 7 + 1, none⟩ = some (.int .i64 q1.base) ∧ w'.cell? ⟨b, k * 7 + 7 + 2, none⟩ = some (.int .i64 q1.loc) ∧ w'.cell? ⟨b, k * 7 + 7 + 3, none⟩ = some (.int .i64 q1.n) ∧ w'.cell? ⟨b, k * 7 + 7 + 4, none⟩ = some (.int .i64 q1.wr) ∧ w'.cell? ⟨b, k * 7 + 7 + 5, none⟩ = some (.int .i64 q1.rd) ∧ w'.cell? ⟨b, k * 7 + 7 + 6, none⟩ = some (.int .i64 q1.top)) ∧ (w'.cell? ⟨b, k * 7 + 14, none⟩ = some (.int .i64 rt.kind) ∧ w'.cell? ⟨b, k * 7 + 14 + 1, none⟩ = some (.int .i64 rt.base) ∧ w'.cell? ⟨b, k * 7 + 14 + 2, none⟩ = some (.int .i64 rt.loc) ∧ w'.cell? ⟨b, k * 7 + 14 + 3, none⟩ = some (.int .i64 rt.n) ∧ w'.cell? ⟨b, k * 7 + 14 + 4, none⟩ = some (.int .i64 rt.wr) ∧ w'.cell? ⟨b, k * 7 + 14 + 5, none⟩ = some (.int .i64 rt.rd) ∧ w'.cell? ⟨b, k * 7 + 14 + 6, none⟩ = some (.int .i64 rt.top)))) (first | with_reducible exact hS _ hl2 | go_keep) (fail)
    · rename_i hh
      clear hh
      obtain ⟨b1, b2, hP2, hK2, hl3⟩ := two_held hP hl (.cells #[.int .i64 q0.kind, .int .i64 q0.base, .int .i64 q0.loc, .int .i64 q0.n, .int .i64 q0.wr, .int .i64 q0.rd, .int .i64 q0.top, .int .i64 q1.kind, .int .i64 q1.base, .int .i64 q1.loc, .int .i64 q1.n, .int .i64 q1.wr, .int .i64 q1.rd, .int .i64 q1.top] 170) (.cells #[.int .i64 rt.kind, .int .i64 rt.base, .int .i64 rt.loc, .int .i64 rt.n, .int .i64 rt.wr, .int .i64 rt.rd, .int .i64 rt.top] 56)
      clear hS hl2 hl hP a0 a1 a2 a3 a4 a5 a6 e0 e1 e2 e3 e4 e5 e6 f0 f1 f2 f3 f4 f5 f6
      go_wp2_with fail
      go_meet
      exact ⟨_, _, rfl, rfl, b1, b2, hP2, hK2, hl3⟩
    · rename_i hh
      clear hh
      obtain ⟨b2, b1, hP2, hK2, hl3⟩ := two_held hP hl (.cells #[.int .i64 rt.kind, .int .i64 rt.base, .int .i64 rt.loc, .int .i64 rt.n, .int .i64 rt.wr, .int .i64 rt.rd, .int .i64 rt.top] 56) (.cells #[.int .i64 q0.kind, .int .i64 q0.base, .int .i64 q0.loc, .int .i64 q0.n, .int .i64 q0.wr, .int .i64 q0.rd, .int .i64 q0.top, .int .i64 q1.kind, .int .i64 q1.base, .int .i64 q1.loc, .int .i64 q1.n, .int .i64 q1.wr, .int .i64 q1.rd, .int .i64 q1.top] 170)
      clear hS hl2 hl hP a0 a1 a2 a3 a4 a5 a6 e0 e1 e2 e3 e4 e5 e6 f0 f1 f2 f3 f4 f5 f6
      go_wp2_with fail
      go_meet
      exact ⟨_, _, rfl, rfl, b1, b2, hP2, hK2, hl3⟩
  case rest =>
    clear hS hl hP
    obtain ⟨x, y, rfl, rfl, bx, bt, hP, hK, -⟩ := hcut
    go_wp2_with fail
    refine (hbh.out _).mono ?_
    rintro e w' ⟨rfl, rfl⟩
    have c_bx := bx.cells
    clear hbh
    have hPo := hP
    have bn := hP.held (.cells #[.int .i64 q0.kind, .int .i64 q0.base, .int .i64 q0.loc, .int .i64 q0.n, .int .i64 q0.wr, .int .i64 q0.rd, .int .i64 q0.top] 56)
    have hKn := hK.trans (Keep.alloc (.cells #[.int .i64 q0.kind, .int .i64 q0.base, .int .i64 q0.loc, .int .i64 q0.n, .int .i64 q0.wr, .int .i64 q0.rd, .int .i64 q0.top] 56) hP.lt hP.le)
    have hPn := hP.alloc (.cells #[.int .i64 q0.kind, .int .i64 q0.base, .int .i64 q0.loc, .int .i64 q0.n, .int .i64 q0.wr, .int .i64 q0.rd, .int .i64 q0.top] 56)
    have bxn := bx.alloc (.cells #[.int .i64 q0.kind, .int .i64 q0.base, .int .i64 q0.loc, .int .i64 q0.n, .int .i64 q0.wr, .int .i64 q0.rd, .int .i64 q0.top] 56) hP.lt
    have btn := bt.alloc (.cells #[.int .i64 q0.kind, .int .i64 q0.base, .int .i64 q0.loc, .int .i64 q0.n, .int .i64 q0.wr, .int .i64 q0.rd, .int .i64 q0.top] 56) hP.lt
    clear hP hK bx bt hPo
    have c_bxn := bxn.cells
    go_wp2_with fail
    clear c_bx c_bxn
    generalize hzn : wc.heap.size = z at *
    generalize wc.alloc _ = W at *
    clear hzn
    have hP := hPn
    have hK := hKn
    have bx := bxn
    have bt := btn
    clear hPn hKn bxn btn
    replace hO := hOh.out
    clear hOh
    refine tstepL hO hK (reg_write_p B p S q1 me 1 _ hP hq1 ⟨hm0, by omega⟩) (fun _ h => ⟨rfl, h⟩) ?_
    clear hO hK hP
    intro u S2 w2 hlf _ hP hk hK hO
    replace hN := Nat.lt_of_le_of_lt hlf hN
    replace bn := bn.keep hk
    replace bt := bt.keep hk
    have c_bt := bt.cells
    have hOh := Lib.hid hO
    clear hk hlf bx hO
    go_wp2_with fail
    replace hO := hOh.out
    clear hOh c_bt
    refine tstepL hO hK (reg_write_p B p S2 rt me 1 _ hP hrt ⟨hm0, hm3⟩) (fun _ h => ⟨rfl, h⟩) ?_
    clear hO hK hP
    intro u S3 w3 hlf _ hP hk hK hO
    replace hN := Nat.lt_of_le_of_lt hlf hN
    replace bn := bn.keep hk
    replace bt := bt.keep hk
    have hOh := Lib.hid hO
    clear hk hlf hO
    go_wp2_with fail
    go_loopw [] (fun wr => ∃ (n : Nat) (S4 : TS), Plays B wr p S4 ∧ KeepP B p w wr ∧ HeldP wr p z (.cells #[.int .i64 q0.kind, .int .i64 q0.base, .int .i64 q0.loc, .int .i64 q0.n, .int .i64 q0.wr, .int .i64 q0.rd, .int .i64 q0.top] 56) ∧ HeldP wr p y (.cells #[.int .i64 rt.kind, .int .i64 rt.base, .int .i64 rt.loc, .int .i64 rt.n, .int .i64 rt.wr, .int .i64 rt.rd, .int .i64 rt.top] 56) ∧ Hid (Owes R encU B p w ((arbSpin q0 rt 1 me n).run S4)) ∧ S4.left < n) (fun wr => leftW 1 3 wr p)
    case atStart => exact ⟨N, S3, hP, hK, bn, bt, hOh, hN⟩
    case round =>
      clear hP hK bn bt hOh hN
      obtain ⟨n, S4, hP, hK, bn, bt, hO, hN⟩ := hrel
      replace hO := hO.out
      have hlw := Lib.hid hP.left
      cases n with
      | zero => omega
      | succ n =>
        rw [arbSpin_succ] at hO
        have c_bn := bn.cells
        have hOh := Lib.hid hO
        clear hO
        go_wp2_with fail
        replace hO := hOh.out
        clear hOh c_bn
        refine tstepL hO hK (reg_read_p B p S4 q0 me _ hP hq0 ⟨hm0, by omega⟩) (fun _ h => ⟨rfl, h⟩) ?_
        clear hO hK hP
        intro v S5 w4 _ hlf hP hk hK hO
        replace hlf := hlf (asks_regR _ _ ht1)
        replace bn := bn.keep hk
        replace bt := bt.keep hk
        clear hk
        by_cases hv : v = 0
        · rw [if_pos hv] at hO
          subst hv
          have hf : R (.returned (encU ())) w4 := hO.done hP hK
          clear hO hP hK bn bt
          go_wp2_with fail
          first | exact hf | (refine bodyPost_ret (results_none rfl _ _ _) rfl ?_; exact hf)
        · rw [if_neg hv] at hO
          have hv2 : (v == 0) = false := by rw [beq_eq_false_iff_ne]; exact hv
          have c_bt := bt.cells
          have hOh := Lib.hid hO
          clear hv hO
          go_wp2_with fail
          replace hO := hOh.out
          clear hOh c_bt
          refine tstepL hO hK (reg_read_p B p S5 rt me _ hP hrt ⟨hm0, hm3⟩) (fun _ h => ⟨rfl, h⟩) ?_
          clear hO hK hP
          intro y0 S6 w5 hlf2 _ hP hk hK hO
          replace bn := bn.keep hk
          replace bt := bt.keep hk
          clear hk
          by_cases hy : y0 = 1
          · rw [if_pos hy] at hO
            have hy2 : (y0 != 1) = false := by simpa using hy
            have c_bn := bn.cells
            have hOh := Lib.hid hO
            clear hy hO
            go_wp2_with fail
            refine (cells_pm q0 me _ hq0 ht1 ⟨hm0, by omega⟩).mono ?_
            rintro e w6 ⟨cc, rfl, hcc, hx⟩
            replace bn := bn.ext hx hP.lt
            replace bt := bt.ext hx hP.lt
            replace hK := hK.trans (Keep.of_ext hx hP.lt hP.le)
            replace hP := hP.ext hx
            clear hx c_bn
            have hlw2 := Lib.hid hP.left
            go_wp2_with fail
            refine ⟨⟨n, S6, hP, hK, bn, bt, hOh, by omega⟩, ?_⟩
            rw [hlw.out, hlw2.out]
            omega
          · rw [if_neg hy] at hO
            have hy2 : (y0 != 1) = true := by simpa using hy
            have hf : R (.returned (encU ())) w5 := hO.done hP hK
            clear hO hP hK bn bt hy
            go_wp2_with fail
            first | exact hf | (refine bodyPost_ret (results_none rfl _ _ _) rfl ?_; exact hf)
set_option maxRecDepth 100000 in
theorem arbn_leave_p0 (B p : Nat) (S : TS) (q0 q1 rt : Reg) (side me : Int) (b c k : Nat) (rs : List Reg) (w : World) (h : Plays B w p S) (hl : RegsAt [2, 3, 4] w p b rs) (hi : rs[k]? = some q0 ∧ rs[k + 1]? = some q1 ∧ rs[k + 2]? = some rt) (hq : q0.ok)
    (hm0 : 0 ≤ me) (hm1 : me < q0.n) (hs : bitM side = 0) :
    Calls Try.prog 193 #[.pointer (some ⟨p, 0, none⟩), .slice (some ⟨b, k * 7, none⟩) 3 c, .int .i64 side, .int .i64 me] w (Post encU B p w ((regW q0 me 0).run S)) := by
  generalize hR : Post encU B p w ((regW q0 me 0).run S) = R
  have hO : Owes R encU B p w ((regW q0 me 0).run S) := hR ▸ owes _ _ _ _ _
  clear hR
  replace hi := Lib.hid hi
  have hK := Keep.refl [2, 3, 4] B p w
  have hP := h
  clear h
  have hb := abit_p side
  rw [hs] at hb
  clear hs
  have hS : ∀ w', RegsAt [2, 3, 4] w' p b rs → ((w'.cell? ⟨b, k * 7, none⟩ = some (.int .i64 q0.kind) ∧ w'.cell? ⟨b, k * 7 + 1, none⟩ = some (.int .i64 q0.base) ∧ w'.cell? ⟨b, k * 7 + 2, none⟩ = some (.int .i64 q0.loc) ∧ w'.cell? ⟨b, k * 7 + 3, none⟩ = some (.int .i64 q0.n) ∧ w'.cell? ⟨b, k * 7 + 4, none⟩ = some (.int .i64 q0.wr) ∧ w'.cell? ⟨b, k * 7 + 5, none⟩ = some (.int .i64 q0.rd) ∧ w'.cell? ⟨b, k * 7 + 6, none⟩ = some (.int .i64 q0.top)) ∧ (w'.cell? ⟨b, k * 7 + 7, none⟩ = some (.int .i64 q1.kind) ∧ w'.cell? ⟨b, k * 7 + 7 + 1, none⟩ = some (.int .i64 q1.base) ∧ w'.cell? ⟨b, k * 7 + 7 + 2, none⟩ = some (.int .i64 q1.loc) ∧ w'.cell? ⟨b, k * 7 + 7 + 3, none⟩ = some (.int .i64 q1.n) ∧ w'.cell? ⟨b, k * 7 + 7 + 4, none⟩ = some (.int .i64 q1.wr) ∧ w'.cell? ⟨b, k * 7 + 7 + 5, none⟩ = some (.int .i64 q1.rd) ∧ w'.cell? ⟨b, k * 7 + 7 + 6, none⟩ = some (.int .i64 q1.top)) ∧ (w'.cell? ⟨b, k * 7 + 14, none⟩ = some (.int .i64 rt.kind) ∧ w'.cell? ⟨b, k * 7 + 14 + 1, none⟩ = some (.int .i64 rt.base) ∧ w'.cell? ⟨b, k * 7 + 14 + 2, none⟩ = some (.int .i64 rt.loc) ∧ w'.cell? ⟨b, k * 7 + 14 + 3, none⟩ = some (.int .i64 rt.n) ∧ w'.cell? ⟨b, k * 7 + 14 + 4, none⟩ = some (.int .i64 rt.wr) ∧ w'.cell? ⟨b, k * 7 + 14 + 5, none⟩ = some (.int .i64 rt.rd) ∧ w'.cell? ⟨b, k * 7 + 14 + 6, none⟩ = some (.int .i64 rt.top))) := fun w' y => by
    obtain ⟨⟨a0, a1, a2, a3, a4, a5, a6⟩, ⟨e0, e1, e2, e3, e4, e5, e6⟩, ⟨f0, f1, f2, f3, f4, f5, f6⟩⟩ := y.node3 hi.out
    exact ⟨⟨a0, a1, a2, a3, a4, a5, a6⟩, ⟨e0, e1, e2, e3, e4, e5, e6⟩, ⟨f0, f1, f2, f3, f4, f5, f6⟩⟩
  go_enter Try.func193, Try.ntmps193
  go_wp2_with fail
  have hOh := Lib.hid hO
  have hbh := Lib.hid hb
  clear hO hb
  have hl2 := hl.extL (Ext.refl w).drew hP.lt
  obtain ⟨⟨a0, a1, a2, a3, a4, a5, a6⟩, ⟨e0, e1, e2, e3, e4, e5, e6⟩, ⟨f0, f1, f2, f3, f4, f5, f6⟩⟩ := hl.node3 hi.out
  go_region_held2 (fun w' => ((w'.cell? ⟨b, k * 7, none⟩ = some (.int .i64 q0.kind) ∧ w'.cell? ⟨b, k * 7 + 1, none⟩ = some (.int .i64 q0.base) ∧ w'.cell? ⟨b, k * 7 + 2, none⟩ = some (.int .i64 q0.loc) ∧ w'.cell? ⟨b, k * 7 + 3, none⟩ = some (.int .i64 q0.n) ∧ w'.cell? ⟨b, k * 7 + 4, none⟩ = some (.int .i64 q0.wr) ∧ w'.cell? ⟨b, k * 7 + 5, none⟩ = some (.int .i64 q0.rd) ∧ w'.cell? ⟨b, k * 7 + 6, none⟩ = some (.int .i64 q0.top)) ∧ (w'.cell? ⟨b, k * 7 + 7, none⟩ = some (.int .i64 q1.kind) ∧ w'.cell? ⟨b, k * 7 + 7 + 1, none⟩ = some (.int .i64 q1.base) ∧ w'.cell? ⟨b, k * 7 + 7 + 2, none⟩ = some (.int .i64 q1.loc) ∧ w'.cell? ⟨b, k * 7 + 7 + 3, none⟩ = some (.int .i64 q1.n) ∧ w'.cell? ⟨b, k * 7 + 7 + 4, none⟩ = some (.int .i64 q1.wr) ∧ w'.cell? ⟨b, k * 7 + 7 + 5, none⟩ = some (.int .i64 q1.rd) ∧ w'.cell? ⟨b, k * 7 + 7 + 6, none⟩ = some (.int .i64 q1.top)) ∧ (w'.cell? ⟨b, k * 7 + 14, none⟩ = some (.int .i64 rt.kind) ∧ w'.cell? ⟨b, k * 7 + 14 + 1, none⟩ = some (.int .i64 rt.base) ∧ w'.cell? ⟨b, k * 7 + 14 + 2, none⟩ = some (.int .i64 rt.loc) ∧ w'.cell? ⟨b, k * 7 + 14 + 3, none⟩ = some (.int .i64 rt.n) ∧ w'.cell? ⟨b, k * 7 + 14 + 4, none⟩ = some (.int .i64 rt.wr) ∧ w'.cell? ⟨b, k * 7 + 14 + 5, none⟩ = some (.int .i64 rt.rd) ∧ w'.cell? ⟨b, k * 7 + 14 + 6, none⟩ = some (.int .i64 rt.top)))) (first | with_reducible exact hS _ hl2 | go_keep) (fail)
  rename_i hh
  clear hh
  have bx := (hP.held (.cells #[.int .i64 q0.kind, .int .i64 q0.base, .int .i64 q0.loc, .int .i64 q0.n, .int .i64 q0.wr, .int .i64 q0.rd, .int .i64 q0.top, .int .i64 q1.kind, .int .i64 q1.base, .int .i64 q1.loc, .int .i64 q1.n, .int .i64 q1.wr, .int .i64 q1.rd, .int .i64 q1.top] 170)).drew
  replace hK := (hK.trans (Keep.alloc (.cells #[.int .i64 q0.kind, .int .i64 q0.base, .int .i64 q0.loc, .int .i64 q0.n, .int .i64 q0.wr, .int .i64 q0.rd, .int .i64 q0.top, .int .i64 q1.kind, .int .i64 q1.base, .int .i64 q1.loc, .int .i64 q1.n, .int .i64 q1.wr, .int .i64 q1.rd, .int .i64 q1.top] 170) hP.lt hP.le)).drew
  replace hP := (hP.alloc (.cells #[.int .i64 q0.kind, .int .i64 q0.base, .int .i64 q0.loc, .int .i64 q0.n, .int .i64 q0.wr, .int .i64 q0.rd, .int .i64 q0.top, .int .i64 q1.kind, .int .i64 q1.base, .int .i64 q1.loc, .int .i64 q1.n, .int .i64 q1.wr, .int .i64 q1.rd, .int .i64 q1.top] 170)).drew
  clear hS hl2 hl a0 a1 a2 a3 a4 a5 a6 e0 e1 e2 e3 e4 e5 e6 f0 f1 f2 f3 f4 f5 f6
  have c_bx := bx.cells
  go_wp2_with fail
  refine (hbh.out _).mono ?_
  rintro e w' ⟨rfl, rfl⟩
  go_wp2_with fail
  replace hO := hOh.out
  clear hOh c_bx bx
  refine tlast hO hK (reg_write_p B p S q0 me 0 _ hP hq ⟨hm0, hm1⟩) (fun _ h => ⟨rfl, h⟩) ?_
  clear hO hK hP
  intro u S2 w3 hr hP hk hK hO
  have hf := hO.done hP hK
  clear hO hP hK hr hk
  go_wp2_with fail
  first | exact hf | (refine bodyPost_ret (results_none rfl _ _ _) rfl ?_; exact hf)
set_option maxRecDepth 100000 in
theorem arbn_leave_p1 (B p : Nat) (S : TS) (q0 q1 rt : Reg) (side me : Int) (b c k : Nat) (rs : List Reg) (w : World) (h : Plays B w p S) (hl : RegsAt [2, 3, 4] w p b rs) (hi : rs[k]? = some q0 ∧ rs[k + 1]? = some q1 ∧ rs[k + 2]? = some rt) (hq : q1.ok)
    (hm0 : 0 ≤ me) (hm1 : me < q1.n) (hs : bitM side = 1) :
    Calls Try.prog 193 #[.pointer (some ⟨p, 0, none⟩), .slice (some ⟨b, k * 7, none⟩) 3 c, .int .i64 side, .int .i64 me] w (Post encU B p w ((regW q1 me 0).run S)) := by
  generalize hR : Post encU B p w ((regW q1 me 0).run S) = R
  have hO : Owes R encU B p w ((regW q1 me 0).run S) := hR ▸ owes _ _ _ _ _
  clear hR
  replace hi := Lib.hid hi
  have hK := Keep.refl [2, 3, 4] B p w
  have hP := h
  clear h
  have hb := abit_p side
  rw [hs] at hb
  clear hs
  have hS : ∀ w', RegsAt [2, 3, 4] w' p b rs → ((w'.cell? ⟨b, k * 7, none⟩ = some (.int .i64 q0.kind) ∧ w'.cell? ⟨b, k * 7 + 1, none⟩ = some (.int .i64 q0.base) ∧ w'.cell? ⟨b, k * 7 + 2, none⟩ = some (.int .i64 q0.loc) ∧ w'.cell? ⟨b, k * 7 + 3, none⟩ = some (.int .i64 q0.n) ∧ w'.cell? ⟨b, k * 7 + 4, none⟩ = some (.int .i64 q0.wr) ∧ w'.cell? ⟨b, k * 7 + 5, none⟩ = some (.int .i64 q0.rd) ∧ w'.cell? ⟨b, k * 7 + 6, none⟩ = some (.int .i64 q0.top)) ∧ (w'.cell? ⟨b, k * 7 + 7, none⟩ = some (.int .i64 q1.kind) ∧ w'.cell? ⟨b, k * 7 + 7 + 1, none⟩ = some (.int .i64 q1.base) ∧ w'.cell? ⟨b, k * 7 + 7 + 2, none⟩ = some (.int .i64 q1.loc) ∧ w'.cell? ⟨b, k * 7 + 7 + 3, none⟩ = some (.int .i64 q1.n) ∧ w'.cell? ⟨b, k * 7 + 7 + 4, none⟩ = some (.int .i64 q1.wr) ∧ w'.cell? ⟨b, k * 7 + 7 + 5, none⟩ = some (.int .i64 q1.rd) ∧ w'.cell? ⟨b, k * 7 + 7 + 6, none⟩ = some (.int .i64 q1.top)) ∧ (w'.cell? ⟨b, k * 7 + 14, none⟩ = some (.int .i64 rt.kind) ∧ w'.cell? ⟨b, k * 7 + 14 + 1, none⟩ = some (.int .i64 rt.base) ∧ w'.cell? ⟨b, k * 7 + 14 + 2, none⟩ = some (.int .i64 rt.loc) ∧ w'.cell? ⟨b, k * 7 + 14 + 3, none⟩ = some (.int .i64 rt.n) ∧ w'.cell? ⟨b, k * 7 + 14 + 4, none⟩ = some (.int .i64 rt.wr) ∧ w'.cell? ⟨b, k * 7 + 14 + 5, none⟩ = some (.int .i64 rt.rd) ∧ w'.cell? ⟨b, k * 7 + 14 + 6, none⟩ = some (.int .i64 rt.top))) := fun w' y => by
    obtain ⟨⟨a0, a1, a2, a3, a4, a5, a6⟩, ⟨e0, e1, e2, e3, e4, e5, e6⟩, ⟨f0, f1, f2, f3, f4, f5, f6⟩⟩ := y.node3 hi.out
    exact ⟨⟨a0, a1, a2, a3, a4, a5, a6⟩, ⟨e0, e1, e2, e3, e4, e5, e6⟩, ⟨f0, f1, f2, f3, f4, f5, f6⟩⟩
  go_enter Try.func193, Try.ntmps193
  go_wp2_with fail
  have hOh := Lib.hid hO
  have hbh := Lib.hid hb
  clear hO hb
  have hl2 := hl.extL (Ext.refl w).drew hP.lt
  obtain ⟨⟨a0, a1, a2, a3, a4, a5, a6⟩, ⟨e0, e1, e2, e3, e4, e5, e6⟩, ⟨f0, f1, f2, f3, f4, f5, f6⟩⟩ := hl.node3 hi.out
  go_region_held2 (fun w' => ((w'.cell? ⟨b, k * 7, none⟩ = some (.int .i64 q0.kind) ∧ w'.cell? ⟨b, k * 7 + 1, none⟩ = some (.int .i64 q0.base) ∧ w'.cell? ⟨b, k * 7 + 2, none⟩ = some (.int .i64 q0.loc) ∧ w'.cell? ⟨b, k * 7 + 3, none⟩ = some (.int .i64 q0.n) ∧ w'.cell? ⟨b, k * 7 + 4, none⟩ = some (.int .i64 q0.wr) ∧ w'.cell? ⟨b, k * 7 + 5, none⟩ = some (.int .i64 q0.rd) ∧ w'.cell? ⟨b, k * 7 + 6, none⟩ = some (.int .i64 q0.top)) ∧ (w'.cell? ⟨b, k * 7 + 7, none⟩ = some (.int .i64 q1.kind) ∧ w'.cell? ⟨b, k * 7 + 7 + 1, none⟩ = some (.int .i64 q1.base) ∧ w'.cell? ⟨b, k * 7 + 7 + 2, none⟩ = some (.int .i64 q1.loc) ∧ w'.cell? ⟨b, k * 7 + 7 + 3, none⟩ = some (.int .i64 q1.n) ∧ w'.cell? ⟨b, k * 7 + 7 + 4, none⟩ = some (.int .i64 q1.wr) ∧ w'.cell? ⟨b, k * 7 + 7 + 5, none⟩ = some (.int .i64 q1.rd) ∧ w'.cell? ⟨b, k * 7 + 7 + 6, none⟩ = some (.int .i64 q1.top)) ∧ (w'.cell? ⟨b, k * 7 + 14, none⟩ = some (.int .i64 rt.kind) ∧ w'.cell? ⟨b, k * 7 + 14 + 1, none⟩ = some (.int .i64 rt.base) ∧ w'.cell? ⟨b, k * 7 + 14 + 2, none⟩ = some (.int .i64 rt.loc) ∧ w'.cell? ⟨b, k * 7 + 14 + 3, none⟩ = some (.int .i64 rt.n) ∧ w'.cell? ⟨b, k * 7 + 14 + 4, none⟩ = some (.int .i64 rt.wr) ∧ w'.cell? ⟨b, k * 7 + 14 + 5, none⟩ = some (.int .i64 rt.rd) ∧ w'.cell? ⟨b, k * 7 + 14 + 6, none⟩ = some (.int .i64 rt.top)))) (first | with_reducible exact hS _ hl2 | go_keep) (fail)
  rename_i hh
  clear hh
  have bx := (hP.held (.cells #[.int .i64 q0.kind, .int .i64 q0.base, .int .i64 q0.loc, .int .i64 q0.n, .int .i64 q0.wr, .int .i64 q0.rd, .int .i64 q0.top, .int .i64 q1.kind, .int .i64 q1.base, .int .i64 q1.loc, .int .i64 q1.n, .int .i64 q1.wr, .int .i64 q1.rd, .int .i64 q1.top] 170)).drew
  replace hK := (hK.trans (Keep.alloc (.cells #[.int .i64 q0.kind, .int .i64 q0.base, .int .i64 q0.loc, .int .i64 q0.n, .int .i64 q0.wr, .int .i64 q0.rd, .int .i64 q0.top, .int .i64 q1.kind, .int .i64 q1.base, .int .i64 q1.loc, .int .i64 q1.n, .int .i64 q1.wr, .int .i64 q1.rd, .int .i64 q1.top] 170) hP.lt hP.le)).drew
  replace hP := (hP.alloc (.cells #[.int .i64 q0.kind, .int .i64 q0.base, .int .i64 q0.loc, .int .i64 q0.n, .int .i64 q0.wr, .int .i64 q0.rd, .int .i64 q0.top, .int .i64 q1.kind, .int .i64 q1.base, .int .i64 q1.loc, .int .i64 q1.n, .int .i64 q1.wr, .int .i64 q1.rd, .int .i64 q1.top] 170)).drew
  clear hS hl2 hl a0 a1 a2 a3 a4 a5 a6 e0 e1 e2 e3 e4 e5 e6 f0 f1 f2 f3 f4 f5 f6
  have c_bx := bx.cells
  go_wp2_with fail
  refine (hbh.out _).mono ?_
  rintro e w' ⟨rfl, rfl⟩
  go_wp2_with fail
  replace hO := hOh.out
  clear hOh c_bx bx
  refine tlast hO hK (reg_write_p B p S q1 me 0 _ hP hq ⟨hm0, hm1⟩) (fun _ h => ⟨rfl, h⟩) ?_
  clear hO hK hP
  intro u S2 w3 hr hP hk hK hO
  have hf := hO.done hP hK
  clear hO hP hK hr hk
  go_wp2_with fail
  first | exact hf | (refine bodyPost_ret (results_none rfl _ _ _) rfl ?_; exact hf)
theorem arbn_enter_p (B p N : Nat) (S : TS) (q0 q1 rt : Reg) (side me : Int) (b c k : Nat) (rs : List Reg) (w : World) (h : Plays B w p S) (hl : RegsAt [2, 3, 4] w p b rs) (hi : rs[k]? = some q0 ∧ rs[k + 1]? = some q1 ∧ rs[k + 2]? = some rt) (hq0 : q0.ok) (hq1 : q1.ok) (hrt : rt.ok)
    (hm0 : 0 ≤ me) (hm1 : me < q0.n) (hm2 : me < q1.n) (hm3 : me < rt.n) (ht0 : q0.told me) (ht1 : q1.told me) (hN : S.left < N) :
    Calls Try.prog 192 #[.pointer (some ⟨p, 0, none⟩), .slice (some ⟨b, k * 7, none⟩) 3 c, .int .i64 side, .int .i64 me] w (Post encU B p w ((arbM N q0 q1 rt side me).run S)) := by
  unfold arbM
  rcases bitM_or side with hs | hs
  · rw [if_neg (by omega)]
    exact arbn_enter_p0 B p N S q0 q1 rt side me b c k rs w h hl hi hq0 hq1 hrt hm0 hm1 hm2 hm3 ht1 hN hs
  · rw [if_pos hs]
    exact arbn_enter_p1 B p N S q0 q1 rt side me b c k rs w h hl hi hq0 hq1 hrt hm0 hm1 hm2 hm3 ht0 hN hs
theorem arbn_leave_p (B p : Nat) (S : TS) (q0 q1 rt : Reg) (side me : Int) (b c k : Nat) (rs : List Reg) (w : World) (h : Plays B w p S) (hl : RegsAt [2, 3, 4] w p b rs) (hi : rs[k]? = some q0 ∧ rs[k + 1]? = some q1 ∧ rs[k + 2]? = some rt) (hq0 : q0.ok) (hq1 : q1.ok)
    (hm0 : 0 ≤ me) (hm1 : me < q0.n) (hm2 : me < q1.n) :
    Calls Try.prog 193 #[.pointer (some ⟨p, 0, none⟩), .slice (some ⟨b, k * 7, none⟩) 3 c, .int .i64 side, .int .i64 me] w (Post encU B p w ((kesL q0 q1 side me).run S)) := by
  unfold kesL
  rcases bitM_or side with hs | hs
  · rw [hs, if_neg (by omega)]
    exact arbn_leave_p0 B p S q0 q1 rt side me b c k rs w h hl hi hq0 hm0 hm1 hs
  · rw [hs, if_pos rfl]
    exact arbn_leave_p1 B p S q0 q1 rt side me b c k rs w h hl hi hq1 hm0 hm2 hs
end Go.Proofs.Ytbphlkaihfbgeaa
/-
  Kessels' lock at a node of a tree: entering and leaving, both sides.
-/
namespace Go.Proofs.Ytbphlkaihfbgeaa
open Go.RowKit Kv
theorem RegsAt.node4r {ix : List Nat} {p b k : Nat} {w : World} {rs : List Reg} {x y z u : Reg} (h : RegsAt ix w p b rs) (hi : rs[k]? = some x ∧ rs[k + 1]? = some y ∧ rs[k + 2]? = some z ∧ rs[k + 3]? = some u) :
    RegCells w b (k * 7) x ∧ RegCells w b (k * 7 + 7) y ∧ RegCells w b (k * 7 + 14) z ∧ RegCells w b (k * 7 + 21) u := by
  have h1 := h.nth hi.2.1
  have h2 := h.nth hi.2.2.1
  have h3 := h.nth hi.2.2.2
  rw [show (k + 1) * 7 = k * 7 + 7 from by omega] at h1
  rw [show (k + 2) * 7 = k * 7 + 14 from by omega] at h2
  rw [show (k + 3) * 7 = k * 7 + 21 from by omega] at h3
  exact ⟨h.nth hi.1, h1, h2, h3⟩
theorem RegsAt.node4 {ix : List Nat} {p b k : Nat} {w : World} {rs : List Reg} {x y z u : Reg} (h : RegsAt ix w p b rs) (hi : rs[k]? = some x ∧ rs[k + 1]? = some y ∧ rs[k + 2]? = some z ∧ rs[k + 3]? = some u) :
    RegCells w b (k * 7) x ∧ RegCells w b (k * 7 + 7) y ∧ RegCells w b (k * 7 + 14) z ∧ RegCells w b (k * 7 + 14 + 7) u := by
  obtain ⟨h0, h1, h2, h3⟩ := h.node4r hi
  rw [show k * 7 + 21 = k * 7 + 14 + 7 from by omega] at h3
  exact ⟨h0, h1, h2, h3⟩
set_option maxRecDepth 100000 in
set_option maxHeartbeats 1000000 in
theorem kesn_enter_p0 (B p N : Nat) (S : TS) (q0 q1 r0 r1 : Reg) (side me : Int) (b c k : Nat) (rs : List Reg) (w : World) (h : Plays B w p S) (hl : RegsAt [2, 3, 4] w p b rs) (hi : rs[k]? = some q0 ∧ rs[k + 1]? = some q1 ∧ rs[k + 2]? = some r0 ∧ rs[k + 3]? = some r1) (hq0 : q0.ok) (hq1 : q1.ok) (hr0 : r0.ok) (hr1 : r1.ok)
    (hm0 : 0 ≤ me) (hm1 : me < q0.n) (hm2 : me < q1.n) (hm3 : me < r0.n) (hm4 : me < r1.n) (ht1 : q1.told me) (_ht2 : r1.told me) (hN : S.left < N) (hs : bitM side = 0) (hc4 : 4 ≤ c) (hc5 : c ≤ 9223372036854775807) :
    Calls Try.prog 189 #[.pointer (some ⟨p, 0, none⟩), .slice (some ⟨b, k * 7, none⟩) 4 c, .int .i64 side, .int .i64 me] w (Post encU B p w ((kesEnter N q0 q1 r0 r1 0 me).run S)) := by
  generalize hR : Post encU B p w ((kesEnter N q0 q1 r0 r1 0 me).run S) = R
  have hO : Owes R encU B p w ((kesEnter N q0 q1 r0 r1 0 me).run S) := hR ▸ owes _ _ _ _ _
  clear hR
  replace hi := Lib.hid hi
  have hmf : ∀ (fn : Fn) (first cap : Array Value) (w : World), (Instr.makeFunc fn first cap).run Try.prog w = .ok (.func fn first cap) w := fun _ _ _ _ => rfl
  have hK := Keep.refl [2, 3, 4] B p w
  have hP := h
  clear h
  unfold kesEnter at hO
  obtain ⟨⟨a0, a1, a2, a3, a4, a5, a6⟩, ⟨e0, e1, e2, e3, e4, e5, e6⟩, ⟨f0, f1, f2, f3, f4, f5, f6⟩, ⟨g0, g1, g2, g3, g4, g5, g6⟩⟩ := hl.node4 hi.out
  have hc6 : (2 : Int) ≤ (c : Int) := by omega
  have hc7 : (4 : Int) ≤ (c : Int) := by omega
  have hb := kbit_p side w
  rw [hs] at hb
  clear hs
  go_enter Try.func189, Try.ntmps189
  go_wp2_with fail
  refine hb.mono ?_
  rintro e w' ⟨rfl, rfl⟩
  clear hb
  go_wp2_with fail
  go_quiet (fail)
  have hx := (Ext.refl w).drewN nq
  replace hl := hl.extL hx hP.lt
  replace hK := hK.trans (Keep.of_ext hx hP.lt hP.le)
  replace hP := hP.ext hx
  clear a0 a1 a2 a3 a4 a5 a6 e0 e1 e2 e3 e4 e5 e6 f0 f1 f2 f3 f4 f5 f6 g0 g1 g2 g3 g4 g5 g6 hx
  generalize w.drewN nq = wz at *
  obtain ⟨⟨a0, a1, a2, a3, a4, a5, a6⟩, ⟨e0, e1, e2, e3, e4, e5, e6⟩, ⟨f0, f1, f2, f3, f4, f5, f6⟩, ⟨g0, g1, g2, g3, g4, g5, g6⟩⟩ := hl.node4 hi.out
  go_wp2_with fail
  refine tstepL hO hK (reg_write_p B p S q0 me 1 _ hP hq0 ⟨hm0, by omega⟩) (fun _ h => ⟨rfl, h⟩) ?_
  clear hO hK hP
  intro u S w1 hlf _ hP hk hK hO
  replace hN := Nat.lt_of_le_of_lt hlf hN
  replace hl := hl.keep hk
  clear a0 a1 a2 a3 a4 a5 a6 e0 e1 e2 e3 e4 e5 e6 f0 f1 f2 f3 f4 f5 f6 g0 g1 g2 g3 g4 g5 g6 hk hlf
  obtain ⟨⟨a0, a1, a2, a3, a4, a5, a6⟩, ⟨e0, e1, e2, e3, e4, e5, e6⟩, ⟨f0, f1, f2, f3, f4, f5, f6⟩, ⟨g0, g1, g2, g3, g4, g5, g6⟩⟩ := hl.node4 hi.out
  go_wp2_with fail
  refine tstepL hO hK (reg_read_p B p S r1 me _ hP hr1 ⟨hm0, by omega⟩) (fun _ h => ⟨rfl, h⟩) ?_
  clear hO hK hP
  intro x S w2 hlf _ hP hk hK hO
  replace hN := Nat.lt_of_le_of_lt hlf hN
  replace hl := hl.keep hk
  clear a0 a1 a2 a3 a4 a5 a6 e0 e1 e2 e3 e4 e5 e6 f0 f1 f2 f3 f4 f5 f6 g0 g1 g2 g3 g4 g5 g6 hk hlf
  obtain ⟨⟨a0, a1, a2, a3, a4, a5, a6⟩, ⟨e0, e1, e2, e3, e4, e5, e6⟩, ⟨f0, f1, f2, f3, f4, f5, f6⟩, ⟨g0, g1, g2, g3, g4, g5, g6⟩⟩ := hl.node4 hi.out
  go_wp2_with fail
  have hbx : 0 ≤ bitM x ∧ bitM x ≤ 1 := by unfold bitM; split <;> omega
  have hwx := w64 (1 - bitM x) (by omega) (by omega)
  refine (kbit_p x _).mono ?_
  rintro e w' ⟨rfl, rfl⟩
  go_wp2_with fail
  have hPo := hP
  have bT := hP.held (.cells #[.int .i64 (bitM x)] 3)
  replace hK := hK.trans (Keep.alloc (.cells #[.int .i64 (bitM x)] 3) hP.lt hP.le)
  replace hP := hP.alloc (.cells #[.int .i64 (bitM x)] 3)
  have c_bT := bT.cells
  replace hl := hl.extL ((Ext.refl _).alloc (.cells #[.int .i64 (bitM x)] 3)) hPo.lt
  clear hPo
  clear a0 a1 a2 a3 a4 a5 a6 e0 e1 e2 e3 e4 e5 e6 f0 f1 f2 f3 f4 f5 f6 g0 g1 g2 g3 g4 g5 g6
  rw [show kesT 0 x = (bitM x) from rfl] at hO
  replace hP := hP.drew
  replace hK := hK.drew
  replace bT := bT.drew
  replace hl := hl.extL (Ext.refl _).drew hP.lt
  have hS : ∀ w', RegsAt [2, 3, 4] w' p b rs → HeldP w' p w2.heap.size (.cells #[.int .i64 (bitM x)] 3) → (w'.cell? ⟨b, k * 7 + 14, none⟩ = some (.int .i64 r0.kind) ∧ w'.cell? ⟨b, k * 7 + 14 + 1, none⟩ = some (.int .i64 r0.base) ∧ w'.cell? ⟨b, k * 7 + 14 + 2, none⟩ = some (.int .i64 r0.loc) ∧ w'.cell? ⟨b, k * 7 + 14 + 3, none⟩ = some (.int .i64 r0.n) ∧ w'.cell? ⟨b, k * 7 + 14 + 4, none⟩ = some (.int .i64 r0.wr) ∧ w'.cell? ⟨b, k * 7 + 14 + 5, none⟩ = some (.int .i64 r0.rd) ∧ w'.cell? ⟨b, k * 7 + 14 + 6, none⟩ = some (.int .i64 r0.top)) ∧ (∀ i, w'.cell? ⟨w2.heap.size, i, none⟩ = (#[.int .i64 (bitM x)] : Array Value)[i]?) := fun w' h1 h2 => by
    obtain ⟨y0, y1, y2, y3, y4, y5, y6⟩ := (h1.node4 hi.out).2.2.1
    exact ⟨⟨y0, y1, y2, y3, y4, y5, y6⟩, h2.cells⟩
  go_region_held2 (fun w' => (w'.cell? ⟨b, k * 7 + 14, none⟩ = some (.int .i64 r0.kind) ∧ w'.cell? ⟨b, k * 7 + 14 + 1, none⟩ = some (.int .i64 r0.base) ∧ w'.cell? ⟨b, k * 7 + 14 + 2, none⟩ = some (.int .i64 r0.loc) ∧ w'.cell? ⟨b, k * 7 + 14 + 3, none⟩ = some (.int .i64 r0.n) ∧ w'.cell? ⟨b, k * 7 + 14 + 4, none⟩ = some (.int .i64 r0.wr) ∧ w'.cell? ⟨b, k * 7 + 14 + 5, none⟩ = some (.int .i64 r0.rd) ∧ w'.cell? ⟨b, k * 7 + 14 + 6, none⟩ = some (.int .i64 r0.top)) ∧ (∀ i, w'.cell? ⟨w2.heap.size, i, none⟩ = (#[.int .i64 (bitM x)] : Array Value)[i]?)) (exact hS _ hl bT)
    (first
      | (go_at_call 42
         refine tstepL hO hK (reg_write_p B p S r0 me (bitM x) _ hP hr0 ⟨hm0, by omega⟩) (fun _ h => ⟨rfl, h⟩) ?_
         clear hO hK hP
         intro u S w3 hlf _ hP hk hK hO
         replace hN := Nat.lt_of_le_of_lt hlf hN
         replace hl := hl.keep hk
         replace bT := bT.keep hk
         clear hk hlf))
  rename_i hh
  clear hh c_bT
  generalize htx : (bitM x) = t at *
  go_wp2_with fail
  go_loopw [] (fun wr => ∃ (n : Nat) (S1 : TS), Plays B wr p S1 ∧ KeepP B p w wr ∧ HeldP wr p w2.heap.size (.cells #[.int .i64 t] 3) ∧ RegsAt [2, 3, 4] wr p b rs ∧ Hid (Owes R encU B p w ((kesSpin q1 r1 0 t me n).run S1)) ∧ S1.left < n) (fun wr => leftW 1 3 wr p)
  case atStart => exact ⟨N, S, hP, hK, bT, hl, hO, hN⟩
  case round =>
    clear hS hP hK bT hl hO hN
    obtain ⟨n, S1, hP, hK, bT, hl, hO, hN⟩ := hrel
    have hO := hO.out
    have hlw := Lib.hid hP.left
    cases n with
    | zero => omega
    | succ n =>
      unfold kesSpin at hO
      obtain ⟨⟨a0, a1, a2, a3, a4, a5, a6⟩, ⟨e0, e1, e2, e3, e4, e5, e6⟩, ⟨f0, f1, f2, f3, f4, f5, f6⟩, ⟨g0, g1, g2, g3, g4, g5, g6⟩⟩ := hl.node4 hi.out
      go_wp2_with fail
      refine tstepL hO hK (reg_read_p B p S1 q1 me _ hP hq1 ⟨hm0, by omega⟩) (fun _ h => ⟨rfl, h⟩) ?_
      clear hO hK hP
      intro v S2 w4 _ hlf hP hk hK hO
      replace hlf := hlf (asks_regR _ _ ht1)
      replace hl := hl.keep hk
      replace bT := bT.keep hk
      clear a0 a1 a2 a3 a4 a5 a6 e0 e1 e2 e3 e4 e5 e6 f0 f1 f2 f3 f4 f5 f6 g0 g1 g2 g3 g4 g5 g6 hk
      by_cases hv : v = 0
      · rw [if_pos hv] at hO
        subst hv
        have hf : R (.returned (encU ())) w4 := hO.done hP hK
        clear hO hP hK hl bT
        go_wp2_with fail
        first | exact hf | (refine bodyPost_ret (results_none rfl _ _ _) rfl ?_; exact hf)
      · rw [if_neg hv] at hO
        have hv2 : (v == 0) = false := by rw [beq_eq_false_iff_ne]; exact hv
        obtain ⟨⟨a0, a1, a2, a3, a4, a5, a6⟩, ⟨e0, e1, e2, e3, e4, e5, e6⟩, ⟨f0, f1, f2, f3, f4, f5, f6⟩, ⟨g0, g1, g2, g3, g4, g5, g6⟩⟩ := hl.node4 hi.out
        clear hv
        go_wp2_with fail
        refine tstepL hO hK (reg_read_p B p S2 r1 me _ hP hr1 ⟨hm0, by omega⟩) (fun _ h => ⟨rfl, h⟩) ?_
        clear hO hK hP
        intro y S3 w5 hlf2 _ hP hk hK hO
        replace hl := hl.keep hk
        replace bT := bT.keep hk
        clear a0 a1 a2 a3 a4 a5 a6 e0 e1 e2 e3 e4 e5 e6 f0 f1 f2 f3 f4 f5 f6 g0 g1 g2 g3 g4 g5 g6 hk
        have c_bT := bT.cells
        go_wp2_with fail
        refine (kbit_p y _).mono ?_
        rintro e w' ⟨rfl, rfl⟩
        go_wp2_with fail
        refine (kfree0_p (bitM y) t _ _ (c_bT 0)).mono ?_
        rintro e w' ⟨rfl, rfl⟩
        by_cases hy : kesFree 0 t y = true
        · rw [if_pos hy] at hO
          have hy2 : (bitM y != t) = true := by unfold kesFree at hy; simpa using hy
          have hf : R (.returned (encU ())) w5 := hO.done hP hK
          clear hO hP hK hl bT hy
          go_wp2_with fail
          first | exact hf | (refine bodyPost_ret (results_none rfl _ _ _) rfl ?_; exact hf)
        · rw [if_neg hy] at hO
          have hy2 : (bitM y != t) = false := by unfold kesFree at hy; simpa using hy
          obtain ⟨⟨a0, a1, a2, a3, a4, a5, a6⟩, ⟨e0, e1, e2, e3, e4, e5, e6⟩, ⟨f0, f1, f2, f3, f4, f5, f6⟩, ⟨g0, g1, g2, g3, g4, g5, g6⟩⟩ := hl.node4 hi.out
          clear hy c_bT
          go_wp2_with fail
          refine (cells_pm q1 me _ hq1 ht1 ⟨hm0, by omega⟩).mono ?_
          rintro e w6 ⟨cc, rfl, hcc, hx⟩
          replace hl := hl.extL hx hP.lt
          replace bT := bT.ext hx hP.lt
          replace hK := hK.trans (Keep.of_ext hx hP.lt hP.le)
          replace hP := hP.ext hx
          clear a0 a1 a2 a3 a4 a5 a6 e0 e1 e2 e3 e4 e5 e6 f0 f1 f2 f3 f4 f5 f6 g0 g1 g2 g3 g4 g5 g6 hx
          have hlw2 := Lib.hid hP.left
          have hOh := Lib.hid hO
          clear hO
          go_wp2_with fail
          refine ⟨⟨n, S3, hP, hK, bT, hl, hOh, by omega⟩, ?_⟩
          rw [hlw.out, hlw2.out]
          omega
set_option maxRecDepth 100000 in
set_option maxHeartbeats 1000000 in
theorem kesn_enter_p1 (B p N : Nat) (S : TS) (q0 q1 r0 r1 : Reg) (side me : Int) (b c k : Nat) (rs : List Reg) (w : World) (h : Plays B w p S) (hl : RegsAt [2, 3, 4] w p b rs) (hi : rs[k]? = some q0 ∧ rs[k + 1]? = some q1 ∧ rs[k + 2]? = some r0 ∧ rs[k + 3]? = some r1) (hq0 : q0.ok) (hq1 : q1.ok) (hr0 : r0.ok) (hr1 : r1.ok)
    (hm0 : 0 ≤ me) (hm1 : me < q0.n) (hm2 : me < q1.n) (hm3 : me < r0.n) (hm4 : me < r1.n) (ht1 : q0.told me) (_ht2 : r0.told me) (hN : S.left < N) (hs : bitM side = 1) (hc4 : 4 ≤ c) (hc5 : c ≤ 9223372036854775807) :
    Calls Try.prog 189 #[.pointer (some ⟨p, 0, none⟩), .slice (some ⟨b, k * 7, none⟩) 4 c, .int .i64 side, .int .i64 me] w (Post encU B p w ((kesEnter N q1 q0 r1 r0 1 me).run S)) := by
  generalize hR : Post encU B p w ((kesEnter N q1 q0 r1 r0 1 me).run S) = R
  have hO : Owes R encU B p w ((kesEnter N q1 q0 r1 r0 1 me).run S) := hR ▸ owes _ _ _ _ _
  clear hR
  replace hi := Lib.hid hi
  have hmf : ∀ (fn : Fn) (first cap : Array Value) (w : World), (Instr.makeFunc fn first cap).run Try.prog w = .ok (.func fn first cap) w := fun _ _ _ _ => rfl
  have hK := Keep.refl [2, 3, 4] B p w
  have hP := h
  clear h
  unfold kesEnter at hO
  obtain ⟨⟨a0, a1, a2, a3, a4, a5, a6⟩, ⟨e0, e1, e2, e3, e4, e5, e6⟩, ⟨f0, f1, f2, f3, f4, f5, f6⟩, ⟨g0, g1, g2, g3, g4, g5, g6⟩⟩ := hl.node4 hi.out
  have hc6 : (2 : Int) ≤ (c : Int) := by omega
  have hc7 : (4 : Int) ≤ (c : Int) := by omega
  have hb := kbit_p side w
  rw [hs] at hb
  clear hs
  go_enter Try.func189, Try.ntmps189
  go_wp2_with fail
  refine hb.mono ?_
  rintro e w' ⟨rfl, rfl⟩
  clear hb
  go_wp2_with fail
  go_quiet (fail)
  have hx := (Ext.refl w).drewN nq
  replace hl := hl.extL hx hP.lt
  replace hK := hK.trans (Keep.of_ext hx hP.lt hP.le)
  replace hP := hP.ext hx
  clear a0 a1 a2 a3 a4 a5 a6 e0 e1 e2 e3 e4 e5 e6 f0 f1 f2 f3 f4 f5 f6 g0 g1 g2 g3 g4 g5 g6 hx
  generalize w.drewN nq = wz at *
  obtain ⟨⟨a0, a1, a2, a3, a4, a5, a6⟩, ⟨e0, e1, e2, e3, e4, e5, e6⟩, ⟨f0, f1, f2, f3, f4, f5, f6⟩, ⟨g0, g1, g2, g3, g4, g5, g6⟩⟩ := hl.node4 hi.out
  go_wp2_with fail
  refine tstepL hO hK (reg_write_p B p S q1 me 1 _ hP hq1 ⟨hm0, by omega⟩) (fun _ h => ⟨rfl, h⟩) ?_
  clear hO hK hP
  intro u S w1 hlf _ hP hk hK hO
  replace hN := Nat.lt_of_le_of_lt hlf hN
  replace hl := hl.keep hk
  clear a0 a1 a2 a3 a4 a5 a6 e0 e1 e2 e3 e4 e5 e6 f0 f1 f2 f3 f4 f5 f6 g0 g1 g2 g3 g4 g5 g6 hk hlf
  obtain ⟨⟨a0, a1, a2, a3, a4, a5, a6⟩, ⟨e0, e1, e2, e3, e4, e5, e6⟩, ⟨f0, f1, f2, f3, f4, f5, f6⟩, ⟨g0, g1, g2, g3, g4, g5, g6⟩⟩ := hl.node4 hi.out
  go_wp2_with fail
  refine tstepL hO hK (reg_read_p B p S r0 me _ hP hr0 ⟨hm0, by omega⟩) (fun _ h => ⟨rfl, h⟩) ?_
  clear hO hK hP
  intro x S w2 hlf _ hP hk hK hO
  replace hN := Nat.lt_of_le_of_lt hlf hN
  replace hl := hl.keep hk
  clear a0 a1 a2 a3 a4 a5 a6 e0 e1 e2 e3 e4 e5 e6 f0 f1 f2 f3 f4 f5 f6 g0 g1 g2 g3 g4 g5 g6 hk hlf
  obtain ⟨⟨a0, a1, a2, a3, a4, a5, a6⟩, ⟨e0, e1, e2, e3, e4, e5, e6⟩, ⟨f0, f1, f2, f3, f4, f5, f6⟩, ⟨g0, g1, g2, g3, g4, g5, g6⟩⟩ := hl.node4 hi.out
  go_wp2_with fail
  have hbx : 0 ≤ bitM x ∧ bitM x ≤ 1 := by unfold bitM; split <;> omega
  have hwx := w64 (1 - bitM x) (by omega) (by omega)
  refine (kbit_p x _).mono ?_
  rintro e w' ⟨rfl, rfl⟩
  go_wp2_with fail
  have hPo := hP
  have bT := hP.held (.cells #[.int .i64 (1 - bitM x)] 3)
  replace hK := hK.trans (Keep.alloc (.cells #[.int .i64 (1 - bitM x)] 3) hP.lt hP.le)
  replace hP := hP.alloc (.cells #[.int .i64 (1 - bitM x)] 3)
  have c_bT := bT.cells
  replace hl := hl.extL ((Ext.refl _).alloc (.cells #[.int .i64 (1 - bitM x)] 3)) hPo.lt
  clear hPo
  clear a0 a1 a2 a3 a4 a5 a6 e0 e1 e2 e3 e4 e5 e6 f0 f1 f2 f3 f4 f5 f6 g0 g1 g2 g3 g4 g5 g6
  rw [show kesT 1 x = (1 - bitM x) from rfl] at hO
  replace hP := hP.drew
  replace hK := hK.drew
  replace bT := bT.drew
  replace hl := hl.extL (Ext.refl _).drew hP.lt
  have hS : ∀ w', RegsAt [2, 3, 4] w' p b rs → HeldP w' p w2.heap.size (.cells #[.int .i64 (1 - bitM x)] 3) → (w'.cell? ⟨b, k * 7 + 14 + 7, none⟩ = some (.int .i64 r1.kind) ∧ w'.cell? ⟨b, k * 7 + 14 + 7 + 1, none⟩ = some (.int .i64 r1.base) ∧ w'.cell? ⟨b, k * 7 + 14 + 7 + 2, none⟩ = some (.int .i64 r1.loc) ∧ w'.cell? ⟨b, k * 7 + 14 + 7 + 3, none⟩ = some (.int .i64 r1.n) ∧ w'.cell? ⟨b, k * 7 + 14 + 7 + 4, none⟩ = some (.int .i64 r1.wr) ∧ w'.cell? ⟨b, k * 7 + 14 + 7 + 5, none⟩ = some (.int .i64 r1.rd) ∧ w'.cell? ⟨b, k * 7 + 14 + 7 + 6, none⟩ = some (.int .i64 r1.top)) ∧ (∀ i, w'.cell? ⟨w2.heap.size, i, none⟩ = (#[.int .i64 (1 - bitM x)] : Array Value)[i]?) := fun w' h1 h2 => by
    obtain ⟨y0, y1, y2, y3, y4, y5, y6⟩ := (h1.node4 hi.out).2.2.2
    exact ⟨⟨y0, y1, y2, y3, y4, y5, y6⟩, h2.cells⟩
  go_region_held2 (fun w' => (w'.cell? ⟨b, k * 7 + 14 + 7, none⟩ = some (.int .i64 r1.kind) ∧ w'.cell? ⟨b, k * 7 + 14 + 7 + 1, none⟩ = some (.int .i64 r1.base) ∧ w'.cell? ⟨b, k * 7 + 14 + 7 + 2, none⟩ = some (.int .i64 r1.loc) ∧ w'.cell? ⟨b, k * 7 + 14 + 7 + 3, none⟩ = some (.int .i64 r1.n) ∧ w'.cell? ⟨b, k * 7 + 14 + 7 + 4, none⟩ = some (.int .i64 r1.wr) ∧ w'.cell? ⟨b, k * 7 + 14 + 7 + 5, none⟩ = some (.int .i64 r1.rd) ∧ w'.cell? ⟨b, k * 7 + 14 + 7 + 6, none⟩ = some (.int .i64 r1.top)) ∧ (∀ i, w'.cell? ⟨w2.heap.size, i, none⟩ = (#[.int .i64 (1 - bitM x)] : Array Value)[i]?)) (exact hS _ hl bT)
    (first
      | (go_at_call 42
         refine tstepL hO hK (reg_write_p B p S r1 me (1 - bitM x) _ hP hr1 ⟨hm0, by omega⟩) (fun _ h => ⟨rfl, h⟩) ?_
         clear hO hK hP
         intro u S w3 hlf _ hP hk hK hO
         replace hN := Nat.lt_of_le_of_lt hlf hN
         replace hl := hl.keep hk
         replace bT := bT.keep hk
         clear hk hlf))
  rename_i hh
  clear hh c_bT
  generalize htx : (1 - bitM x) = t at *
  go_wp2_with fail
  go_loopw [] (fun wr => ∃ (n : Nat) (S1 : TS), Plays B wr p S1 ∧ KeepP B p w wr ∧ HeldP wr p w2.heap.size (.cells #[.int .i64 t] 3) ∧ RegsAt [2, 3, 4] wr p b rs ∧ Hid (Owes R encU B p w ((kesSpin q0 r0 1 t me n).run S1)) ∧ S1.left < n) (fun wr => leftW 1 3 wr p)
  case atStart => exact ⟨N, S, hP, hK, bT, hl, hO, hN⟩
  case round =>
    clear hS hP hK bT hl hO hN
    obtain ⟨n, S1, hP, hK, bT, hl, hO, hN⟩ := hrel
    have hO := hO.out
    have hlw := Lib.hid hP.left
    cases n with
    | zero => omega
    | succ n =>
      unfold kesSpin at hO
      obtain ⟨⟨a0, a1, a2, a3, a4, a5, a6⟩, ⟨e0, e1, e2, e3, e4, e5, e6⟩, ⟨f0, f1, f2, f3, f4, f5, f6⟩, ⟨g0, g1, g2, g3, g4, g5, g6⟩⟩ := hl.node4 hi.out
      go_wp2_with fail
      refine tstepL hO hK (reg_read_p B p S1 q0 me _ hP hq0 ⟨hm0, by omega⟩) (fun _ h => ⟨rfl, h⟩) ?_
      clear hO hK hP
      intro v S2 w4 _ hlf hP hk hK hO
      replace hlf := hlf (asks_regR _ _ ht1)
      replace hl := hl.keep hk
      replace bT := bT.keep hk
      clear a0 a1 a2 a3 a4 a5 a6 e0 e1 e2 e3 e4 e5 e6 f0 f1 f2 f3 f4 f5 f6 g0 g1 g2 g3 g4 g5 g6 hk
      by_cases hv : v = 0
      · rw [if_pos hv] at hO
        subst hv
        have hf : R (.returned (encU ())) w4 := hO.done hP hK
        clear hO hP hK hl bT
        go_wp2_with fail
        first | exact hf | (refine bodyPost_ret (results_none rfl _ _ _) rfl ?_; exact hf)
      · rw [if_neg hv] at hO
        have hv2 : (v == 0) = false := by rw [beq_eq_false_iff_ne]; exact hv
        obtain ⟨⟨a0, a1, a2, a3, a4, a5, a6⟩, ⟨e0, e1, e2, e3, e4, e5, e6⟩, ⟨f0, f1, f2, f3, f4, f5, f6⟩, ⟨g0, g1, g2, g3, g4, g5, g6⟩⟩ := hl.node4 hi.out
        clear hv
        go_wp2_with fail
        refine tstepL hO hK (reg_read_p B p S2 r0 me _ hP hr0 ⟨hm0, by omega⟩) (fun _ h => ⟨rfl, h⟩) ?_
        clear hO hK hP
        intro y S3 w5 hlf2 _ hP hk hK hO
        replace hl := hl.keep hk
        replace bT := bT.keep hk
        clear a0 a1 a2 a3 a4 a5 a6 e0 e1 e2 e3 e4 e5 e6 f0 f1 f2 f3 f4 f5 f6 g0 g1 g2 g3 g4 g5 g6 hk
        have c_bT := bT.cells
        go_wp2_with fail
        refine (kbit_p y _).mono ?_
        rintro e w' ⟨rfl, rfl⟩
        go_wp2_with fail
        refine (kfree1_p (bitM y) t _ _ (c_bT 0)).mono ?_
        rintro e w' ⟨rfl, rfl⟩
        by_cases hy : kesFree 1 t y = true
        · rw [if_pos hy] at hO
          have hy2 : (bitM y == t) = true := by unfold kesFree at hy; simpa using hy
          have hf : R (.returned (encU ())) w5 := hO.done hP hK
          clear hO hP hK hl bT hy
          go_wp2_with fail
          first | exact hf | (refine bodyPost_ret (results_none rfl _ _ _) rfl ?_; exact hf)
        · rw [if_neg hy] at hO
          have hy2 : (bitM y == t) = false := by unfold kesFree at hy; simpa using hy
          obtain ⟨⟨a0, a1, a2, a3, a4, a5, a6⟩, ⟨e0, e1, e2, e3, e4, e5, e6⟩, ⟨f0, f1, f2, f3, f4, f5, f6⟩, ⟨g0, g1, g2, g3, g4, g5, g6⟩⟩ := hl.node4 hi.out
          clear hy c_bT
          go_wp2_with fail
          refine (cells_pm q0 me _ hq0 ht1 ⟨hm0, by omega⟩).mono ?_
          rintro e w6 ⟨cc, rfl, hcc, hx⟩
          replace hl := hl.extL hx hP.lt
          replace bT := bT.ext hx hP.lt
          replace hK := hK.trans (Keep.of_ext hx hP.lt hP.le)
          replace hP := hP.ext hx
          clear a0 a1 a2 a3 a4 a5 a6 e0 e1 e2 e3 e4 e5 e6 f0 f1 f2 f3 f4 f5 f6 g0 g1 g2 g3 g4 g5 g6 hx
          have hlw2 := Lib.hid hP.left
          have hOh := Lib.hid hO
          clear hO
          go_wp2_with fail
          refine ⟨⟨n, S3, hP, hK, bT, hl, hOh, by omega⟩, ?_⟩
          rw [hlw.out, hlw2.out]
          omega
theorem kesn_leave_p (B p : Nat) (S : TS) (q0 q1 r0 r1 : Reg) (side me : Int) (b c k : Nat) (rs : List Reg) (w : World) (h : Plays B w p S) (hl : RegsAt [2, 3, 4] w p b rs) (hi : rs[k]? = some q0 ∧ rs[k + 1]? = some q1 ∧ rs[k + 2]? = some r0 ∧ rs[k + 3]? = some r1) (hq0 : q0.ok) (hq1 : q1.ok)
    (hm0 : 0 ≤ me) (hm1 : me < q0.n) (hm2 : me < q1.n) :
    Calls Try.prog 190 #[.pointer (some ⟨p, 0, none⟩), .slice (some ⟨b, k * 7, none⟩) 4 c, .int .i64 side, .int .i64 me] w (Post encU B p w ((regW (if bitM side = 1 then q1 else q0) me 0).run S)) := by
  replace hi := Lib.hid hi
  have hb := kbit_p' side w
  obtain ⟨⟨a0, a1, a2, a3, a4, a5, a6⟩, ⟨e0, e1, e2, e3, e4, e5, e6⟩, -, -⟩ := hl.node4 hi.out
  have hs : bitM side = 0 ∨ bitM side = 1 := by unfold bitM; split <;> simp
  rcases hs with hs | hs
  · rw [hs] at hb ⊢
    rw [if_neg (by omega)]
    generalize hR : Post encU B p w ((regW q0 me 0).run S) = R
    have hO : Owes R encU B p w ((regW q0 me 0).run S) := hR ▸ owes _ _ _ _ _
    clear hR
    go_enter Try.func190, Try.ntmps190
    go_wp2_with fail
    refine hb.mono ?_
    rintro e w' ⟨rfl, rfl⟩
    go_wp2_with fail
    clear a0 a1 a2 a3 a4 a5 a6 e0 e1 e2 e3 e4 e5 e6 hl hb
    refine tlast hO (Keep.refl _ _ _ _) (reg_write_p B p S q0 me 0 _ h hq0 ⟨hm0, hm1⟩) (fun _ h => ⟨rfl, h⟩) ?_
    intro v S1 w1 hr hP1 hk1 hK1 hO1
    have hf := hO1.done hP1 hK1
    clear hO1 hP1 hK1 hr hk1 hO h
    go_wp2_with fail
    first | exact hf | (refine bodyPost_ret (results_none rfl _ _ _) rfl ?_; exact hf)
  · rw [hs] at hb ⊢
    rw [if_pos rfl]
    generalize hR : Post encU B p w ((regW q1 me 0).run S) = R
    have hO : Owes R encU B p w ((regW q1 me 0).run S) := hR ▸ owes _ _ _ _ _
    clear hR
    go_enter Try.func190, Try.ntmps190
    go_wp2_with fail
    refine hb.mono ?_
    rintro e w' ⟨rfl, rfl⟩
    go_wp2_with fail
    clear a0 a1 a2 a3 a4 a5 a6 e0 e1 e2 e3 e4 e5 e6 hl hb
    refine tlast hO (Keep.refl _ _ _ _) (reg_write_p B p S q1 me 0 _ h hq1 ⟨hm0, hm2⟩) (fun _ h => ⟨rfl, h⟩) ?_
    intro v S1 w1 hr hP1 hk1 hK1 hO1
    have hf := hO1.done hP1 hK1
    clear hO1 hP1 hK1 hr hk1 hO h
    go_wp2_with fail
    first | exact hf | (refine bodyPost_ret (results_none rfl _ _ _) rfl ?_; exact hf)
theorem kesn_enter_p (B p N : Nat) (S : TS) (q0 q1 r0 r1 : Reg) (side me : Int) (b c k : Nat) (rs : List Reg) (w : World) (h : Plays B w p S) (hl : RegsAt [2, 3, 4] w p b rs) (hi : rs[k]? = some q0 ∧ rs[k + 1]? = some q1 ∧ rs[k + 2]? = some r0 ∧ rs[k + 3]? = some r1) (hq0 : q0.ok) (hq1 : q1.ok) (hr0 : r0.ok) (hr1 : r1.ok)
    (hm0 : 0 ≤ me) (hm1 : me < q0.n) (hm2 : me < q1.n) (hm3 : me < r0.n) (hm4 : me < r1.n) (ht1 : q0.told me) (ht2 : q1.told me) (ht3 : r0.told me) (ht4 : r1.told me) (hN : S.left < N) (hc4 : 4 ≤ c) (hc5 : c ≤ 9223372036854775807) :
    Calls Try.prog 189 #[.pointer (some ⟨p, 0, none⟩), .slice (some ⟨b, k * 7, none⟩) 4 c, .int .i64 side, .int .i64 me] w (Post encU B p w ((kesM N q0 q1 r0 r1 side me).run S)) := by
  unfold kesM
  rcases bitM_or side with hs | hs
  · rw [if_neg (by omega)]
    exact kesn_enter_p0 B p N S q0 q1 r0 r1 side me b c k rs w h hl hi hq0 hq1 hr0 hr1 hm0 hm1 hm2 hm3 hm4 ht2 ht4 hN hs hc4 hc5
  · rw [if_pos hs]
    exact kesn_enter_p1 B p N S q0 q1 r0 r1 side me b c k rs w h hl hi hq0 hq1 hr0 hr1 hm0 hm1 hm2 hm3 hm4 ht1 ht3 hN hs hc4 hc5
end Go.Proofs.Ytbphlkaihfbgeaa
/-
  Peterson's lock of two sides at a node of a tree, by the document.
-/
namespace Go.Proofs.Ytbphlkaihfbgeaa
open Go.RowKit Kv
end Go.Proofs.Ytbphlkaihfbgeaa
/-
  The splitter: passing it, by the program.
-/
namespace Go.Proofs.Ytbphlkaihfbgeaa
open Go.RowKit Kv
theorem RegsAt.ext {ix : List Nat} {p b : Nat} {w w' : World} {l : List Reg} (h : RegsAt ix w p b l) (hx : Ext w w') (hp : p < w.heap.size) : RegsAt ix w' p b l := h.keep (B := 0) (Keep.of_ext hx hp (Nat.zero_le _))
theorem two_boxes {B p : Nat} {w : World} {S : TS} (h : Plays B w p S) (o1 o2 : Obj) :
    HeldP ((w.alloc o1).alloc o2).drew p w.heap.size o1 ∧ HeldP ((w.alloc o1).alloc o2).drew p (w.heap.size + 1) o2 ∧ Plays B ((w.alloc o1).alloc o2).drew p S ∧ KeepP B p w ((w.alloc o1).alloc o2).drew := by
  have h2 := (h.alloc o1).held o2
  rw [World.size_alloc] at h2
  exact ⟨((h.held o1).alloc o2 (h.alloc o1).lt).drew, h2.drew, ((h.alloc o1).alloc o2).drew, ((Keep.alloc o1 h.lt h.le).trans (Keep.alloc o2 (h.alloc o1).lt (h.alloc o1).le)).drew⟩
set_option maxRecDepth 100000 in
set_option maxHeartbeats 4000000 in
theorem pass_p (B p : Nat) (S : TS) (x y : Reg) (me : Int) (b c : Nat) (w : World) (h : Plays B w p S) (hl : RegsAt [2, 3, 4] w p b [x, y]) (hx : x.ok) (hy : y.ok) (hm : 0 ≤ me) (hmx : me < x.n) (hmy : me < y.n) :
    Calls Try.prog 24 #[.pointer (some ⟨p, 0, none⟩), .slice (some ⟨b, 0, none⟩) 2 c, .int .i64 me] w (Post encI B p w ((passM x y me).run S)) := by
  generalize hR : Post encI B p w ((passM x y me).run S) = R
  have hO : Owes R encI B p w ((passM x y me).run S) := hR ▸ owes _ _ _ _ _
  clear hR
  have hmw := IntWalk.i64_in (me + 1) (by have := hx.n; omega)
  obtain ⟨⟨c0, c1, c2, c3, c4, c5, c6⟩, ⟨c7, c8, c9, c10, c11, c12, c13⟩⟩ := hl.two
  have hn := hx.n
  have hK := Keep.refl [2, 3, 4] B p w
  have hP := h
  clear h
  unfold passM at hO
  go_enter Try.func24, Try.ntmps24
  go_wp2_with fail
  go_region_held2 (fun w' => (w'.cell? ⟨b, 0, none⟩ = some (.int .i64 x.kind) ∧ w'.cell? ⟨b, 1, none⟩ = some (.int .i64 x.base) ∧ w'.cell? ⟨b, 2, none⟩ = some (.int .i64 x.loc) ∧ w'.cell? ⟨b, 3, none⟩ = some (.int .i64 x.n) ∧ w'.cell? ⟨b, 4, none⟩ = some (.int .i64 x.wr) ∧ w'.cell? ⟨b, 5, none⟩ = some (.int .i64 x.rd) ∧ w'.cell? ⟨b, 6, none⟩ = some (.int .i64 x.top)) ∧
      (w'.cell? ⟨b, 7, none⟩ = some (.int .i64 y.kind) ∧ w'.cell? ⟨b, 8, none⟩ = some (.int .i64 y.base) ∧ w'.cell? ⟨b, 9, none⟩ = some (.int .i64 y.loc) ∧ w'.cell? ⟨b, 10, none⟩ = some (.int .i64 y.n) ∧ w'.cell? ⟨b, 11, none⟩ = some (.int .i64 y.wr) ∧ w'.cell? ⟨b, 12, none⟩ = some (.int .i64 y.rd) ∧ w'.cell? ⟨b, 13, none⟩ = some (.int .i64 y.top))) (first | with_reducible exact hl.two | go_keep) (fail)
  · rename_i hh
    clear hh
    obtain ⟨b1, b2, hP2, hK2⟩ := two_boxes hP (.cells #[.int .i64 x.kind, .int .i64 x.base, .int .i64 x.loc, .int .i64 x.n, .int .i64 x.wr, .int .i64 x.rd, .int .i64 x.top] 56) (.cells #[.int .i64 y.kind, .int .i64 y.base, .int .i64 y.loc, .int .i64 y.n, .int .i64 y.wr, .int .i64 y.rd, .int .i64 y.top] 56)
    clear hP hK hl
    have hP := hP2
    have hK := hK2
    clear hP2 hK2
    have c_b1 := b1.cells
    have c_b2 := b2.cells
    clear c0 c1 c2 c3 c4 c5 c6 c7 c8 c9 c10 c11 c12 c13
    go_wp2_with fail
    refine tstep hO hK (reg_write_p B p S x me (me + 1) _ hP hx ⟨hm, hmx⟩) (fun _ h => ⟨rfl, h⟩) ?_
    clear hO hK hP c_b1 c_b2
    intro u S w1 hr hP hk hK hO
    replace b1 := b1.keep hk
    have c_b1 := b1.cells
    replace b2 := b2.keep hk
    have c_b2 := b2.cells
    clear hk hr
    go_wp2_with fail
    refine tstep hO hK (reg_read_p B p S y me _ hP hy ⟨hm, hmy⟩) (fun _ h => ⟨rfl, h⟩) ?_
    clear hO hK hP c_b1 c_b2
    intro v S w1 hr hP hk hK hO
    replace b1 := b1.keep hk
    have c_b1 := b1.cells
    replace b2 := b2.keep hk
    have c_b2 := b2.cells
    clear hk hr
    by_cases hv : v = 0
    · rw [if_neg (by simpa using hv)] at hO
      have hv2 : (v != 0) = false := by simp [hv]
      clear hv
      go_wp2_with fail
      refine tstep hO hK (reg_write_p B p S y me 1 _ hP hy ⟨hm, hmy⟩) (fun _ h => ⟨rfl, h⟩) ?_
      clear hO hK hP c_b1 c_b2
      intro u S w1 hr hP hk hK hO
      replace b1 := b1.keep hk
      have c_b1 := b1.cells
      replace b2 := b2.keep hk
      have c_b2 := b2.cells
      clear hk hr
      go_wp2_with fail
      refine tstep hO hK (reg_read_p B p S x me _ hP hx ⟨hm, hmx⟩) (fun _ h => ⟨rfl, h⟩) ?_
      clear hO hK hP c_b1 c_b2
      intro z S w1 hr hP hk hK hO
      replace b1 := b1.keep hk
      have c_b1 := b1.cells
      replace b2 := b2.keep hk
      have c_b2 := b2.cells
      clear hk hr
      by_cases hz : z = me + 1
      · rw [if_pos hz] at hO
        have hz2 : (z == me + 1) = true := by simp [hz]
        clear hz
        have hf : R (.returned (.int .i64 0)) w1 := hO.done hP hK
        clear hO hP hK
        go_wp2_with fail
        exact hf
      · rw [if_neg hz] at hO
        have hz2 : (z == me + 1) = false := by rw [beq_eq_false_iff_ne]; exact hz
        clear hz
        have hf : R (.returned (.int .i64 2)) w1 := hO.done hP hK
        clear hO hP hK
        go_wp2_with fail
        exact hf
    · rw [if_pos hv] at hO
      have hv2 : (v != 0) = true := by rw [bne_iff_ne]; exact hv
      have hf : R (.returned (.int .i64 1)) w1 := hO.done hP hK
      clear hO hP hK hv
      go_wp2_with fail
      exact hf
  · rename_i hh
    clear hh
    obtain ⟨b2, b1, hP2, hK2⟩ := two_boxes hP (.cells #[.int .i64 y.kind, .int .i64 y.base, .int .i64 y.loc, .int .i64 y.n, .int .i64 y.wr, .int .i64 y.rd, .int .i64 y.top] 56) (.cells #[.int .i64 x.kind, .int .i64 x.base, .int .i64 x.loc, .int .i64 x.n, .int .i64 x.wr, .int .i64 x.rd, .int .i64 x.top] 56)
    clear hP hK hl
    have hP := hP2
    have hK := hK2
    clear hP2 hK2
    have c_b1 := b1.cells
    have c_b2 := b2.cells
    clear c0 c1 c2 c3 c4 c5 c6 c7 c8 c9 c10 c11 c12 c13
    go_wp2_with fail
    refine tstep hO hK (reg_write_p B p S x me (me + 1) _ hP hx ⟨hm, hmx⟩) (fun _ h => ⟨rfl, h⟩) ?_
    clear hO hK hP c_b1 c_b2
    intro u S w1 hr hP hk hK hO
    replace b1 := b1.keep hk
    have c_b1 := b1.cells
    replace b2 := b2.keep hk
    have c_b2 := b2.cells
    clear hk hr
    go_wp2_with fail
    refine tstep hO hK (reg_read_p B p S y me _ hP hy ⟨hm, hmy⟩) (fun _ h => ⟨rfl, h⟩) ?_
    clear hO hK hP c_b1 c_b2
    intro v S w1 hr hP hk hK hO
    replace b1 := b1.keep hk
    have c_b1 := b1.cells
    replace b2 := b2.keep hk
    have c_b2 := b2.cells
    clear hk hr
    by_cases hv : v = 0
    · rw [if_neg (by simpa using hv)] at hO
      have hv2 : (v != 0) = false := by simp [hv]
      clear hv
      go_wp2_with fail
      refine tstep hO hK (reg_write_p B p S y me 1 _ hP hy ⟨hm, hmy⟩) (fun _ h => ⟨rfl, h⟩) ?_
      clear hO hK hP c_b1 c_b2
      intro u S w1 hr hP hk hK hO
      replace b1 := b1.keep hk
      have c_b1 := b1.cells
      replace b2 := b2.keep hk
      have c_b2 := b2.cells
      clear hk hr
      go_wp2_with fail
      refine tstep hO hK (reg_read_p B p S x me _ hP hx ⟨hm, hmx⟩) (fun _ h => ⟨rfl, h⟩) ?_
      clear hO hK hP c_b1 c_b2
      intro z S w1 hr hP hk hK hO
      replace b1 := b1.keep hk
      have c_b1 := b1.cells
      replace b2 := b2.keep hk
      have c_b2 := b2.cells
      clear hk hr
      by_cases hz : z = me + 1
      · rw [if_pos hz] at hO
        have hz2 : (z == me + 1) = true := by simp [hz]
        clear hz
        have hf : R (.returned (.int .i64 0)) w1 := hO.done hP hK
        clear hO hP hK
        go_wp2_with fail
        exact hf
      · rw [if_neg hz] at hO
        have hz2 : (z == me + 1) = false := by rw [beq_eq_false_iff_ne]; exact hz
        clear hz
        have hf : R (.returned (.int .i64 2)) w1 := hO.done hP hK
        clear hO hP hK
        go_wp2_with fail
        exact hf
    · rw [if_pos hv] at hO
      have hv2 : (v != 0) = true := by rw [bne_iff_ne]; exact hv
      have hf : R (.returned (.int .i64 1)) w1 := hO.done hP hK
      clear hO hP hK hv
      go_wp2_with fail
      exact hf
end Go.Proofs.Ytbphlkaihfbgeaa
/-
  The splitter: what any thread does that passes it is the document's, access by access.
-/
namespace Go.Proofs.Ytbphlkaihfbgeaa
open Go.RowKit Kv
/-- Registers that lay there ahead of a play. -/
theorem regsP {w0 w1 : World} {B p b : Nat} {S : TS} {rs : List Reg} (hb : b < w0.heap.size) (hc : ∀ (i : Nat) u, (rs.flatMap regVals)[i]? = some u → w0.cell? ⟨b, i, none⟩ = some u) (hx : Ext w0 w1) (hP : Plays B w1 p S) (hB : w0.heap.size ≤ B) : RegsAt [2, 3, 4] w1 p b rs := by
  refine ⟨Nat.lt_of_lt_of_le hb hx.size, fun ho => ?_, fun j u hu => (hx.cell (p := ⟨b, j, none⟩) hb).trans (hc j u hu)⟩
  obtain ⟨_, _, _, _, _, _, h⟩ := hP
  have := (h.own ho).1
  omega
theorem alive31a (B p : Nat) (S : TS) (x y : Reg) (b c bl : Nat) (w : World) (h : Plays B w p S) (hl : RegsAt [2, 3, 4] w p b [x, y]) (hx : x.ok) (hy : y.ok) (hmx : 2 < x.n) (hmy : 2 < y.n)
    (c1 : w.cell? ⟨bl, 0, none⟩ = some (.slice (some ⟨b, 0, none⟩) 2 c)) :
    Calls Try.prog 72 #[.pointer (some ⟨p, 0, none⟩), .pointer (some ⟨bl, 0, none⟩)] w (Post encI B p w ((passM x y 2).run S)) := by
  generalize hR : Post encI B p w ((passM x y 2).run S) = R
  have hO : Owes R encI B p w ((passM x y 2).run S) := hR ▸ owes _ _ _ _ _
  clear hR
  have hK := Keep.refl [2, 3, 4] B p w
  go_enter Try.func72, Try.ntmps72
  go_wp2_with fail
  clear c1
  refine tlast hO hK (pass_p B p S x y 2 b c w h hl hx hy (by omega) hmx hmy) (fun _ h => ⟨rfl, h⟩) ?_
  intro v S1 w1 hr hP1 hk1 hK1 hO1
  have hf := hO1.done hP1 hK1
  clear hO1 hP1 hK1 hr hk1 hO h hl hK
  go_wp2_with fail
  exact hf
theorem alive31b (B p : Nat) (S : TS) (x y : Reg) (b c bl : Nat) (w : World) (h : Plays B w p S) (hl : RegsAt [2, 3, 4] w p b [x, y]) (hx : x.ok) (hy : y.ok) (hmx : 0 < x.n) (hmy : 0 < y.n)
    (c1 : w.cell? ⟨bl, 0, none⟩ = some (.slice (some ⟨b, 0, none⟩) 2 c)) :
    Calls Try.prog 73 #[.pointer (some ⟨p, 0, none⟩), .pointer (some ⟨bl, 0, none⟩)] w (Post encI B p w ((passM x y 0).run S)) := by
  generalize hR : Post encI B p w ((passM x y 0).run S) = R
  have hO : Owes R encI B p w ((passM x y 0).run S) := hR ▸ owes _ _ _ _ _
  clear hR
  have hK := Keep.refl [2, 3, 4] B p w
  go_enter Try.func73, Try.ntmps73
  go_wp2_with fail
  clear c1
  refine tlast hO hK (pass_p B p S x y 0 b c w h hl hx hy (by omega) hmx hmy) (fun _ h => ⟨rfl, h⟩) ?_
  intro v S1 w1 hr hP1 hk1 hK1 hO1
  have hf := hO1.done hP1 hK1
  clear hO1 hP1 hK1 hr hk1 hO h hl hK
  go_wp2_with fail
  exact hf
theorem ints_new (w : World) (l : List Int) (h : l.length ≤ 9223372036854775807) : Ints (w.alloc (.cells (l.map (Value.int .i64)).toArray 3)) (.slice (some ⟨w.heap.size, 0, none⟩) l.length l.length) l := by
  refine ⟨_, _, rfl, Nat.le_refl _, h, fun _ => ⟨w.heap.size, 0, rfl, by simp, fun i x hi => ?_⟩⟩
  have hh := World.alloc_heap_new w (.cells (l.map (Value.int .i64)).toArray 3)
  simp only [World.cell?, hh, Nat.zero_add]
  simp [hi]
/-- An Out's parts. -/
theorem Outs.parts {w : World} {v : Value} {d : Bool} {S : TS} (h : Outs w v d S) : ∃ A c A' c' As k n, v = .agg #[.bool d, .slice A S.acc.length c, .slice A' S.nts.length c', .slice As n k] := by
  obtain ⟨A, c, A', c', vs, L, rfl, hO⟩ := h
  obtain ⟨As, k, rfl, _, _⟩ := hO.locs.slice
  exact ⟨A, c, A', c', As, k, _, rfl⟩
def ra : Reg := ⟨1, 3, 2, 3, -1, -1, 3⟩
def rb : Reg := ⟨1, 4, 2, 3, -1, -1, 1⟩
set_option maxRecDepth 100000 in
theorem alive31 (w : World) : Calls Try.prog 20 #[] w fun e w' => e = .returned (.bool true) ∧ Ext w w' := by
  have hlay : layM [⟨-1, nM 3⟩, ⟨-1, 1⟩] 3 1 3 2 = some [ra, rb] := by rfl
  have hra : ra.ok := ⟨.inl rfl, by decide, by decide, by decide, fun h => by cases h⟩
  have hrb : rb.ok := ⟨.inl rfl, by decide, by decide, by decide, fun h => by cases h⟩
  have hmf : ∀ (fn : Fn) (first cap : Array Value) (w : World), (Instr.makeFunc fn first cap).run Try.prog w = .ok (.func fn first cap) w := fun _ _ _ _ => rfl
  go_enter Try.func20, Try.ntmps20
  go_wp2_with fail
  refine (swants_p 3 w).mono ?_
  rintro e w1 ⟨v1, rfl, hW, hX⟩
  have hSm := some_r v1 _ 3 1 w1 hW (by simp)
  rw [hlay] at hSm
  obtain ⟨Aw, cw, rfl, _, _, _⟩ := hW
  clear hlay
  go_wp2_with fail
  refine hSm.mono ?_
  rintro e w2 ⟨v2, rfl, hx2, hrow⟩
  replace hX := hX.trans hx2
  obtain ⟨Ar, cr, rfl, r1, r2, hV⟩ := Recs.of_row hrow
  clear hSm hrow hx2
  obtain ⟨b, rfl, hb, hc⟩ := hV (by simp [regVals])
  simp only [Option.getD_some, List.length_cons, List.length_nil] at *
  go_wp2_with fail
  have g1 := Blk.new w2 (.cells #[.slice (some ⟨b, 0, none⟩) 2 cr] 44)
  have x1 := (Ext.refl w2).alloc (.cells #[.slice (some ⟨b, 0, none⟩) 2 cr] 44)
  have hA := ints_new (w2.alloc (.cells #[.slice (some ⟨b, 0, none⟩) 2 cr] 44)) [0, 0, 0, 3] (by simp)
  replace g1 := g1.alloc (.cells (([0, 0, 0, 3] : List Int).map (Value.int .i64)).toArray 3)
  replace x1 := x1.alloc (.cells (([0, 0, 0, 3] : List Int).map (Value.int .i64)).toArray 3)
  simp only [World.size_alloc, List.map_cons, List.map_nil, List.length_cons, List.length_nil] at hA g1 x1
  have hsz : w2.heap.size + 1 < (World.alloc (World.alloc w2 (.cells #[.slice (some ⟨b, 0, none⟩) 2 cr] 44)) (.cells #[.int .i64 0, .int .i64 0, .int .i64 0, .int .i64 3] 3)).heap.size := by simp
  generalize World.alloc (World.alloc w2 _) _ = W0 at *
  refine (play_int 72 #[.pointer (some ⟨w2.heap.size, 0, none⟩)] (passM ra rb 2) none 0 [] (some ⟨w2.heap.size + 1, 0, none⟩) 4 [0, 0, 0, 3] W0 (Ints.nil _) (by simp) hA (by decide) (fun k hk => by simp only [Value.ownBlock, Option.some.injEq] at hk; omega) (fun _ _ => rfl) (fun W p hxW hP => ?_)).mono ?_
  · exact alive31a _ p _ ra rb b cr w2.heap.size W hP (regsP hb hc (x1.trans hxW) hP (x1.trans (Ext.refl _)).size) hra hrb (by decide) (by decide) ((g1.ext hxW).cells 0)
  rintro e w3 ⟨v3, rfl, hO, hx3⟩
  have e1 : ((passM ra rb 2).run (TS0 [] [0, 0, 0, 3])).1 = some 0 := by rfl
  have e2 : ((passM ra rb 2).run (TS0 [] [0, 0, 0, 3])).2.acc.length = 4 := by rfl
  rw [e1] at hO ⊢
  generalize ((passM ra rb 2).run (TS0 [] [0, 0, 0, 3])).2 = S1 at *
  obtain ⟨A1, c1, A1', c1', As1, k1, n1, rfl⟩ := hO.parts
  rw [e2] at *
  simp only [Option.getD_some, Option.isSome_some]
  replace g1 := g1.ext hx3
  replace x1 := x1.trans hx3
  clear e1 e2 hO hA hsz hx3 hmf
  have hmf : ∀ (fn : Fn) (first cap : Array Value) (w : World), (Instr.makeFunc fn first cap).run Try.prog w = .ok (.func fn first cap) w := fun _ _ _ _ => rfl
  go_wp2_with fail
  have g2 := Blk.new w3 (.cells #[.bool true, .slice A1 4 c1, .slice A1' S1.nts.length c1', .slice As1 n1 k1] 30)
  have hA := ints_new (w3.alloc (.cells #[.bool true, .slice A1 4 c1, .slice A1' S1.nts.length c1', .slice As1 n1 k1] 30)) [0, 1] (by simp)
  replace g1 := (g1.alloc (.cells #[.bool true, .slice A1 4 c1, .slice A1' S1.nts.length c1', .slice As1 n1 k1] 30)).alloc (.cells (([0, 1] : List Int).map (Value.int .i64)).toArray 3)
  replace g2 := g2.alloc (.cells (([0, 1] : List Int).map (Value.int .i64)).toArray 3)
  replace x1 := (x1.alloc (.cells #[.bool true, .slice A1 4 c1, .slice A1' S1.nts.length c1', .slice As1 n1 k1] 30)).alloc (.cells (([0, 1] : List Int).map (Value.int .i64)).toArray 3)
  simp only [World.size_alloc, List.map_cons, List.map_nil, List.length_cons, List.length_nil] at hA g1 g2 x1
  have hsz : w3.heap.size + 1 < (World.alloc (World.alloc w3 (.cells #[.bool true, .slice A1 4 c1, .slice A1' S1.nts.length c1', .slice As1 n1 k1] 30)) (.cells #[.int .i64 0, .int .i64 1] 3)).heap.size := by simp
  generalize World.alloc (World.alloc w3 _) _ = W0 at *
  refine (play_int 73 #[.pointer (some ⟨w2.heap.size, 0, none⟩)] (passM ra rb 0) none 0 [] (some ⟨w3.heap.size + 1, 0, none⟩) 2 [0, 1] W0 (Ints.nil _) (by simp) hA (by decide) (fun k hk => by simp only [Value.ownBlock, Option.some.injEq] at hk; omega) (fun _ _ => rfl) (fun W p hxW hP => ?_)).mono ?_
  · exact alive31b _ p _ ra rb b cr w2.heap.size W hP (regsP hb hc (x1.trans hxW) hP x1.size) hra hrb (by decide) (by decide) ((g1.ext hxW).cells 0)
  rintro e w4 ⟨v4, rfl, hO, hx4⟩
  have e1 : ((passM ra rb 0).run (TS0 [] [0, 1])).1 = some 1 := by rfl
  have e2 : ((passM ra rb 0).run (TS0 [] [0, 1])).2.acc.length = 2 := by rfl
  rw [e1] at hO ⊢
  generalize ((passM ra rb 0).run (TS0 [] [0, 1])).2 = S2 at *
  obtain ⟨A2, c2, A2', c2', As2, k2, n2, rfl⟩ := hO.parts
  rw [e2] at *
  simp only [Option.getD_some, Option.isSome_some]
  replace g2 := g2.ext hx4
  replace x1 := x1.trans hx4
  clear e1 e2 hO hA hsz hx4 hmf g1
  have c_g2 := g2.cells
  have hfin := Lib.hid (hX.trans (x1.alloc (.cells #[.bool true, .slice A2 2 c2, .slice A2' S2.nts.length c2', .slice As2 n2 k2] 30)))
  have c_g3 := (g2.alloc (.cells #[.bool true, .slice A2 2 c2, .slice A2' S2.nts.length c2', .slice As2 n2 k2] 30)).cells
  go_wp2_with fail
  go_ret
  exact ⟨rfl, hfin.out⟩
end Go.Proofs.Ytbphlkaihfbgeaa
/-
  Kessels: what the law plays.
-/
namespace Go.Proofs.Ytbphlkaihfbgeaa
open Go.RowKit Kv
theorem kwants_p (w : World) : Calls Try.prog 188 #[] w fun e w' => ∃ v, e = .returned v ∧ WantsAt w' v (List.replicate 4 ⟨-1, 1⟩) ∧ Ext w w' := by
  go_enter Try.func188, Try.ntmps188
  go_wp2_with fail
  go_loopw [1, 2] (fun v i wr => ∃ j : Nat, i = .int .i64 j ∧ j ≤ 4 ∧ wr.ownsRow w.heap.size 91 2 v j ((List.replicate j (⟨-1, 1⟩ : Want)).flatMap wantVals) ∧ Ext w wr) (fun _ i _ => 4 - (intOf i).toNat)
  case atStart => exact ⟨0, rfl, by omega, World.ownsRow_nil _ _ _ _, Ext.refl _⟩
  case round =>
    obtain ⟨j, rfl, hj, hown, hE⟩ := hrel
    by_cases hl : j < 4
    · go_wp2_with (at_builtin; refine append_rec info_want Try.underlying46 rfl (by decide) (by decide) rfl _ _ rfl _ j _ [.int .i64 (-1), .int .i64 1] hE hown rfl rfl rfl (by simp [Value.oneCell']) (by omega) ?_)
      intro v' w' ho hx _
      have hoh := Lib.hid ho
      clear hown ho
      go_wp2_with fail
      refine ⟨⟨j + 1, by go_num, by omega, ?_, hx⟩, ?_⟩
      · rw [List.replicate_succ', List.flatMap_append]; exact hoh.out
      · simp [intOf]; omega
    · obtain rfl : j = 4 := by omega
      have hownh := Lib.hid hown
      clear hown
      go_wp2_with fail
      go_ret
      exact ⟨_, rfl, Recs.of_row hownh.out, hE⟩
end Go.Proofs.Ytbphlkaihfbgeaa
/-
  Trees of locks of two sides: plain mathematics, and the program's pure parts.
-/
namespace Kv
/-- The nodes above a place, the lowest first. -/
def pathN : Nat → Nat → List Int
  | 0, _ => []
  | f + 1, x => if x ≤ 1 then [] else (x : Int) :: pathN f (x / 2)
theorem pathN_fuel : ∀ (f g x : Nat), x ≤ f → x ≤ g → pathN f x = pathN g x
  | 0, 0, x, _, _ => rfl
  | 0, g + 1, x, h, _ => by unfold pathN; rw [if_pos (by omega)]
  | f + 1, 0, x, _, h => by unfold pathN; rw [if_pos (by omega)]
  | f + 1, g + 1, x, h1, h2 => by
    unfold pathN
    split
    · rfl
    · rw [pathN_fuel f g (x / 2) (by omega) (by omega)]
theorem pathN_cons {x : Nat} (h : 1 < x) : pathN x x = (x : Int) :: pathN (x / 2) (x / 2) := by
  obtain ⟨y, rfl⟩ : ∃ y, x = y + 1 := ⟨x - 1, by omega⟩
  rw [show pathN (y + 1) (y + 1) = (if y + 1 ≤ 1 then [] else ((y + 1 : Nat) : Int) :: pathN y ((y + 1) / 2)) from rfl, if_neg (by omega), pathN_fuel y ((y + 1) / 2) _ (by omega) (by omega)]
theorem pathN_nil {x : Nat} (h : x ≤ 1) : pathN x x = [] := by
  cases x with
  | zero => rfl
  | succ x => rw [show pathN (x + 1) (x + 1) = (if x + 1 ≤ 1 then [] else ((x + 1 : Nat) : Int) :: pathN x ((x + 1) / 2)) from rfl, if_pos h]
theorem pathN_len : ∀ (f x : Nat), (pathN f x).length ≤ f
  | 0, _ => by simp [pathN]
  | f + 1, x => by
    unfold pathN
    split
    · simp
    · have := pathN_len f (x / 2)
      simp; omega
/-- The nodes above a place of a tree of so many places. -/
def pathL (m place : Nat) : List Int := pathN (2 ^ levels m + place) (2 ^ levels m + place)
theorem lev_le {m : Nat} (h : m ≤ 64) : levels m ≤ 6 := by
  have : ∀ m : Nat, m < 65 → levels m ≤ 6 := by decide +kernel
  exact this m (by omega)
theorem pow_le {k : Nat} (h : k ≤ 6) : 1 ≤ 2 ^ k ∧ 2 ^ k ≤ 64 := by
  have : ∀ k : Nat, k < 7 → 1 ≤ 2 ^ k ∧ 2 ^ k ≤ 64 := by decide
  exact this k (by omega)
end Kv
namespace Go.Proofs.Ytbphlkaihfbgeaa
open Go.RowKit Kv
set_option maxRecDepth 100000 in
set_option maxHeartbeats 1000000 in
theorem path_p (m place : Nat) (w : World) (h1 : 1 ≤ m) (h2 : m ≤ 64) (h3 : place < m) :
    Calls Try.prog 18 #[.int .i64 m, .int .i64 place] w fun e w' => ∃ v, e = .returned v ∧ IntRow w' w.heap.size v (pathL m place) ∧ Ext w w' := by
  have hlv := fun w => levels_p m (by omega) w
  have hle := lev_le h2
  unfold pathL
  generalize levels m = L at *
  obtain ⟨p1, p2⟩ := pow_le hle
  have hPi : (2 : Int) ^ L = ((2 ^ L : Nat) : Int) := by rw [Int.natCast_pow]; rfl
  generalize 2 ^ L = P at *
  have hsh : Op.shift .shl .i64 1 .i64 (L : Int) = pure (.int .i64 (P : Int)) := by
    rw [Go.shift_shl_i64 (x := 1) (y := (L : Int)) (yk := .i64) (by omega) (by omega), Int.one_mul, Int.toNat_natCast, hPi, IntWalk.i64_in _ (by omega)]
  clear hPi hle
  have d1 : decide ((m : Int) < 1) = false := by rw [decide_eq_false_iff_not]; omega
  have d2 : decide ((64 : Int) < (m : Int)) = false := by rw [decide_eq_false_iff_not]; omega
  have d3 : decide ((place : Int) < 0) = false := by rw [decide_eq_false_iff_not]; omega
  have d4 : decide (m ≤ place) = false := by rw [decide_eq_false_iff_not]; omega
  obtain ⟨X, hX⟩ : ∃ X : Nat, P + place = X := ⟨_, rfl⟩
  rw [hX]
  have hw : IntKind.i64.wrap ((P : Int) + (place : Int)) = (X : Int) := by rw [IntWalk.i64_in _ (by omega)]; omega
  go_enter Try.func18, Try.ntmps18
  go_wp2_with fail
  refine (hlv _).mono ?_
  rintro e w' ⟨rfl, rfl⟩
  go_wp2_with fail
  go_loopw [5, 6] (fun v i wr => ∃ (x : Nat) (l : List Int), i = .int .i64 x ∧ x ≤ 128 ∧ l.length + x ≤ X ∧ IntRow wr w.heap.size v l ∧ Hid (l ++ pathN x x = pathN X X) ∧ Ext w wr) (fun _ i _ => (intOf i).toNat)
  case atStart => exact ⟨X, [], rfl, by omega, by simp, IntRow.nil _ _, Lib.hid rfl, Ext.refl w⟩
  case round =>
    obtain ⟨x, l, rfl, hx, hln, hown, hpath, hE⟩ := hrel
    by_cases hx1 : 1 < x
    · have e1 : decide ((1 : Int) < (x : Int)) = true := by rw [decide_eq_true_eq]; omega
      go_wp2_with (at_builtin; refine append_int rfl _ _ rfl w.heap.size _ l x hown rfl rfl (by omega) hE.size ?_)
      intro v' w' ho hg
      have hx' := hE.appended hown hg
      have hoh := Lib.hid ho
      have hp2 : Hid ((l ++ [(x : Int)]) ++ pathN (x / 2) (x / 2) = pathN X X) := Lib.hid (by rw [← hpath.out, pathN_cons hx1, List.append_assoc]; rfl)
      clear hown ho hg hpath hE
      go_wp2_with fail
      refine ⟨⟨x / 2, l ++ [(x : Int)], by go_num, by omega, by simp; omega, hoh.out, hp2, hx'⟩, ?_⟩
      simp [intOf]; omega
    · have e1 : decide ((1 : Int) < (x : Int)) = false := by rw [decide_eq_false_iff_not]; omega
      have hp := hpath.out
      rw [pathN_nil (by omega), List.append_nil] at hp
      have hf := Lib.hid hown
      subst hp
      clear hown hpath
      go_wp2_with fail
      go_ret
      exact ⟨_, rfl, hf.out, hE⟩
end Go.Proofs.Ytbphlkaihfbgeaa
/-
  Trees of locks of two sides: nodes, wants and registers, by the program.
-/
namespace Go.Proofs.Ytbphlkaihfbgeaa
open Go.RowKit Kv
def fnV (n : Nat) : Value := .func (.func n) #[] #[]
/-- How many registers a node of a kind of tree has. -/
def eachK (kind : Int) : Nat := if kind = 7 then 4 else 3
def nodeV (kind : Int) : Value := if kind = 7 then .agg #[fnV 188, fnV 189, fnV 190] else .agg #[fnV 191, fnV 192, fnV 193]
set_option maxRecDepth 100000 in
theorem nodeOf_p (kind : Int) (w : World) : Calls Try.prog 140 #[.int .i64 kind] w fun e w' => e = .returned (nodeV kind) ∧ Ext w w' := by
  unfold nodeV
  by_cases h : kind = 7
  · have d : (kind == 7) = true := by simpa using h
    rw [if_pos h]
    clear h
    go_enter Try.func140, Try.ntmps140
    go_wp2_with fail
    refine bodyPost_ret (v := .agg #[fnV 188, fnV 189, fnV 190]) (by simp [results, Try.results140, go_sem, fnV]) rfl ?_
    exact ⟨rfl, (Ext.refl w).alloc _⟩
  · have d : (kind == 7) = false := by simpa using h
    rw [if_neg h]
    clear h
    go_enter Try.func140, Try.ntmps140
    go_wp2_with fail
    refine bodyPost_ret (v := .agg #[fnV 191, fnV 192, fnV 193]) (by simp [results, Try.results140, go_sem, fnV]) rfl ?_
    exact ⟨rfl, (Ext.refl w).alloc _⟩
theorem wants_node (kind : Int) (w : World) : ∃ n, ((kind = 7 ∧ n = 188) ∨ (kind ≠ 7 ∧ n = 191)) ∧ Calls Try.prog n #[] w fun e w' => ∃ v, e = .returned v ∧ WantsAt w' v (List.replicate (eachK kind) ⟨-1, 1⟩) ∧ Ext w w' := by
  unfold eachK
  by_cases h : kind = 7
  · rw [if_pos h]
    exact ⟨_, .inl ⟨h, rfl⟩, kwants_p w⟩
  · rw [if_neg h]
    exact ⟨_, .inr ⟨h, rfl⟩, awants_p w⟩
end Go.Proofs.Ytbphlkaihfbgeaa
/-
  Trees of locks of two sides: wants and registers, by the program.
-/
namespace Go.Proofs.Ytbphlkaihfbgeaa
open Go.RowKit Kv
set_option maxRecDepth 100000 in
set_option maxHeartbeats 1000000 in
theorem twants_p7 (kind : Int) (m : Nat) (w : World) (h1 : 1 ≤ m) (h2 : m ≤ 64) (hk : kind = 7) :
    Calls Try.prog 71 #[.int .i64 kind, .int .i64 m] w fun e w' => ∃ v, e = .returned v ∧ WantsAt w' v (List.replicate (4 * (2 ^ levels m - 1)) ⟨-1, 1⟩) ∧ Ext w w' := by
  have hlv := fun w => levels_p m (by omega) w
  have hle := lev_le h2
  generalize levels m = L at *
  obtain ⟨p1, p2⟩ := pow_le hle
  have hPi : (2 : Int) ^ L = ((2 ^ L : Nat) : Int) := by rw [Int.natCast_pow]; rfl
  generalize 2 ^ L = P at *
  have hsh : Op.shift .shl .i64 1 .i64 (L : Int) = pure (.int .i64 (P : Int)) := by
    rw [Go.shift_shl_i64 (x := 1) (y := (L : Int)) (yk := .i64) (by omega) (by omega), Int.one_mul, Int.toNat_natCast, hPi, IntWalk.i64_in _ (by omega)]
  clear hPi hle
  obtain ⟨M, rfl⟩ : ∃ M, P = M + 1 := ⟨P - 1, by omega⟩
  have hw : IntKind.i64.wrap (((M + 1 : Nat) : Int) - 1) = (M : Int) := by rw [IntWalk.i64_in _ (by omega)]; omega
  rw [Nat.add_sub_cancel]
  generalize hQ : M + 1 = Q at *
  have hM : M ≤ 63 := by omega
  have d1 : decide ((m : Int) < 1) = false := by rw [decide_eq_false_iff_not]; omega
  have d2 : decide ((64 : Int) < (m : Int)) = false := by rw [decide_eq_false_iff_not]; omega
  have hn : nodeV kind = .agg #[.func (.func 188) #[] #[], .func (.func 189) #[] #[], .func (.func 190) #[] #[]] := by unfold nodeV; rw [if_pos hk]; rfl
  have hN := fun w => nodeOf_p kind w
  rw [hn] at hN
  have hfd : ∀ w, (Instr.field 126 (.agg #[.func (.func 188) #[] #[], .func (.func 189) #[] #[], .func (.func 190) #[] #[]]) 0).run Try.prog w = .ok (.func (.func 188) #[] #[]) w := fun w => by kernel_rfl
  clear hn hk
  go_enter Try.func71, Try.ntmps71
  go_wp2_with fail
  refine (hlv _).mono ?_
  rintro e w' ⟨rfl, rfl⟩
  clear hlv
  go_wp2_with fail
  go_loopw [5, 16] (fun v i wr => ∃ j : Nat, i = .int .i64 j ∧ j ≤ M ∧ wr.ownsRow w.heap.size 91 2 v (4 * j) ((List.replicate (4 * j) (⟨-1, 1⟩ : Want)).flatMap wantVals) ∧ Ext w wr) (fun _ i _ => M - (intOf i).toNat)
  case atStart => exact ⟨0, rfl, by omega, World.ownsRow_nil _ _ _ _, Ext.refl _⟩
  case round =>
    obtain ⟨j, rfl, hj, hown, hX⟩ := hrel
    by_cases hl : j < M
    · go_wp2_with fail
      refine (hN _).mono ?_
      rintro e w2 ⟨rfl, hx2⟩
      replace hown := row_ext hown hx2
      replace hX := hX.trans hx2
      clear hx2
      go_wp2_with fail
      refine (kwants_p _).mono ?_
      rintro e w3 ⟨v2, rfl, hr2, hx3⟩
      replace hown := row_ext hown hx3
      replace hX := hX.trans hx3
      obtain ⟨A, c, rfl, r1, r2, hV⟩ := hr2
      obtain ⟨b, rfl, hb, hc⟩ := hV (by simp [wantVals, List.replicate])
      rw [List.length_replicate] at *
      clear hV hx3
      go_wp2_with (at_builtin; refine append_recs info_want Try.underlying46 rfl (by decide) (by decide) rfl _ _ rfl _ (4 * j) _ ((List.replicate 4 (⟨-1, 1⟩ : Want)).flatMap wantVals) ⟨b, 0, none⟩ 4 c hX hown rfl rfl rfl (fun i u hu => by rw [Addr.add_lit, Nat.zero_add]; exact hc i u hu) (fun u hu => by simp [List.replicate, wantVals] at hu; rcases hu with rfl | rfl | rfl | rfl | rfl | rfl | rfl | rfl <;> rfl) (by omega) (by omega) ?_)
      intro v' w' ho hx'
      have hoh : Hid (w'.ownsRow w.heap.size 91 2 v' (4 * (j + 1)) ((List.replicate (4 * (j + 1)) (⟨-1, 1⟩ : Want)).flatMap wantVals)) := Lib.hid (by
        rw [Nat.mul_succ, ← List.replicate_append_replicate, List.flatMap_append]; exact ho)
      clear hown ho hc
      go_wp2_with fail
      refine ⟨⟨j + 1, by go_num, by omega, hoh.out, hx'⟩, ?_⟩
      simp [intOf]; omega
    · obtain rfl : j = M := by omega
      have hownh := Lib.hid hown
      clear hown
      go_wp2_with fail
      go_ret
      exact ⟨_, rfl, by have := Recs.of_row hownh.out; unfold WantsAt; rw [List.length_replicate]; exact this, hX⟩
set_option maxRecDepth 100000 in
set_option maxHeartbeats 1000000 in
theorem twants_p3 (kind : Int) (m : Nat) (w : World) (h1 : 1 ≤ m) (h2 : m ≤ 64) (hk : kind ≠ 7) :
    Calls Try.prog 71 #[.int .i64 kind, .int .i64 m] w fun e w' => ∃ v, e = .returned v ∧ WantsAt w' v (List.replicate (3 * (2 ^ levels m - 1)) ⟨-1, 1⟩) ∧ Ext w w' := by
  have hlv := fun w => levels_p m (by omega) w
  have hle := lev_le h2
  generalize levels m = L at *
  obtain ⟨p1, p2⟩ := pow_le hle
  have hPi : (2 : Int) ^ L = ((2 ^ L : Nat) : Int) := by rw [Int.natCast_pow]; rfl
  generalize 2 ^ L = P at *
  have hsh : Op.shift .shl .i64 1 .i64 (L : Int) = pure (.int .i64 (P : Int)) := by
    rw [Go.shift_shl_i64 (x := 1) (y := (L : Int)) (yk := .i64) (by omega) (by omega), Int.one_mul, Int.toNat_natCast, hPi, IntWalk.i64_in _ (by omega)]
  clear hPi hle
  obtain ⟨M, rfl⟩ : ∃ M, P = M + 1 := ⟨P - 1, by omega⟩
  have hw : IntKind.i64.wrap (((M + 1 : Nat) : Int) - 1) = (M : Int) := by rw [IntWalk.i64_in _ (by omega)]; omega
  rw [Nat.add_sub_cancel]
  generalize hQ : M + 1 = Q at *
  have hM : M ≤ 63 := by omega
  have d1 : decide ((m : Int) < 1) = false := by rw [decide_eq_false_iff_not]; omega
  have d2 : decide ((64 : Int) < (m : Int)) = false := by rw [decide_eq_false_iff_not]; omega
  have hn : nodeV kind = .agg #[.func (.func 191) #[] #[], .func (.func 192) #[] #[], .func (.func 193) #[] #[]] := by unfold nodeV; rw [if_neg hk]; rfl
  have hN := fun w => nodeOf_p kind w
  rw [hn] at hN
  have hfd : ∀ w, (Instr.field 126 (.agg #[.func (.func 191) #[] #[], .func (.func 192) #[] #[], .func (.func 193) #[] #[]]) 0).run Try.prog w = .ok (.func (.func 191) #[] #[]) w := fun w => by kernel_rfl
  clear hn hk
  go_enter Try.func71, Try.ntmps71
  go_wp2_with fail
  refine (hlv _).mono ?_
  rintro e w' ⟨rfl, rfl⟩
  clear hlv
  go_wp2_with fail
  go_loopw [5, 16] (fun v i wr => ∃ j : Nat, i = .int .i64 j ∧ j ≤ M ∧ wr.ownsRow w.heap.size 91 2 v (3 * j) ((List.replicate (3 * j) (⟨-1, 1⟩ : Want)).flatMap wantVals) ∧ Ext w wr) (fun _ i _ => M - (intOf i).toNat)
  case atStart => exact ⟨0, rfl, by omega, World.ownsRow_nil _ _ _ _, Ext.refl _⟩
  case round =>
    obtain ⟨j, rfl, hj, hown, hX⟩ := hrel
    by_cases hl : j < M
    · go_wp2_with fail
      refine (hN _).mono ?_
      rintro e w2 ⟨rfl, hx2⟩
      replace hown := row_ext hown hx2
      replace hX := hX.trans hx2
      clear hx2
      go_wp2_with fail
      refine (awants_p _).mono ?_
      rintro e w3 ⟨v2, rfl, hr2, hx3⟩
      replace hown := row_ext hown hx3
      replace hX := hX.trans hx3
      obtain ⟨A, c, rfl, r1, r2, hV⟩ := hr2
      obtain ⟨b, rfl, hb, hc⟩ := hV (by simp [wantVals, List.replicate])
      rw [List.length_replicate] at *
      clear hV hx3
      go_wp2_with (at_builtin; refine append_recs info_want Try.underlying46 rfl (by decide) (by decide) rfl _ _ rfl _ (3 * j) _ ((List.replicate 3 (⟨-1, 1⟩ : Want)).flatMap wantVals) ⟨b, 0, none⟩ 3 c hX hown rfl rfl rfl (fun i u hu => by rw [Addr.add_lit, Nat.zero_add]; exact hc i u hu) (fun u hu => by simp [List.replicate, wantVals] at hu; rcases hu with rfl | rfl | rfl | rfl | rfl | rfl | rfl | rfl <;> rfl) (by omega) (by omega) ?_)
      intro v' w' ho hx'
      have hoh : Hid (w'.ownsRow w.heap.size 91 2 v' (3 * (j + 1)) ((List.replicate (3 * (j + 1)) (⟨-1, 1⟩ : Want)).flatMap wantVals)) := Lib.hid (by
        rw [Nat.mul_succ, ← List.replicate_append_replicate, List.flatMap_append]; exact ho)
      clear hown ho hc
      go_wp2_with fail
      refine ⟨⟨j + 1, by go_num, by omega, hoh.out, hx'⟩, ?_⟩
      simp [intOf]; omega
    · obtain rfl : j = M := by omega
      have hownh := Lib.hid hown
      clear hown
      go_wp2_with fail
      go_ret
      exact ⟨_, rfl, by have := Recs.of_row hownh.out; unfold WantsAt; rw [List.length_replicate]; exact this, hX⟩
theorem twants_p (kind : Int) (m : Nat) (w : World) (h1 : 1 ≤ m) (h2 : m ≤ 64) :
    Calls Try.prog 71 #[.int .i64 kind, .int .i64 m] w fun e w' => ∃ v, e = .returned v ∧ WantsAt w' v (List.replicate (eachK kind * (2 ^ levels m - 1)) ⟨-1, 1⟩) ∧ Ext w w' := by
  unfold eachK
  by_cases hk : kind = 7
  · rw [if_pos hk]; exact twants_p7 kind m w h1 h2 hk
  · rw [if_neg hk]; exact twants_p3 kind m w h1 h2 hk
set_option maxRecDepth 100000 in
theorem tregs_p7 (b c n : Nat) (len : Nat) (w : World) (h1 : 1 ≤ n) (h2 : n * 4 ≤ len) (h3 : len ≤ c) (h4 : c ≤ 9223372036854775807) (h5 : len ≤ 1000000) :
    Calls Try.prog 141 #[.slice (some ⟨b, 0, none⟩) len c, .agg #[.func (.func 188) #[] #[], .func (.func 189) #[] #[], .func (.func 190) #[] #[]], .int .i64 n] w fun e w' => ∃ c', e = .returned (.slice (some ⟨b, 4 * (n - 1) * 7, none⟩) 4 c') ∧ 4 ≤ c' ∧ c' ≤ 9223372036854775807 ∧ Ext w w' := by
  obtain ⟨k, rfl⟩ : ∃ k, n = k + 1 := ⟨n - 1, by omega⟩
  rw [Nat.add_sub_cancel]
  have w1 := IntWalk.i64_in (((k + 1 : Nat) : Int) - 1) (by omega)
  have w2 := IntWalk.i64_in ((((k + 1 : Nat) : Int) - 1) * 4) (by omega)
  have w3 := IntWalk.i64_in (((k + 1 : Nat) : Int) * 4) (by omega)
  have d1 : decide ((len : Int) < ((k : Int) + 1) * 4) = false := by rw [decide_eq_false_iff_not]; omega
  have hX := Ext.refl w
  have b1 := Blk.new w (.cells #[.func (.func 188) #[] #[], .func (.func 189) #[] #[], .func (.func 190) #[] #[]] 126)
  replace hX := hX.alloc (.cells #[.func (.func 188) #[] #[], .func (.func 189) #[] #[], .func (.func 190) #[] #[]] 126)
  have c_b1 := b1.cells
  go_enter Try.func141, Try.ntmps141
  go_wp2_with fail
  refine (kwants_p _).mono ?_
  rintro e w2 ⟨v2, rfl, hr2, hx3⟩
  obtain ⟨A, c2, rfl, r1, r2, -⟩ := hr2
  rw [List.length_replicate]
  replace hX := hX.trans hx3
  clear hx3
  go_wp2_with fail
  go_ret
  exact ⟨c - k * 4, by rw [Nat.mul_comm k 4, show (k + 1) * 4 - 4 * k = 4 from by omega]; rfl, by omega, by omega, hX⟩
set_option maxRecDepth 100000 in
theorem tregs_p3 (b c n : Nat) (len : Nat) (w : World) (h1 : 1 ≤ n) (h2 : n * 3 ≤ len) (h3 : len ≤ c) (h4 : c ≤ 9223372036854775807) (h5 : len ≤ 1000000) :
    Calls Try.prog 141 #[.slice (some ⟨b, 0, none⟩) len c, .agg #[.func (.func 191) #[] #[], .func (.func 192) #[] #[], .func (.func 193) #[] #[]], .int .i64 n] w fun e w' => ∃ c', e = .returned (.slice (some ⟨b, 3 * (n - 1) * 7, none⟩) 3 c') ∧ 3 ≤ c' ∧ c' ≤ 9223372036854775807 ∧ Ext w w' := by
  obtain ⟨k, rfl⟩ : ∃ k, n = k + 1 := ⟨n - 1, by omega⟩
  rw [Nat.add_sub_cancel]
  have w1 := IntWalk.i64_in (((k + 1 : Nat) : Int) - 1) (by omega)
  have w2 := IntWalk.i64_in ((((k + 1 : Nat) : Int) - 1) * 3) (by omega)
  have w3 := IntWalk.i64_in (((k + 1 : Nat) : Int) * 3) (by omega)
  have d1 : decide ((len : Int) < ((k : Int) + 1) * 3) = false := by rw [decide_eq_false_iff_not]; omega
  have hX := Ext.refl w
  have b1 := Blk.new w (.cells #[.func (.func 191) #[] #[], .func (.func 192) #[] #[], .func (.func 193) #[] #[]] 126)
  replace hX := hX.alloc (.cells #[.func (.func 191) #[] #[], .func (.func 192) #[] #[], .func (.func 193) #[] #[]] 126)
  have c_b1 := b1.cells
  go_enter Try.func141, Try.ntmps141
  go_wp2_with fail
  refine (awants_p _).mono ?_
  rintro e w2 ⟨v2, rfl, hr2, hx3⟩
  obtain ⟨A, c2, rfl, r1, r2, -⟩ := hr2
  rw [List.length_replicate]
  replace hX := hX.trans hx3
  clear hx3
  go_wp2_with fail
  go_ret
  exact ⟨c - k * 3, by rw [Nat.mul_comm k 3, show (k + 1) * 3 - 3 * k = 3 from by omega]; rfl, by omega, by omega, hX⟩
end Go.Proofs.Ytbphlkaihfbgeaa
