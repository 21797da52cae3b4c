/-
  Plans of the program: laying registers.
-/
import Derived.Test.YtbaajjkopdjbgaaGreatJAdaptAloneSaid3
import Derived.Laws.AppendOwnNone
import Derived.Laws.MakeOwn
/-
  Plans of the program: laying registers.
-/
namespace Go.Proofs.YtbaajjkopdjbgaaGreat
open Go.RowKit Kv
@[go_sem] theorem build_regw (a b c d e : Int) (w : World) : (Instr.build 67 #[(0, .int .i64 a), (3, .int .i64 b), (4, .int .i64 c), (5, .int .i64 d), (6, .int .i64 e)]).run Tryz.prog w = .ok (.agg #[.int .i64 a, .int .i64 0, .int .i64 0, .int .i64 b, .int .i64 c, .int .i64 d, .int .i64 e]) w := run_build w 67 _ _ (by kernel_rfl)
theorem topM_max (t : Int) : max 1 (min t 255) = topM t := by
  unfold topM clamp within
  split <;> omega
theorem want_p (q : Want) (n mode : Int) (w : World) (hm : mode = 1 ∨ mode = 2) (hq : -1 ≤ q.wr) : Calls Tryz.prog 223 #[.agg #[.int .i64 q.wr, .int .i64 q.top], .int .i64 n, .int .i64 mode] w fun e w' => e = .returned (encR (regOf n mode 0 0 q)) ∧ Ext w w' := by
  obtain ⟨wr, top⟩ := q
  unfold encR regOf
  simp only at hq ⊢
  have ht := topM_max top
  rcases hm with rfl | rfl
  · rw [show kindM 1 wr = 1 from by unfold kindM; rw [if_neg (by omega)]]
    clear hq
    go_enter Tryz.func223, Tryz.ntmps223
    go_wp2_with fail
    refine bodyPost_ret (v := .agg #[.int .i64 1, .int .i64 0, .int .i64 0, .int .i64 n, .int .i64 wr, .int .i64 (-1), .int .i64 (topM top)]) (by simp [results, Tryz.results223, go_sem]) rfl ⟨rfl, ?_⟩
    exact (((Ext.refl _).alloc _).alloc _).alloc _
  · by_cases h : wr = -1
    · rw [show kindM 2 wr = 7 from by unfold kindM; rw [if_pos rfl, if_neg (by omega)]]
      have d : (wr == -1) = true := by rw [beq_iff_eq]; exact h
      clear hq h
      go_enter Tryz.func223, Tryz.ntmps223
      go_wp2_with fail
      refine bodyPost_ret (v := .agg #[.int .i64 7, .int .i64 0, .int .i64 0, .int .i64 n, .int .i64 wr, .int .i64 (-1), .int .i64 (topM top)]) (by simp [results, Tryz.results223, go_sem]) rfl ⟨rfl, ?_⟩
      exact (((Ext.refl _).alloc _).alloc _).alloc _
    · rw [show kindM 2 wr = 6 from by unfold kindM; rw [if_pos rfl, if_pos (by omega)]]
      have d : (wr == -1) = false := by rw [beq_eq_false_iff_ne]; exact h
      clear hq h
      go_enter Tryz.func223, Tryz.ntmps223
      go_wp2_with fail
      refine bodyPost_ret (v := .agg #[.int .i64 6, .int .i64 0, .int .i64 0, .int .i64 n, .int .i64 wr, .int .i64 (-1), .int .i64 (topM top)]) (by simp [results, Tryz.results223, go_sem]) rfl ⟨rfl, ?_⟩
      exact (((Ext.refl _).alloc _).alloc _).alloc _
set_option maxRecDepth 100000 in
set_option maxHeartbeats 2000000 in
theorem lay_p (va : Value) (l : List Want) (n mode base loc : Int) (w : World) (h : WantsAt w va l) (hlen : l.length ≤ 1000) (hC : ∀ (r : Reg) w, Drawn r → r.n = n → Calls Tryz.prog 225 #[encR r] w fun e w' => e = .returned (.int .i64 (cellsM r)) ∧ Ext w w') :
    Calls Tryz.prog 163 #[va, .int .i64 n, .int .i64 mode, .int .i64 base, .int .i64 loc] w (LayPost w.heap.size w (layM l n mode base loc)) := by
  obtain ⟨A, c, rfl, q1, q2, hv⟩ := h
  by_cases h0 : 1 ≤ mode ∧ mode ≤ 2 ∧ 1 ≤ n ∧ n ≤ 8 ∧ 0 ≤ base ∧ 0 ≤ loc
  · have hmd : mode = 1 ∨ mode = 2 := by omega
    rcases hmd with rfl | rfl
    · have hgood := Lib.hid (fun hq => argsM_good (l := l) h0 hq)
      have hbad := Lib.hid (fun (i : Nat) q hq hx => argsM_bad (l := l) (n := n) (mode := 1) (b := base) (c := loc) (i := i) (q := q) hq hx)
      obtain ⟨-, -, n1, n2, b1, l1⟩ := h0
      have d3 : decide (n < 1) = false := by rw [decide_eq_false_iff_not]; omega
      have d4 : decide (8 < n) = false := by rw [decide_eq_false_iff_not]; omega
      have d5 : decide (base < 0) = false := by rw [decide_eq_false_iff_not]; omega
      have d6 : decide (loc < 0) = false := by rw [decide_eq_false_iff_not]; omega
      go_enter Tryz.func163, Tryz.ntmps163
      go_wp2_with fail
      go_loopw [40] (fun i wr => ∃ j : Nat, i = .int .i64 j ∧ j ≤ l.length ∧ Hid (∀ (k : Nat) q, k < j → l[k]? = some q → -1 ≤ q.wr ∧ q.wr < n) ∧ Ext w wr) (fun i _ => l.length - (intOf i).toNat)
      case atStart => exact ⟨0, rfl, by omega, fun k q hk => by omega, Ext.refl _⟩
      case round =>
        obtain ⟨j, rfl, hj, hs, hE⟩ := hrel
        by_cases hl : j < l.length
        · obtain ⟨q, hq⟩ : ∃ q, l[j]? = some q := ⟨_, List.getElem?_eq_getElem hl⟩
          obtain ⟨b, rfl, hb, e1, e2⟩ := want_at (hv.ext hE) hq
          have hE2 := hE.alloc (.cells #[.int .i64 q.wr, .int .i64 q.top] 179)
          by_cases f1 : q.wr < -1
          · have d7 : decide (q.wr < -1) = true := by simpa using f1
            have hf := Lib.hid (hbad.out j q hq (by omega))
            clear hq hgood hbad hs
            go_wp2_with fail
            rw [hf.out]
            refine bodyPost_ret (v := .tuple #[.slice none 0 0, .int .i64 1]) (by simp [results, Tryz.results163, go_sem]) rfl ?_
            exact ⟨hE2, 1, by decide, rfl⟩
          · have d7 : decide (q.wr < -1) = false := by rw [decide_eq_false_iff_not]; omega
            by_cases f2 : n ≤ q.wr
            · have d8 : decide (n ≤ q.wr) = true := by simpa using f2
              have hf := Lib.hid (hbad.out j q hq (by omega))
              clear hq hgood hbad hs
              go_wp2_with fail
              rw [hf.out]
              refine bodyPost_ret (v := .tuple #[.slice none 0 0, .int .i64 1]) (by simp [results, Tryz.results163, go_sem]) rfl ?_
              exact ⟨hE2, 1, by decide, rfl⟩
            · have d8 : decide (n ≤ q.wr) = false := by rw [decide_eq_false_iff_not]; omega
              have hs2 : Hid (∀ (k : Nat) q, k < j + 1 → l[k]? = some q → -1 ≤ q.wr ∧ q.wr < n) := Lib.hid fun k q' hk hq' => by
                by_cases e : k = j
                · subst e
                  rw [hq] at hq'
                  obtain rfl : q = q' := by simpa using hq'
                  omega
                · exact hs.out k q' (by omega) hq'
              have hE3 := Lib.hid hE2
              clear hq hs hgood hbad hE2
              go_wp2_with fail
              refine ⟨⟨j + 1, by go_num, by omega, hs2, hE3.out⟩, ?_⟩
              simp [intOf]; omega
        · have hlay := Lib.hid (hgood.out fun k q hq => hs.out k q (by have := (List.getElem?_eq_some_iff.1 hq).1; omega) hq)
          have hwr := Lib.hid (fun (k : Nat) (q : Want) (hq : l[k]? = some q) => hs.out k q (by have := (List.getElem?_eq_some_iff.1 hq).1; omega) hq)
          clear hgood hbad hs
          go_wp2_with fail
          have hE0 := Lib.hid hE
          clear hE
          go_loopw [3, 4, 14, 56] (fun b' c' v i wr => ∃ (j : Nat) (bi ci : Int) (pre : List Reg), b' = .int .i64 bi ∧ c' = .int .i64 ci ∧ i = .int .i64 j ∧ j ≤ l.length ∧ pre.length = j ∧ 0 ≤ bi ∧ 0 ≤ ci ∧ Hid (layFrom n 1 l base loc = (layFrom n 1 (l.drop j) bi ci).map (pre ++ ·)) ∧ wr.ownsRow w.heap.size 67 7 v j (pre.flatMap regVals) ∧ Ext w wr) (fun _ _ _ i _ => l.length - (intOf i).toNat)
          case atStart => exact ⟨0, base, loc, [], rfl, rfl, rfl, by omega, rfl, b1, l1, by unfold Hid; simp, World.ownsRow_nil _ _ _ _, hE0.out⟩
          case round =>
            clear hE0
            obtain ⟨j, bi, ci, pre, rfl, rfl, rfl, hj, hpl, hbi, hci, hM, hown, hE⟩ := hrel
            by_cases hl : j < l.length
            · obtain ⟨q, hq⟩ : ∃ q, l[j]? = some q := ⟨_, List.getElem?_eq_getElem hl⟩
              obtain ⟨b, rfl, hb, e1, e2⟩ := want_at (hv.ext hE) hq
              obtain ⟨w1, w2⟩ := hwr.out j q hq
              have hdr : l.drop j = q :: l.drop (j + 1) := by
                rw [List.drop_eq_getElem_cons hl]
                congr 1
                rw [List.getElem?_eq_getElem hl] at hq
                simpa using hq
              have hMh := Lib.hid hM
              have hownh := Lib.hid hown
              clear hM hown hq
              have hrk : regOf n 1 bi ci q = ⟨kindM 1 q.wr, bi, ci, n, q.wr, -1, topM q.top⟩ := rfl
              have hWW := fun W => want_p q n 1 W (by omega) w1
              have hK : kindM 1 q.wr = 1 ∨ kindM 1 q.wr = 6 ∨ kindM 1 q.wr = 7 := by unfold kindM; split <;> (try split) <;> simp
              have hK6 : kindM 1 q.wr = 6 → 0 ≤ q.wr := by unfold kindM; split <;> (try split) <;> omega
              have htm := topM_bd q.top
              have hdn : Drawn ⟨kindM 1 q.wr, bi, ci, n, q.wr, -1, topM q.top⟩ := ⟨hK, hbi, hci, ⟨n1, n2⟩, ⟨w1, w2⟩, hK6, rfl, htm⟩
              have hlf := Lib.hid (show layFrom n 1 (l.drop j) bi ci = if fineM ⟨kindM 1 q.wr, bi, ci, n, q.wr, -1, topM q.top⟩ then (layFrom n 1 (l.drop (j + 1)) (bi + cellsM ⟨kindM 1 q.wr, bi, ci, n, q.wr, -1, topM q.top⟩) (ci + localsM ⟨kindM 1 q.wr, bi, ci, n, q.wr, -1, topM q.top⟩)).map (⟨kindM 1 q.wr, bi, ci, n, q.wr, -1, topM q.top⟩ :: ·) else none from by rw [hdr, layFrom_cons, hrk])
              have hCC := fun W => hC ⟨kindM 1 q.wr, bi, ci, n, q.wr, -1, topM q.top⟩ W hdn rfl
              have hFF := fun W => fine_p ⟨kindM 1 q.wr, bi, ci, n, q.wr, -1, topM q.top⟩ W hdn hCC
              have hLL := fun W => locals_p ⟨kindM 1 q.wr, bi, ci, n, q.wr, -1, topM q.top⟩ W hK ⟨n1, n2⟩
              have hcn := cells_nat ⟨kindM 1 q.wr, bi, ci, n, q.wr, -1, topM q.top⟩ ⟨n1, n2⟩
              have hfb : fineM ⟨kindM 1 q.wr, bi, ci, n, q.wr, -1, topM q.top⟩ = true → bi ≤ 32768 ∧ ci ≤ 32768 := by
                unfold fineM
                simp only [Bool.and_eq_true, decide_eq_true_eq]
                omega
              clear hdn hrk htm hdr hK hK6
              unfold encR regOf at hWW
              unfold encR at hFF hCC hLL
              simp only at hWW hFF hCC hLL
              generalize kindM 1 q.wr = kk at *
              generalize topM q.top = tp at *
              generalize cellsM _ = C at *
              generalize localsM _ = D at *
              generalize hfm : fineM _ = F at *
              clear hfm
              go_wp2_with fail
              refine (hWW _).mono ?_
              rintro e w3 ⟨rfl, hx⟩
              clear hWW
              have g3 := Blk.new w3 (.cells #[.int .i64 kk, .int .i64 bi, .int .i64 ci, .int .i64 n, .int .i64 q.wr, .int .i64 (-1), .int .i64 tp] 67)
              have x3 : Ext wr (w3.alloc (.cells #[.int .i64 kk, .int .i64 bi, .int .i64 ci, .int .i64 n, .int .i64 q.wr, .int .i64 (-1), .int .i64 tp] 67)) := (((Ext.refl wr).alloc _).trans hx).alloc _
              have hz3 : wr.heap.size < w3.heap.size := by have := hx.size; simp at this; omega
              clear hx
              go_wp2_with fail
              generalize w3.alloc _ = W at *
              have c_3 := g3.cells
              refine (hFF _).mono ?_
              rintro e w4 ⟨rfl, hx⟩
              clear hFF c_3
              replace g3 := g3.ext hx
              replace x3 := x3.trans hx
              clear hx
              have c_3 := g3.cells
              cases F with
              | false =>
                have hres := Lib.hid (show layM l n 1 base loc = none from by rw [hlay.out, hMh.out, hlf.out]; rfl)
                go_wp2_with fail
                rw [hres.out]
                exact bodyPost_ret (v := .tuple #[.slice none 0 0, .int .i64 6]) (by simp [results, Tryz.results163, go_sem]) rfl ⟨hE.trans x3, 6, by decide, rfl⟩
              | true =>
                obtain ⟨hb1, hb2⟩ := hfb rfl
                have s1 := IntWalk.i64_in (bi + C) (by omega)
                have s2 := IntWalk.i64_in (ci + D) (by omega)
                have hown3 := row_ext hownh.out x3
                have hRn : Hid (u14.ownBlock ≠ some w3.heap.size) := Lib.hid fun e => by have := (hownh.out.lt _ e).2; omega
                have hE3 := hE.trans x3
                have hM2 := Lib.hid (show layFrom n 1 l base loc = (layFrom n 1 (l.drop (j + 1)) (bi + C) (ci + D)).map ((pre ++ [⟨kk, bi, ci, n, q.wr, -1, tp⟩]) ++ ·) from by
                  rw [hMh.out, hlf.out]
                  simp only [if_true, Option.map_map]
                  congr 1
                  funext x
                  simp)
                clear hfb hlf hMh hownh hb1 hb2
                go_wp2_with (at_builtin; refine append_rec info_reg Tryz.underlying94 rfl (by decide) (by decide) rfl _ _ rfl _ j (pre.flatMap regVals) [.int .i64 kk, .int .i64 bi, .int .i64 ci, .int .i64 n, .int .i64 q.wr, .int .i64 (-1), .int .i64 tp] hE3 hown3 rfl rfl rfl (by simp [Value.oneCell']) (by omega) ?_)
                intro v' w5 ho4 hx4 hbk
                have g4 : Blk w5 w3.heap.size _ := (hbk _ g3.lt hRn.out).trans g3
                have c_4 := g4.cells
                clear hbk hown3 hE3 c_3 hRn g3 x3
                go_wp2_with fail
                refine (hCC _).mono ?_
                rintro e w6 ⟨rfl, hx⟩
                replace g4 := g4.ext hx
                replace ho4 := row_ext ho4 hx
                replace hx4 := hx4.trans hx
                clear c_4 hx hCC
                have c_4 := g4.cells
                go_wp2_with fail
                refine (hLL _).mono ?_
                rintro e w7 ⟨rfl, hx⟩
                replace ho4 := row_ext ho4 hx
                replace hx4 := hx4.trans hx
                clear c_4 g4 hx hLL
                have ho5 := Lib.hid ho4
                clear ho4
                go_wp2_with fail
                refine ⟨⟨j + 1, bi + C, ci + D, pre ++ [⟨kk, bi, ci, n, q.wr, -1, tp⟩], rfl, rfl, by go_num, by omega, by simp [hpl], by omega, by omega, hM2, by rw [List.flatMap_append]; exact ho5.out, hx4⟩, ?_⟩
                simp [intOf]; omega
            · have hf : layFrom n 1 l base loc = some pre := by
                rw [hM.out, List.drop_eq_nil_of_le (by omega)]
                simp [layFrom]
              have hres := Lib.hid (hlay.out.trans hf)
              clear hM hf hlay hwr
              have hownh := Lib.hid hown
              clear hown
              go_wp2_with fail
              rw [hres.out]
              refine bodyPost_ret (v := .tuple #[u14, .int .i64 0]) (by simp [results, Tryz.results163, go_sem]) rfl ?_
              exact ⟨hE, u14, rfl, by rw [hpl]; exact hownh.out⟩
    · have hgood := Lib.hid (fun hq => argsM_good (l := l) h0 hq)
      have hbad := Lib.hid (fun (i : Nat) q hq hx => argsM_bad (l := l) (n := n) (mode := 2) (b := base) (c := loc) (i := i) (q := q) hq hx)
      obtain ⟨-, -, n1, n2, b1, l1⟩ := h0
      have d3 : decide (n < 1) = false := by rw [decide_eq_false_iff_not]; omega
      have d4 : decide (8 < n) = false := by rw [decide_eq_false_iff_not]; omega
      have d5 : decide (base < 0) = false := by rw [decide_eq_false_iff_not]; omega
      have d6 : decide (loc < 0) = false := by rw [decide_eq_false_iff_not]; omega
      go_enter Tryz.func163, Tryz.ntmps163
      go_wp2_with fail
      go_loopw [40] (fun i wr => ∃ j : Nat, i = .int .i64 j ∧ j ≤ l.length ∧ Hid (∀ (k : Nat) q, k < j → l[k]? = some q → -1 ≤ q.wr ∧ q.wr < n) ∧ Ext w wr) (fun i _ => l.length - (intOf i).toNat)
      case atStart => exact ⟨0, rfl, by omega, fun k q hk => by omega, Ext.refl _⟩
      case round =>
        obtain ⟨j, rfl, hj, hs, hE⟩ := hrel
        by_cases hl : j < l.length
        · obtain ⟨q, hq⟩ : ∃ q, l[j]? = some q := ⟨_, List.getElem?_eq_getElem hl⟩
          obtain ⟨b, rfl, hb, e1, e2⟩ := want_at (hv.ext hE) hq
          have hE2 := hE.alloc (.cells #[.int .i64 q.wr, .int .i64 q.top] 179)
          by_cases f1 : q.wr < -1
          · have d7 : decide (q.wr < -1) = true := by simpa using f1
            have hf := Lib.hid (hbad.out j q hq (by omega))
            clear hq hgood hbad hs
            go_wp2_with fail
            rw [hf.out]
            refine bodyPost_ret (v := .tuple #[.slice none 0 0, .int .i64 1]) (by simp [results, Tryz.results163, go_sem]) rfl ?_
            exact ⟨hE2, 1, by decide, rfl⟩
          · have d7 : decide (q.wr < -1) = false := by rw [decide_eq_false_iff_not]; omega
            by_cases f2 : n ≤ q.wr
            · have d8 : decide (n ≤ q.wr) = true := by simpa using f2
              have hf := Lib.hid (hbad.out j q hq (by omega))
              clear hq hgood hbad hs
              go_wp2_with fail
              rw [hf.out]
              refine bodyPost_ret (v := .tuple #[.slice none 0 0, .int .i64 1]) (by simp [results, Tryz.results163, go_sem]) rfl ?_
              exact ⟨hE2, 1, by decide, rfl⟩
            · have d8 : decide (n ≤ q.wr) = false := by rw [decide_eq_false_iff_not]; omega
              have hs2 : Hid (∀ (k : Nat) q, k < j + 1 → l[k]? = some q → -1 ≤ q.wr ∧ q.wr < n) := Lib.hid fun k q' hk hq' => by
                by_cases e : k = j
                · subst e
                  rw [hq] at hq'
                  obtain rfl : q = q' := by simpa using hq'
                  omega
                · exact hs.out k q' (by omega) hq'
              have hE3 := Lib.hid hE2
              clear hq hs hgood hbad hE2
              go_wp2_with fail
              refine ⟨⟨j + 1, by go_num, by omega, hs2, hE3.out⟩, ?_⟩
              simp [intOf]; omega
        · have hlay := Lib.hid (hgood.out fun k q hq => hs.out k q (by have := (List.getElem?_eq_some_iff.1 hq).1; omega) hq)
          have hwr := Lib.hid (fun (k : Nat) (q : Want) (hq : l[k]? = some q) => hs.out k q (by have := (List.getElem?_eq_some_iff.1 hq).1; omega) hq)
          clear hgood hbad hs
          go_wp2_with fail
          have hE0 := Lib.hid hE
          clear hE
          go_loopw [3, 4, 14, 56] (fun b' c' v i wr => ∃ (j : Nat) (bi ci : Int) (pre : List Reg), b' = .int .i64 bi ∧ c' = .int .i64 ci ∧ i = .int .i64 j ∧ j ≤ l.length ∧ pre.length = j ∧ 0 ≤ bi ∧ 0 ≤ ci ∧ Hid (layFrom n 2 l base loc = (layFrom n 2 (l.drop j) bi ci).map (pre ++ ·)) ∧ wr.ownsRow w.heap.size 67 7 v j (pre.flatMap regVals) ∧ Ext w wr) (fun _ _ _ i _ => l.length - (intOf i).toNat)
          case atStart => exact ⟨0, base, loc, [], rfl, rfl, rfl, by omega, rfl, b1, l1, by unfold Hid; simp, World.ownsRow_nil _ _ _ _, hE0.out⟩
          case round =>
            clear hE0
            obtain ⟨j, bi, ci, pre, rfl, rfl, rfl, hj, hpl, hbi, hci, hM, hown, hE⟩ := hrel
            by_cases hl : j < l.length
            · obtain ⟨q, hq⟩ : ∃ q, l[j]? = some q := ⟨_, List.getElem?_eq_getElem hl⟩
              obtain ⟨b, rfl, hb, e1, e2⟩ := want_at (hv.ext hE) hq
              obtain ⟨w1, w2⟩ := hwr.out j q hq
              have hdr : l.drop j = q :: l.drop (j + 1) := by
                rw [List.drop_eq_getElem_cons hl]
                congr 1
                rw [List.getElem?_eq_getElem hl] at hq
                simpa using hq
              have hMh := Lib.hid hM
              have hownh := Lib.hid hown
              clear hM hown hq
              have hrk : regOf n 2 bi ci q = ⟨kindM 2 q.wr, bi, ci, n, q.wr, -1, topM q.top⟩ := rfl
              have hWW := fun W => want_p q n 2 W (by omega) w1
              have hK : kindM 2 q.wr = 1 ∨ kindM 2 q.wr = 6 ∨ kindM 2 q.wr = 7 := by unfold kindM; split <;> (try split) <;> simp
              have hK6 : kindM 2 q.wr = 6 → 0 ≤ q.wr := by unfold kindM; split <;> (try split) <;> omega
              have htm := topM_bd q.top
              have hdn : Drawn ⟨kindM 2 q.wr, bi, ci, n, q.wr, -1, topM q.top⟩ := ⟨hK, hbi, hci, ⟨n1, n2⟩, ⟨w1, w2⟩, hK6, rfl, htm⟩
              have hlf := Lib.hid (show layFrom n 2 (l.drop j) bi ci = if fineM ⟨kindM 2 q.wr, bi, ci, n, q.wr, -1, topM q.top⟩ then (layFrom n 2 (l.drop (j + 1)) (bi + cellsM ⟨kindM 2 q.wr, bi, ci, n, q.wr, -1, topM q.top⟩) (ci + localsM ⟨kindM 2 q.wr, bi, ci, n, q.wr, -1, topM q.top⟩)).map (⟨kindM 2 q.wr, bi, ci, n, q.wr, -1, topM q.top⟩ :: ·) else none from by rw [hdr, layFrom_cons, hrk])
              have hCC := fun W => hC ⟨kindM 2 q.wr, bi, ci, n, q.wr, -1, topM q.top⟩ W hdn rfl
              have hFF := fun W => fine_p ⟨kindM 2 q.wr, bi, ci, n, q.wr, -1, topM q.top⟩ W hdn hCC
              have hLL := fun W => locals_p ⟨kindM 2 q.wr, bi, ci, n, q.wr, -1, topM q.top⟩ W hK ⟨n1, n2⟩
              have hcn := cells_nat ⟨kindM 2 q.wr, bi, ci, n, q.wr, -1, topM q.top⟩ ⟨n1, n2⟩
              have hfb : fineM ⟨kindM 2 q.wr, bi, ci, n, q.wr, -1, topM q.top⟩ = true → bi ≤ 32768 ∧ ci ≤ 32768 := by
                unfold fineM
                simp only [Bool.and_eq_true, decide_eq_true_eq]
                omega
              clear hdn hrk htm hdr hK hK6
              unfold encR regOf at hWW
              unfold encR at hFF hCC hLL
              simp only at hWW hFF hCC hLL
              generalize kindM 2 q.wr = kk at *
              generalize topM q.top = tp at *
              generalize cellsM _ = C at *
              generalize localsM _ = D at *
              generalize hfm : fineM _ = F at *
              clear hfm
              go_wp2_with fail
              refine (hWW _).mono ?_
              rintro e w3 ⟨rfl, hx⟩
              clear hWW
              have g3 := Blk.new w3 (.cells #[.int .i64 kk, .int .i64 bi, .int .i64 ci, .int .i64 n, .int .i64 q.wr, .int .i64 (-1), .int .i64 tp] 67)
              have x3 : Ext wr (w3.alloc (.cells #[.int .i64 kk, .int .i64 bi, .int .i64 ci, .int .i64 n, .int .i64 q.wr, .int .i64 (-1), .int .i64 tp] 67)) := (((Ext.refl wr).alloc _).trans hx).alloc _
              have hz3 : wr.heap.size < w3.heap.size := by have := hx.size; simp at this; omega
              clear hx
              go_wp2_with fail
              generalize w3.alloc _ = W at *
              have c_3 := g3.cells
              refine (hFF _).mono ?_
              rintro e w4 ⟨rfl, hx⟩
              clear hFF c_3
              replace g3 := g3.ext hx
              replace x3 := x3.trans hx
              clear hx
              have c_3 := g3.cells
              cases F with
              | false =>
                have hres := Lib.hid (show layM l n 2 base loc = none from by rw [hlay.out, hMh.out, hlf.out]; rfl)
                go_wp2_with fail
                rw [hres.out]
                exact bodyPost_ret (v := .tuple #[.slice none 0 0, .int .i64 6]) (by simp [results, Tryz.results163, go_sem]) rfl ⟨hE.trans x3, 6, by decide, rfl⟩
              | true =>
                obtain ⟨hb1, hb2⟩ := hfb rfl
                have s1 := IntWalk.i64_in (bi + C) (by omega)
                have s2 := IntWalk.i64_in (ci + D) (by omega)
                have hown3 := row_ext hownh.out x3
                have hRn : Hid (u14.ownBlock ≠ some w3.heap.size) := Lib.hid fun e => by have := (hownh.out.lt _ e).2; omega
                have hE3 := hE.trans x3
                have hM2 := Lib.hid (show layFrom n 2 l base loc = (layFrom n 2 (l.drop (j + 1)) (bi + C) (ci + D)).map ((pre ++ [⟨kk, bi, ci, n, q.wr, -1, tp⟩]) ++ ·) from by
                  rw [hMh.out, hlf.out]
                  simp only [if_true, Option.map_map]
                  congr 1
                  funext x
                  simp)
                clear hfb hlf hMh hownh hb1 hb2
                go_wp2_with (at_builtin; refine append_rec info_reg Tryz.underlying94 rfl (by decide) (by decide) rfl _ _ rfl _ j (pre.flatMap regVals) [.int .i64 kk, .int .i64 bi, .int .i64 ci, .int .i64 n, .int .i64 q.wr, .int .i64 (-1), .int .i64 tp] hE3 hown3 rfl rfl rfl (by simp [Value.oneCell']) (by omega) ?_)
                intro v' w5 ho4 hx4 hbk
                have g4 : Blk w5 w3.heap.size _ := (hbk _ g3.lt hRn.out).trans g3
                have c_4 := g4.cells
                clear hbk hown3 hE3 c_3 hRn g3 x3
                go_wp2_with fail
                refine (hCC _).mono ?_
                rintro e w6 ⟨rfl, hx⟩
                replace g4 := g4.ext hx
                replace ho4 := row_ext ho4 hx
                replace hx4 := hx4.trans hx
                clear c_4 hx hCC
                have c_4 := g4.cells
                go_wp2_with fail
                refine (hLL _).mono ?_
                rintro e w7 ⟨rfl, hx⟩
                replace ho4 := row_ext ho4 hx
                replace hx4 := hx4.trans hx
                clear c_4 g4 hx hLL
                have ho5 := Lib.hid ho4
                clear ho4
                go_wp2_with fail
                refine ⟨⟨j + 1, bi + C, ci + D, pre ++ [⟨kk, bi, ci, n, q.wr, -1, tp⟩], rfl, rfl, by go_num, by omega, by simp [hpl], by omega, by omega, hM2, by rw [List.flatMap_append]; exact ho5.out, hx4⟩, ?_⟩
                simp [intOf]; omega
            · have hf : layFrom n 2 l base loc = some pre := by
                rw [hM.out, List.drop_eq_nil_of_le (by omega)]
                simp [layFrom]
              have hres := Lib.hid (hlay.out.trans hf)
              clear hM hf hlay hwr
              have hownh := Lib.hid hown
              clear hown
              go_wp2_with fail
              rw [hres.out]
              refine bodyPost_ret (v := .tuple #[u14, .int .i64 0]) (by simp [results, Tryz.results163, go_sem]) rfl ?_
              exact ⟨hE, u14, rfl, by rw [hpl]; exact hownh.out⟩
  · rw [argsM_false h0]
    go_enter Tryz.func163, Tryz.ntmps163
    have hfin : LayPost w.heap.size w none (.returned (.tuple #[.slice none 0 0, .int .i64 1])) w := ⟨Ext.refl _, 1, by decide, rfl⟩
    by_cases m1 : mode = 1 ∨ mode = 2
    · by_cases m3 : n < 1
      · have d3 : decide (n < 1) = true := by simpa using m3
        rcases m1 with rfl | rfl
        all_goals
          go_wp2_with fail
          exact bodyPost_ret (v := .tuple #[.slice none 0 0, .int .i64 1]) (by simp [results, Tryz.results163, go_sem]) rfl hfin
      · have d3 : decide (n < 1) = false := by simpa using m3
        by_cases m4 : 8 < n
        · have d4 : decide (8 < n) = true := by simpa using m4
          rcases m1 with rfl | rfl
          all_goals
            go_wp2_with fail
            exact bodyPost_ret (v := .tuple #[.slice none 0 0, .int .i64 1]) (by simp [results, Tryz.results163, go_sem]) rfl hfin
        · have d4 : decide (8 < n) = false := by simpa using m4
          by_cases m5 : base < 0
          · have d5 : decide (base < 0) = true := by simpa using m5
            rcases m1 with rfl | rfl
            all_goals
              go_wp2_with fail
              exact bodyPost_ret (v := .tuple #[.slice none 0 0, .int .i64 1]) (by simp [results, Tryz.results163, go_sem]) rfl hfin
          · have d5 : decide (base < 0) = false := by simpa using m5
            have d6 : decide (loc < 0) = true := by rw [decide_eq_true_eq]; omega
            rcases m1 with rfl | rfl
            all_goals
              go_wp2_with fail
              exact bodyPost_ret (v := .tuple #[.slice none 0 0, .int .i64 1]) (by simp [results, Tryz.results163, go_sem]) rfl hfin
    · have d1 : (mode != 1) = true := by rw [bne_iff_ne]; omega
      have d2 : (mode != 2) = true := by rw [bne_iff_ne]; omega
      go_wp2_with fail
      exact bodyPost_ret (v := .tuple #[.slice none 0 0, .int .i64 1]) (by simp [results, Tryz.results163, go_sem]) rfl hfin
end Go.Proofs.YtbaajjkopdjbgaaGreat
/-
  The cells of any register that a plan lays.
-/
namespace Go.Proofs.YtbaajjkopdjbgaaGreat
open Go.RowKit Kv
theorem append_none {w : World} {ops : Array Oper} {rest : List Oper} {o : Oper} {a : Act} {Q : Exit → Act → World → Prop} {z : Value} {e t : TypeId} {size bytes : Nat}
    (hinfo : (Tryz.prog.info? e).map (fun i => (i.zero, i.size, i.bytes)) = some (some z, size, bytes)) (hund : Tryz.prog.underlying t = some (.slice e)) (hgd : o.guard = none) (s x : Operand)
    (ho : o.op = .call { callee := .builtin .append, args := #[s, x], argTypes := #[t, t] }) (base : Nat) (v : Value) (n : Nat) (xs : List Value) (hown : w.ownsRow base e size v n xs) (hs : a.eval s = v) (hx : a.eval x = .slice none 0 0)
    (h : wpList Tryz.prog ops Q rest (a.put o.dst v) w) : wpList Tryz.prog ops Q (o :: rest) a w := by
  obtain ⟨i0, hi, hz0, hz1, hz2⟩ := info_parts hinfo
  exact wpList_append_own_none hgd s x t ho base e i0 size hund hi v n xs hs hown hx h
set_option maxRecDepth 100000 in
theorem mstrips1_p (w : World) : Calls Tryz.prog 317 #[.int .i64 1] w fun e w' => ∃ A c, e = .returned (.slice A 0 c) ∧ Ext w w' := by
  go_enter Tryz.func317, Tryz.ntmps317
  go_wp2_with fail
  refine (mthreads_p 1 _ (by omega) (by omega)).mono ?_
  rintro e w' ⟨rfl, rfl⟩
  go_wp2_with fail
  go_loopw [3, 6] (fun v i wr => ∃ j : Nat, i = .int .i64 j ∧ j ≤ 1 ∧ wr.ownsRow w.heap.size 176 3 v 0 [] ∧ Ext w wr) (fun _ i _ => 1 - (intOf i).toNat)
  case atStart => exact ⟨0, rfl, by omega, World.ownsRow_nil _ _ _ _, Ext.refl _⟩
  case round =>
    obtain ⟨j, rfl, hj, hown, hX⟩ := hrel
    by_cases hl : j < 1
    · obtain rfl : j = 0 := by omega
      go_wp2_with fail
      refine (tstrips_p 1 _ (by omega) (by omega)).mono ?_
      rintro e w2 ⟨v2, rfl, hr2, hx2⟩
      rw [show 2 * ((1 - 1 : Int).toNat * (1 - 1 : Int).toNat) = 0 from rfl, show pairVals ((1 - 1 : Int).toNat * (1 - 1 : Int).toNat) = [] from rfl] at hr2
      replace hown := row_ext hown hx2
      replace hX := hX.trans hx2
      clear hx2
      rcases hr2.2 with ⟨rfl, -⟩ | ⟨g, cap, cur, rfl, q1, q2, q3, q4, -⟩
      · clear hr2
        go_wp2_with (at_builtin; refine append_none info_strip Tryz.underlying120 rfl _ _ rfl w.heap.size _ 0 [] hown rfl rfl ?_)
        have hoh := Lib.hid hown
        clear hown
        go_wp2_with fail
        refine ⟨⟨1, by go_num, by omega, hoh.out, hX⟩, ?_⟩
        simp [intOf]
      · clear hr2
        go_wp2_with (at_builtin; refine append_recs info_strip Tryz.underlying120 rfl (by decide) (by decide) rfl _ _ rfl _ 0 [] [] ⟨g, 0, none⟩ 0 cap hX hown rfl rfl rfl (fun i u hu => by simp at hu) (fun u hu => by simp at hu) (by omega) (by omega) ?_)
        intro v' w' ho hx'
        have hoh := Lib.hid ho
        clear hown ho q1 q2 q3 q4
        go_wp2_with fail
        refine ⟨⟨1, by go_num, by omega, hoh.out, hx'⟩, ?_⟩
        simp [intOf]
    · obtain rfl : j = 1 := by omega
      obtain ⟨A, c, rfl, -⟩ := Recs.of_row hown
      clear hown
      go_wp2_with fail
      go_ret
      exact ⟨_, _, rfl, hX⟩
set_option maxRecDepth 100000 in
theorem cells71_p (base loc wr rd top : Int) (w : World) : Calls Tryz.prog 225 #[.agg #[.int .i64 7, .int .i64 base, .int .i64 loc, .int .i64 1, .int .i64 wr, .int .i64 rd, .int .i64 top]] w fun e w' => e = .returned (.int .i64 0) ∧ Ext w w' := by
  have hS : ∀ w, Calls Tryz.prog 274 #[.agg #[.int .i64 7, .int .i64 base, .int .i64 loc, .int .i64 1, .int .i64 wr, .int .i64 rd, .int .i64 top]] w fun e w' => ∃ A c, e = .returned (.slice A 0 c) ∧ Ext w w' := by
    intro w
    have hX := Ext.refl w
    have b1 := Blk.new w (.cells #[.int .i64 7, .int .i64 base, .int .i64 loc, .int .i64 1, .int .i64 wr, .int .i64 rd, .int .i64 top] 67)
    replace hX := hX.alloc (.cells #[.int .i64 7, .int .i64 base, .int .i64 loc, .int .i64 1, .int .i64 wr, .int .i64 rd, .int .i64 top] 67)
    have c_b1 := b1.cells
    go_enter Tryz.func274, Tryz.ntmps274
    go_wp2_with fail
    refine (mstrips1_p _).mono ?_
    rintro e w2 ⟨A, c, rfl, hx⟩
    have hf := Lib.hid (hX.trans hx)
    clear hx
    go_wp2_with fail
    go_ret
    exact ⟨_, _, rfl, hf.out⟩
  have hX := Ext.refl w
  have b1 := Blk.new w (.cells #[.int .i64 7, .int .i64 base, .int .i64 loc, .int .i64 1, .int .i64 wr, .int .i64 rd, .int .i64 top] 67)
  replace hX := hX.alloc (.cells #[.int .i64 7, .int .i64 base, .int .i64 loc, .int .i64 1, .int .i64 wr, .int .i64 rd, .int .i64 top] 67)
  have c_b1 := b1.cells
  go_enter Tryz.func225, Tryz.ntmps225
  go_wp2_with fail
  refine (hS _).mono ?_
  rintro e w2 ⟨A, c, rfl, hx⟩
  have hf := Lib.hid (hX.trans hx)
  clear hx hS c_b1 b1 hX
  go_wp2_with fail
  go_loopw [3, 9] (fun s i wr => i = .int .i64 0 ∧ s = .int .i64 0 ∧ w2 = wr) (fun _ _ _ => 0)
  case atStart => exact ⟨rfl, rfl, rfl⟩
  case round =>
    obtain ⟨rfl, rfl, rfl⟩ := hrel
    go_wp2_with fail
    go_ret
    exact ⟨rfl, hf.out⟩
theorem cells_all (r : Reg) (w : World) (hk : r.kind = 1 ∨ r.kind = 6 ∨ r.kind = 7) (hn : 1 ≤ r.n ∧ r.n ≤ 8) : Calls Tryz.prog 225 #[encR r] w fun e w' => e = .returned (.int .i64 (cellsM r)) ∧ Ext w w' := by
  by_cases h : r.kind = 7 ∧ r.n = 1
  · obtain ⟨kind, base, loc, n, wr, rd, top⟩ := r
    obtain ⟨rfl, rfl⟩ := h
    exact cells71_p base loc wr rd top w
  · exact cells_p r w (by omega) hn (fun w => mthreads_p r.n w hn.1 hn.2)
/-- A plan laid by the program. -/
theorem plan_p (va : Value) (l : List Want) (n mode base loc : Int) (w : World) (h : WantsAt w va l) (hlen : l.length ≤ 1000) :
    Calls Tryz.prog 163 #[va, .int .i64 n, .int .i64 mode, .int .i64 base, .int .i64 loc] w (LayPost w.heap.size w (layM l n mode base loc)) :=
  lay_p va l n mode base loc w h hlen fun r w hd _ => cells_all r w hd.kind hd.n
end Go.Proofs.YtbaajjkopdjbgaaGreat
/-
  Locks' registers, laid by the program and by the document.
-/
namespace Kv
theorem filWants_len (N : Nat) : (filWants N).length = 2 * N - 1 := by simp [filWants]
theorem fastWants_len (N : Nat) : (fastWants N).length = N + 2 := by simp [fastWants]
theorem bwWants_len (N : Nat) : (bwWants N).length = 2 * N + 1 := by simp [bwWants]
end Kv
namespace Go.Proofs.YtbaajjkopdjbgaaGreat
open Go.RowKit Kv
theorem layr_some {va : Value} {l : List Want} {n mode base loc : Int} {rs : List Reg} (hl : layM l n mode base loc = some rs) (w : World) (h : WantsAt w va l) (hlen : l.length ≤ 1000) :
    Calls Tryz.prog 176 #[va, .int .i64 n, .int .i64 mode, .int .i64 base, .int .i64 loc] w fun e w' => ∃ v, e = .returned (.tuple #[v, .int .i64 0]) ∧ (RegsV w' v rs ∧ ∀ k, v.ownBlock = some k → w.heap.size ≤ k) ∧ Ext w w' := by
  have := lay_r va l n mode base loc w h hlen
  rw [hl] at this
  exact this.mono fun e w' ⟨hx, v, he, hr⟩ => ⟨v, he, ⟨Recs.of_row hr, fun k hk => (hr.lt k hk).1⟩, hx⟩
theorem layp_some {va : Value} {l : List Want} {n mode base loc : Int} {rs : List Reg} (hl : layM l n mode base loc = some rs) (w : World) (h : WantsAt w va l) (hlen : l.length ≤ 1000) :
    Calls Tryz.prog 163 #[va, .int .i64 n, .int .i64 mode, .int .i64 base, .int .i64 loc] w fun e w' => ∃ v, e = .returned (.tuple #[v, .int .i64 0]) ∧ (RegsV w' v rs ∧ ∀ k, v.ownBlock = some k → w.heap.size ≤ k) ∧ Ext w w' := by
  have := plan_p va l n mode base loc w h hlen
  rw [hl] at this
  exact this.mono fun e w' ⟨hx, v, he, hr⟩ => ⟨v, he, ⟨Recs.of_row hr, fun k hk => (hr.lt k hk).1⟩, hx⟩
set_option maxRecDepth 100000 in
theorem filregs_r (alg mode base loc room : Int) (N : Nat) (rs : List Reg) (w : World) (h1 : 1 ≤ N) (h2 : N ≤ 8) (hl : layM (filWants N) N mode base loc = some rs) :
    Calls Tryz.prog 206 #[.agg #[.int .i64 alg, .int .i64 N, .int .i64 mode, .int .i64 base, .int .i64 loc, .int .i64 room]] w fun e w' => ∃ b c, e = .returned (.slice (some ⟨b, 0, none⟩) rs.length c) ∧ w.heap.size ≤ b ∧ b < w'.heap.size ∧ (∀ (i : Nat) u, (rs.flatMap regVals)[i]? = some u → w'.cell? ⟨b, i, none⟩ = some u) ∧ rs.length ≤ c ∧ c ≤ 9223372036854775807 ∧ Ext w w' := by
  have hlen := layM_len hl
  rw [filWants_len] at hlen
  replace hl := Lib.hid hl
  have hlenh := Lib.hid hlen
  clear hlen
  have hX := Ext.refl w
  have b1 := Blk.new w (.cells #[.int .i64 alg, .int .i64 N, .int .i64 mode, .int .i64 base, .int .i64 loc, .int .i64 room] 23)
  replace hX := hX.alloc (.cells #[.int .i64 alg, .int .i64 N, .int .i64 mode, .int .i64 base, .int .i64 loc, .int .i64 room] 23)
  have c_b1 := b1.cells
  go_enter Tryz.func206, Tryz.ntmps206
  go_wp2_with fail
  generalize w.alloc _ = W at *
  have hXW := hX
  clear hX c_b1
  have hX := (Ext.refl W).drew
  have hS : ∀ w', Ext W w' → (∀ i, w'.cell? ⟨w.heap.size, i, none⟩ = (#[.int .i64 alg, .int .i64 N, .int .i64 mode, .int .i64 base, .int .i64 loc, .int .i64 room] : Array Value)[i]?) := fun w' hx => (b1.ext hx).cells
  go_region_held2 (fun w' => ∀ i, w'.cell? ⟨w.heap.size, i, none⟩ = (#[.int .i64 alg, .int .i64 N, .int .i64 mode, .int .i64 base, .int .i64 loc, .int .i64 room] : Array Value)[i]?) (exact hS _ hX)
    (first
      | (go_at_call 178
         refine (filwants_r N _ h1 h2).mono ?_
         rintro e w2 ⟨v2, rfl, hw2, hx⟩
         replace hX := hX.trans hx
         have hz2 := hX.size
         clear hx)
      | (go_at_call 176
         refine (layr_some hl.out _ (hw2.ext (Ext.refl _)) (by simp [filWants_len]; omega)).mono ?_
         rintro e w3 ⟨v3, rfl, hr3, hx⟩
         replace hX := hX.trans hx
         clear hx))
  rename_i hh
  clear hh
  obtain ⟨⟨A, c, rfl, q1, q2, hV⟩, hown⟩ := hr3
  obtain ⟨b, rfl, hb, hcells⟩ := hV (by cases rs with | nil => have := hlenh.out; simp only [List.length_nil] at this; omega | cons r l => simp [regVals])
  have hge : w.heap.size ≤ b := Nat.le_trans (Nat.le_trans hXW.size hz2) (hown b rfl)
  have hfh := Lib.hid (And.intro hge (And.intro hb (And.intro hcells (hXW.trans hX))))
  clear hcells hV hb hown hge hz2
  go_wp2_with fail
  go_ret
  exact ⟨_, _, rfl, hfh.out.1, hfh.out.2.1, hfh.out.2.2.1, q1, q2, hfh.out.2.2.2⟩
set_option maxRecDepth 100000 in
theorem fastregs_r (alg mode base loc room : Int) (N : Nat) (rs : List Reg) (w : World) (h1 : 1 ≤ N) (h2 : N ≤ 8) (hl : layM (fastWants N) N mode base loc = some rs) :
    Calls Tryz.prog 208 #[.agg #[.int .i64 alg, .int .i64 N, .int .i64 mode, .int .i64 base, .int .i64 loc, .int .i64 room]] w fun e w' => ∃ b c, e = .returned (.slice (some ⟨b, 0, none⟩) rs.length c) ∧ w.heap.size ≤ b ∧ b < w'.heap.size ∧ (∀ (i : Nat) u, (rs.flatMap regVals)[i]? = some u → w'.cell? ⟨b, i, none⟩ = some u) ∧ rs.length ≤ c ∧ c ≤ 9223372036854775807 ∧ Ext w w' := by
  have hlen := layM_len hl
  rw [fastWants_len] at hlen
  replace hl := Lib.hid hl
  have hlenh := Lib.hid hlen
  clear hlen
  have hX := Ext.refl w
  have b1 := Blk.new w (.cells #[.int .i64 alg, .int .i64 N, .int .i64 mode, .int .i64 base, .int .i64 loc, .int .i64 room] 23)
  replace hX := hX.alloc (.cells #[.int .i64 alg, .int .i64 N, .int .i64 mode, .int .i64 base, .int .i64 loc, .int .i64 room] 23)
  have c_b1 := b1.cells
  go_enter Tryz.func208, Tryz.ntmps208
  go_wp2_with fail
  generalize w.alloc _ = W at *
  have hXW := hX
  clear hX c_b1
  have hX := (Ext.refl W).drew
  have hS : ∀ w', Ext W w' → (∀ i, w'.cell? ⟨w.heap.size, i, none⟩ = (#[.int .i64 alg, .int .i64 N, .int .i64 mode, .int .i64 base, .int .i64 loc, .int .i64 room] : Array Value)[i]?) := fun w' hx => (b1.ext hx).cells
  go_region_held2 (fun w' => ∀ i, w'.cell? ⟨w.heap.size, i, none⟩ = (#[.int .i64 alg, .int .i64 N, .int .i64 mode, .int .i64 base, .int .i64 loc, .int .i64 room] : Array Value)[i]?) (exact hS _ hX)
    (first
      | (go_at_call 179
         refine (fastwants_r N _ h1 h2).mono ?_
         rintro e w2 ⟨v2, rfl, hw2, hx⟩
         replace hX := hX.trans hx
         have hz2 := hX.size
         clear hx)
      | (go_at_call 176
         refine (layr_some hl.out _ (hw2.ext (Ext.refl _)) (by simp [fastWants_len]; omega)).mono ?_
         rintro e w3 ⟨v3, rfl, hr3, hx⟩
         replace hX := hX.trans hx
         clear hx))
  rename_i hh
  clear hh
  obtain ⟨⟨A, c, rfl, q1, q2, hV⟩, hown⟩ := hr3
  obtain ⟨b, rfl, hb, hcells⟩ := hV (by cases rs with | nil => have := hlenh.out; simp only [List.length_nil] at this; omega | cons r l => simp [regVals])
  have hge : w.heap.size ≤ b := Nat.le_trans (Nat.le_trans hXW.size hz2) (hown b rfl)
  have hfh := Lib.hid (And.intro hge (And.intro hb (And.intro hcells (hXW.trans hX))))
  clear hcells hV hb hown hge hz2
  go_wp2_with fail
  go_ret
  exact ⟨_, _, rfl, hfh.out.1, hfh.out.2.1, hfh.out.2.2.1, q1, q2, hfh.out.2.2.2⟩
set_option maxRecDepth 100000 in
theorem fillay_p (alg mode base loc room me : Int) (N : Nat) (rs : List Reg) (w : World) (h1 : 1 ≤ N) (h2 : N ≤ 8) (hl : layM (filWants N) N mode base loc = some rs) (hm0 : 0 ≤ me) (hm1 : me < N) :
    Calls Tryz.prog 247 #[.agg #[.int .i64 alg, .int .i64 N, .int .i64 mode, .int .i64 base, .int .i64 loc, .int .i64 room], .int .i64 me] w fun e w' => ∃ b c A2 c2, e = .returned (.tuple #[.slice (some ⟨b, 0, none⟩) N c, .slice A2 (N - 1) c2, .int .i64 0]) ∧ (2 ≤ N → A2 = some ⟨b, N * 7, none⟩) ∧ w.heap.size ≤ b ∧ b < w'.heap.size ∧ (∀ (i : Nat) u, (rs.flatMap regVals)[i]? = some u → w'.cell? ⟨b, i, none⟩ = some u) ∧ N ≤ c ∧ c ≤ 9223372036854775807 ∧ Ext w w' := by
  have hlen := layM_len hl
  rw [filWants_len] at hlen
  replace hl := Lib.hid hl
  have hlenh := Lib.hid hlen
  clear hlen
  have d1 : decide (me < 0) = false := by rw [decide_eq_false_iff_not]; omega
  have d2 : decide ((N : Int) ≤ me) = false := by rw [decide_eq_false_iff_not]; omega
  have hX := Ext.refl w
  have b1 := Blk.new w (.cells #[.int .i64 alg, .int .i64 N, .int .i64 mode, .int .i64 base, .int .i64 loc, .int .i64 room] 23)
  replace hX := hX.alloc (.cells #[.int .i64 alg, .int .i64 N, .int .i64 mode, .int .i64 base, .int .i64 loc, .int .i64 room] 23)
  have c_b1 := b1.cells
  go_enter Tryz.func247, Tryz.ntmps247
  go_wp2_with fail
  generalize w.alloc _ = W at *
  have hXW := hX
  clear hX c_b1
  have hX := (Ext.refl W).drew
  have hS : ∀ w', Ext W w' → (∀ i, w'.cell? ⟨w.heap.size, i, none⟩ = (#[.int .i64 alg, .int .i64 N, .int .i64 mode, .int .i64 base, .int .i64 loc, .int .i64 room] : Array Value)[i]?) := fun w' hx => (b1.ext hx).cells
  go_region_held2 (fun w' => ∀ i, w'.cell? ⟨w.heap.size, i, none⟩ = (#[.int .i64 alg, .int .i64 N, .int .i64 mode, .int .i64 base, .int .i64 loc, .int .i64 room] : Array Value)[i]?) (exact hS _ hX)
    (first
      | (go_at_call 188
         refine (filwants_p N _ h1 h2).mono ?_
         rintro e w2 ⟨v2, rfl, hw2, hx⟩
         replace hX := hX.trans hx
         have hz2 := hX.size
         clear hx)
      | (go_at_call 163
         refine (layp_some hl.out _ (hw2.ext (Ext.refl _)) (by simp [filWants_len]; omega)).mono ?_
         rintro e w3 ⟨v3, rfl, hr3, hx⟩
         replace hX := hX.trans hx
         clear hx))
  rename_i hh
  clear hh
  obtain ⟨⟨A, c, rfl, q1, q2, hV⟩, hown⟩ := hr3
  obtain ⟨b, rfl, hb, hcells⟩ := hV (by cases rs with | nil => have := hlenh.out; simp only [List.length_nil] at this; omega | cons r l => simp [regVals])
  have hge : w.heap.size ≤ b := Nat.le_trans (Nat.le_trans hXW.size hz2) (hown b rfl)
  have hfh := Lib.hid (And.intro hge (And.intro hb (And.intro hcells (hXW.trans hX))))
  clear hcells hV hb hown hge hz2
  have c_b1 := hS _ hX
  clear hS
  have hz3 := hlenh.out
  go_wp2_with fail
  go_quiet (fail)
  have hx9 := (Ext.refl w3).drewN nq
  have hg9 := hfh.out.1
  have hb9 := Nat.lt_of_lt_of_le hfh.out.2.1 hx9.size
  have hc9 : Hid (∀ (i : Nat) u, (rs.flatMap regVals)[i]? = some u → (w3.drewN nq).cell? ⟨b, i, none⟩ = some u) := Lib.hid fun i u hu => (hx9.cell (p := ⟨b, i, none⟩) hfh.out.2.1).trans (hfh.out.2.2.1 i u hu)
  have hX9 := Lib.hid (hfh.out.2.2.2.trans hx9)
  clear hx9 c_b1 hfh
  generalize w3.drewN nq = W9 at *
  generalize hA2 : (if c = N then some (⟨b, 0, none⟩ : Addr) else some ⟨b, N * 7, none⟩) = A2
  have hA3 : Hid (2 ≤ N → A2 = some ⟨b, N * 7, none⟩) := Lib.hid fun h => by rw [← hA2]; exact if_neg (by omega)
  clear hA2
  rw [show 2 * N - 1 - N = N - 1 from by omega]
  go_wp2_with fail
  refine bodyPost_ret (v := .tuple #[.slice (some ⟨b, 0, none⟩) N c, .slice A2 (N - 1) (c - N), .int .i64 0]) (by simp [results, Tryz.results247, go_sem]) rfl ?_
  exact ⟨b, c, _, c - N, rfl, hA3.out, hg9, hb9, hc9.out, by omega, q2, hX9.out⟩
set_option maxRecDepth 100000 in
theorem fastlay_p (alg mode base loc room me : Int) (N : Nat) (rs : List Reg) (w : World) (h1 : 1 ≤ N) (h2 : N ≤ 8) (hl : layM (fastWants N) N mode base loc = some rs) (hm0 : 0 ≤ me) (hm1 : me < N) :
    Calls Tryz.prog 248 #[.agg #[.int .i64 alg, .int .i64 N, .int .i64 mode, .int .i64 base, .int .i64 loc, .int .i64 room], .int .i64 me] w fun e w' => ∃ b c, e = .returned (.tuple #[.slice (some ⟨b, 0, none⟩) rs.length c, .int .i64 0]) ∧ w.heap.size ≤ b ∧ b < w'.heap.size ∧ (∀ (i : Nat) u, (rs.flatMap regVals)[i]? = some u → w'.cell? ⟨b, i, none⟩ = some u) ∧ rs.length ≤ c ∧ c ≤ 9223372036854775807 ∧ Ext w w' := by
  have hlen := layM_len hl
  rw [fastWants_len] at hlen
  replace hl := Lib.hid hl
  have hlenh := Lib.hid hlen
  clear hlen
  have d1 : decide (me < 0) = false := by rw [decide_eq_false_iff_not]; omega
  have d2 : decide ((N : Int) ≤ me) = false := by rw [decide_eq_false_iff_not]; omega
  have hX := Ext.refl w
  have b1 := Blk.new w (.cells #[.int .i64 alg, .int .i64 N, .int .i64 mode, .int .i64 base, .int .i64 loc, .int .i64 room] 23)
  replace hX := hX.alloc (.cells #[.int .i64 alg, .int .i64 N, .int .i64 mode, .int .i64 base, .int .i64 loc, .int .i64 room] 23)
  have c_b1 := b1.cells
  go_enter Tryz.func248, Tryz.ntmps248
  go_wp2_with fail
  generalize w.alloc _ = W at *
  have hXW := hX
  clear hX c_b1
  have hX := (Ext.refl W).drew
  have hS : ∀ w', Ext W w' → (∀ i, w'.cell? ⟨w.heap.size, i, none⟩ = (#[.int .i64 alg, .int .i64 N, .int .i64 mode, .int .i64 base, .int .i64 loc, .int .i64 room] : Array Value)[i]?) := fun w' hx => (b1.ext hx).cells
  go_region_held2 (fun w' => ∀ i, w'.cell? ⟨w.heap.size, i, none⟩ = (#[.int .i64 alg, .int .i64 N, .int .i64 mode, .int .i64 base, .int .i64 loc, .int .i64 room] : Array Value)[i]?) (exact hS _ hX)
    (first
      | (go_at_call 191
         refine (fastwants_p N _ h1 h2).mono ?_
         rintro e w2 ⟨v2, rfl, hw2, hx⟩
         replace hX := hX.trans hx
         have hz2 := hX.size
         clear hx)
      | (go_at_call 163
         refine (layp_some hl.out _ (hw2.ext (Ext.refl _)) (by simp [fastWants_len]; omega)).mono ?_
         rintro e w3 ⟨v3, rfl, hr3, hx⟩
         replace hX := hX.trans hx
         clear hx))
  rename_i hh
  clear hh
  obtain ⟨⟨A, c, rfl, q1, q2, hV⟩, hown⟩ := hr3
  obtain ⟨b, rfl, hb, hcells⟩ := hV (by cases rs with | nil => have := hlenh.out; simp only [List.length_nil] at this; omega | cons r l => simp [regVals])
  have hge : w.heap.size ≤ b := Nat.le_trans (Nat.le_trans hXW.size hz2) (hown b rfl)
  have hfh := Lib.hid (And.intro hge (And.intro hb (And.intro hcells (hXW.trans hX))))
  clear hcells hV hb hown hge hz2
  go_wp2_with fail
  first | go_ret2 | go_ret
  exact ⟨_, _, rfl, hfh.out.1, hfh.out.2.1, hfh.out.2.2.1, q1, q2, hfh.out.2.2.2⟩
end Go.Proofs.YtbaajjkopdjbgaaGreat
/-
  Trees of locks of two sides: laid, acquired and released, by the program.
-/
namespace Kv
def treeWants (E N : Nat) : List Want := List.replicate (E * (2 ^ levels N - 1)) ⟨-1, 1⟩
def treeA (E D : Nat) (rs : List Reg) (N m : Nat) : Prog Int := (nt 1).bind fun _ => (forP (fun x _ => nodeE E D rs m x) (pathL N m) ()).bind fun _ => (nt 3).bind fun _ => .ret 0
def treeR (E : Nat) (rs : List Reg) (N m : Nat) : Prog Unit := (nt 5).bind fun _ => forP (fun x _ => nodeL E rs m x) (pathL N m).reverse ()
theorem notes_arbSpin (qo rt : Reg) (s me : Int) : ∀ n : Nat, (arbSpin qo rt s me n).Notes 0
  | 0 => .ret _ _
  | n + 1 => by
    rw [arbSpin_succ]
    refine (notes_regR _ _).bind0 fun x => ?_
    split
    · exact .ret _ _
    · refine (notes_regR _ _).bind0 fun y => ?_
      split
      · exact notes_arbSpin qo rt s me n
      · exact .ret _ _
theorem notes_arbM (n : Nat) (q0 q1 rt : Reg) (side me : Int) : (arbM n q0 q1 rt side me).Notes 0 := by
  unfold arbM
  split <;> exact (notes_regW _ _ _).bind0 fun _ => (notes_regW _ _ _).bind0 fun _ => notes_arbSpin _ _ _ _ _
theorem notes_kesSpin (qo ro : Reg) (s t me : Int) : ∀ n : Nat, (kesSpin qo ro s t me n).Notes 0
  | 0 => .ret _ _
  | n + 1 => by
    unfold kesSpin
    refine (notes_regR _ _).bind0 fun x => ?_
    split
    · exact .ret _ _
    · refine (notes_regR _ _).bind0 fun y => ?_
      split
      · exact .ret _ _
      · exact notes_kesSpin qo ro s t me n
theorem notes_kesM (n : Nat) (q0 q1 r0 r1 : Reg) (side me : Int) : (kesM n q0 q1 r0 r1 side me).Notes 0 := by
  unfold kesM
  split <;> exact (notes_regW _ _ _).bind0 fun _ => (notes_regR _ _).bind0 fun _ => (notes_regW _ _ _).bind0 fun _ => notes_kesSpin _ _ _ _ _ _
theorem notes_nodeE (E D : Nat) (rs : List Reg) (me x : Int) : (nodeE E D rs me x).Notes 0 := by
  unfold nodeE
  split
  · exact notes_kesM _ _ _ _ _ _ _
  · exact notes_arbM _ _ _ _ _ _
theorem notes_nodeL (E : Nat) (rs : List Reg) (me x : Int) : (nodeL E rs me x).Notes 0 := notes_regW _ _ _
end Kv
namespace Go.Proofs.YtbaajjkopdjbgaaGreat
open Go.RowKit Kv
theorem each_le (kind : Int) : 3 ≤ eachK kind ∧ eachK kind ≤ 4 := by unfold eachK; split <;> omega
set_option maxRecDepth 100000 in
theorem treelay_p (alg mode base loc room me : Int) (N : Nat) (rs : List Reg) (w : World) (h1 : 1 ≤ N) (h2 : N ≤ 64) (hl : layM (treeWants (eachK alg) N) N mode base loc = some rs) (hm0 : 0 ≤ me) (hm1 : me < N) :
    Calls Tryz.prog 250 #[.agg #[.int .i64 alg, .int .i64 N, .int .i64 mode, .int .i64 base, .int .i64 loc, .int .i64 room], .int .i64 me] w fun e w' => ∃ A c, e = .returned (.tuple #[.slice A rs.length c, .int .i64 0]) ∧ (rs ≠ [] → ∃ b, A = some ⟨b, 0, none⟩ ∧ w.heap.size ≤ b ∧ b < w'.heap.size ∧ (∀ (i : Nat) u, (rs.flatMap regVals)[i]? = some u → w'.cell? ⟨b, i, none⟩ = some u)) ∧ rs.length ≤ c ∧ c ≤ 9223372036854775807 ∧ Ext w w' := by
  have hW := fun w => twants_p alg N w h1 h2
  have hle := (pow_le (lev_le h2)).2
  have hE := each_le alg
  have hwl : (treeWants (eachK alg) N).length ≤ 1000 := by
    unfold treeWants
    rw [List.length_replicate]
    have := Nat.mul_le_mul hE.2 (show 2 ^ levels (N : Int) - 1 ≤ 63 by omega)
    omega
  rw [show List.replicate (eachK alg * (2 ^ levels (N : Int) - 1)) (⟨-1, 1⟩ : Want) = treeWants (eachK alg) N from rfl] at hW
  generalize treeWants (eachK alg) N = lw at *
  replace hl := Lib.hid hl
  clear hle hE
  have d1 : decide (me < 0) = false := by rw [decide_eq_false_iff_not]; omega
  have d2 : decide ((N : Int) ≤ me) = false := by rw [decide_eq_false_iff_not]; omega
  have hX := Ext.refl w
  have b1 := Blk.new w (.cells #[.int .i64 alg, .int .i64 N, .int .i64 mode, .int .i64 base, .int .i64 loc, .int .i64 room] 23)
  replace hX := hX.alloc (.cells #[.int .i64 alg, .int .i64 N, .int .i64 mode, .int .i64 base, .int .i64 loc, .int .i64 room] 23)
  have c_b1 := b1.cells
  go_enter Tryz.func250, Tryz.ntmps250
  go_wp2_with fail
  generalize w.alloc _ = W at *
  have hXW := hX
  clear hX c_b1
  have hX := (Ext.refl W).drew
  have hS : ∀ w', Ext W w' → (∀ i, w'.cell? ⟨w.heap.size, i, none⟩ = (#[.int .i64 alg, .int .i64 N, .int .i64 mode, .int .i64 base, .int .i64 loc, .int .i64 room] : Array Value)[i]?) := fun w' hx => (b1.ext hx).cells
  go_region_held2 (fun w' => ∀ i, w'.cell? ⟨w.heap.size, i, none⟩ = (#[.int .i64 alg, .int .i64 N, .int .i64 mode, .int .i64 base, .int .i64 loc, .int .i64 room] : Array Value)[i]?) (exact hS _ hX)
    (first
      | (go_at_call 175
         refine (hW _).mono ?_
         rintro e w2 ⟨v2, rfl, hw2, hx⟩
         replace hX := hX.trans hx
         have hz2 := hX.size
         clear hx)
      | (go_at_call 163
         refine (layp_some hl.out _ (hw2.ext (Ext.refl _)) hwl).mono ?_
         rintro e w3 ⟨v3, rfl, hr3, hx⟩
         replace hX := hX.trans hx
         clear hx))
  rename_i hh
  clear hh
  obtain ⟨⟨A, c, rfl, q1, q2, hV⟩, hown⟩ := hr3
  have hR : Hid (rs ≠ [] → ∃ b, A = some ⟨b, 0, none⟩ ∧ w.heap.size ≤ b ∧ b < w3.heap.size ∧ (∀ (i : Nat) u, (rs.flatMap regVals)[i]? = some u → w3.cell? ⟨b, i, none⟩ = some u)) := Lib.hid fun hne => by
    obtain ⟨b, rfl, hb, hcells⟩ := hV (by cases rs with | nil => exact absurd rfl hne | cons r l => simp [regVals])
    exact ⟨b, rfl, Nat.le_trans (Nat.le_trans hXW.size hz2) (hown b rfl), hb, hcells⟩
  have hfh := Lib.hid (hXW.trans hX)
  clear hV hown hz2
  go_wp2_with fail
  first | go_ret2 | go_ret
  exact ⟨_, _, rfl, hR.out, q1, q2, hfh.out⟩
theorem climb_p (B p D : Nat) (S : TS) (kind : Int) (m place : Nat) (me : Int) (rs : List Reg) (A : Option Addr) (c : Nat) (w : World) (h : Plays B w p S) (h1 : 1 ≤ m) (h2 : m ≤ 64) (h3 : place < m) (hlen : rs.length = eachK kind * (2 ^ levels m - 1)) (hc1 : rs.length ≤ c) (hc2 : c ≤ 9223372036854775807)
    (hreg : rs ≠ [] → ∃ b, A = some ⟨b, 0, none⟩ ∧ RegsAt [2, 3, 4] w p b rs) (hall : ∀ r ∈ rs, r.ok ∧ me < r.n ∧ r.told me) (hm0 : 0 ≤ me) (hD : S.left < D) :
    Calls Tryz.prog 91 #[.pointer (some ⟨p, 0, none⟩), .slice A rs.length c, .int .i64 kind, .int .i64 m, .int .i64 place, .int .i64 me] w (Post encU B p w ((forP (fun x _ => nodeE (eachK kind) D rs me x) (pathL m place) ()).run S)) := by
  unfold eachK at *
  by_cases hk : kind = 7
  · rw [if_pos hk] at *
    exact climb_p7 B p D S kind m place me rs A c w h hk h1 h2 h3 hlen hc1 hc2 hreg hall hm0 hD
  · rw [if_neg hk] at *
    exact climb_p3 B p D S kind m place me rs A c w h hk h1 h2 h3 hlen hc1 hc2 hreg hall hm0 hD
theorem down_p (B p : Nat) (S : TS) (kind : Int) (m place : Nat) (me : Int) (rs : List Reg) (A : Option Addr) (c : Nat) (w : World) (h : Plays B w p S) (h1 : 1 ≤ m) (h2 : m ≤ 64) (h3 : place < m) (hlen : rs.length = eachK kind * (2 ^ levels m - 1)) (hc1 : rs.length ≤ c) (hc2 : c ≤ 9223372036854775807)
    (hreg : rs ≠ [] → ∃ b, A = some ⟨b, 0, none⟩ ∧ RegsAt [2, 3, 4] w p b rs) (hall : ∀ r ∈ rs, r.ok ∧ me < r.n ∧ r.told me) (hm0 : 0 ≤ me) :
    Calls Tryz.prog 94 #[.pointer (some ⟨p, 0, none⟩), .slice A rs.length c, .int .i64 kind, .int .i64 m, .int .i64 place, .int .i64 me] w (Post encU B p w ((forP (fun x _ => nodeL (eachK kind) rs me x) (pathL m place).reverse ()).run S)) := by
  unfold eachK at *
  by_cases hk : kind = 7
  · rw [if_pos hk] at *
    exact down_p7 B p S kind m place me rs A c w h hk h1 h2 h3 hlen hc1 hc2 hreg hall hm0
  · rw [if_neg hk] at *
    exact down_p3 B p S kind m place me rs A c w h hk h1 h2 h3 hlen hc1 hc2 hreg hall hm0
set_option maxRecDepth 100000 in
set_option maxHeartbeats 1000000 in
theorem treeacq_p (B p N D : Nat) (S : TS) (alg mode base loc room : Int) (m : Nat) (rs : List Reg) (w : World) (h : Plays B w p S) (h1 : 1 ≤ N) (h2 : N ≤ 64) (hm1 : m < N) (hl : layM (treeWants (eachK alg) N) N mode base loc = some rs)
    (hall : ∀ r ∈ rs, r.ok ∧ (m : Int) < r.n ∧ r.told m) (hD : S.left < D) (hn0 : S.nts.length ≤ 100000) :
    Calls Tryz.prog 195 #[.pointer (some ⟨p, 0, none⟩), .agg #[.int .i64 alg, .int .i64 N, .int .i64 mode, .int .i64 base, .int .i64 loc, .int .i64 room], .int .i64 m] w (Post encI B p w ((treeA (eachK alg) D rs N m).run S)) := by
  have hlen := layM_len hl
  unfold treeWants at hlen
  rw [List.length_replicate] at hlen
  generalize hR : Post encI B p w ((treeA (eachK alg) D rs N m).run S) = R
  have hO : Owes R encI B p w ((treeA (eachK alg) D rs N m).run S) := hR ▸ owes _ _ _ _ _
  clear hR
  have hK := Keep.refl [2, 3, 4] B p w
  have hP := h
  have b1 := hP.held (.cells #[.int .i64 alg, .int .i64 N, .int .i64 mode, .int .i64 base, .int .i64 loc, .int .i64 room] 23)
  replace hK := hK.trans (Keep.alloc (.cells #[.int .i64 alg, .int .i64 N, .int .i64 mode, .int .i64 base, .int .i64 loc, .int .i64 room] 23) hP.lt hP.le)
  replace hP := hP.alloc (.cells #[.int .i64 alg, .int .i64 N, .int .i64 mode, .int .i64 base, .int .i64 loc, .int .i64 room] 23)
  have c_b1 := b1.cells
  clear h
  unfold treeA at hO
  have hlh := Lib.hid hl
  have hlenh := Lib.hid hlen
  have hallh := Lib.hid hall
  clear hl hlen hall
  go_enter Tryz.func195, Tryz.ntmps195
  go_wp2_with fail
  refine (treelay_p alg mode base loc room m N rs _ h1 h2 hlh.out (by omega) (by omega)).mono ?_
  rintro e w1 ⟨A, c, rfl, hR, q1, q2, hx⟩
  have hreg : rs ≠ [] → ∃ b, A = some ⟨b, 0, none⟩ ∧ RegsAt [2, 3, 4] w1 p b rs := fun hne => by
    obtain ⟨b, e1, hge, hb, hcells⟩ := hR hne
    exact ⟨b, e1, hb, hP.fresh hx hge, hcells⟩
  replace hK := hK.trans (Keep.of_ext hx hP.lt hP.le)
  replace b1 := b1.ext hx hP.lt
  replace hP := hP.ext hx
  clear hx hR c_b1
  generalize w.heap.size = z at *
  go_wp2_with fail
  refine tstepN (notes_nt 1) hO hK (noteO hP (by unfold maxAns; omega)) (fun _ h => ⟨rfl, h⟩) ?_
  clear hO hK hP
  intro u S1 w2 hlf _ hnn hP hk hK hO
  replace hD := Nat.lt_of_le_of_lt hlf hD
  replace hn0 : S1.nts.length ≤ 100001 := by omega
  have hreg2 : rs ≠ [] → ∃ b, A = some ⟨b, 0, none⟩ ∧ RegsAt [2, 3, 4] w2 p b rs := fun hne => by
    obtain ⟨b, e1, e2⟩ := hreg hne
    exact ⟨b, e1, e2.keep hk⟩
  replace b1 := b1.keep hk
  clear hk hlf hreg
  have c_b1 := b1.cells
  have hOh := Lib.hid hO
  clear hO
  go_wp2_with fail
  refine tstepN (notes_forP (fun _ _ => notes_nodeE _ _ _ _ _) _ _) hOh.out hK (climb_p B p D S1 alg N m m rs A c w2 hP h1 h2 hm1 hlenh.out q1 q2 hreg2 hallh.out (by omega) hD) (fun _ h => ⟨rfl, h⟩) ?_
  clear hOh hK hP
  intro u S2 w3 _ _ hnn hP hk hK hO
  replace hn0 : S2.nts.length ≤ 100001 := by omega
  clear hk hreg2 c_b1
  go_wp2_with fail
  refine tstepN (notes_nt 3) hO hK (noteO hP (by unfold maxAns; omega)) (fun _ h => ⟨rfl, h⟩) ?_
  clear hO hK hP
  intro u S3 w4 _ _ _ hP _ hK hO
  have hf := hO.done (v := (0 : Int)) hP hK
  clear hO hP hK
  go_wp2_with fail
  first | exact hf | (go_ret; exact hf)
set_option maxRecDepth 100000 in
set_option maxHeartbeats 1000000 in
theorem treerel_p (B p N : Nat) (S : TS) (alg mode base loc room : Int) (m : Nat) (rs : List Reg) (w : World) (h : Plays B w p S) (h1 : 1 ≤ N) (h2 : N ≤ 64) (hm1 : m < N) (hl : layM (treeWants (eachK alg) N) N mode base loc = some rs)
    (hall : ∀ r ∈ rs, r.ok ∧ (m : Int) < r.n ∧ r.told m) (hn0 : S.nts.length ≤ 100000) :
    Calls Tryz.prog 196 #[.pointer (some ⟨p, 0, none⟩), .agg #[.int .i64 alg, .int .i64 N, .int .i64 mode, .int .i64 base, .int .i64 loc, .int .i64 room], .int .i64 m] w (Post encU B p w ((treeR (eachK alg) rs N m).run S)) := by
  have hlen := layM_len hl
  unfold treeWants at hlen
  rw [List.length_replicate] at hlen
  generalize hR : Post encU B p w ((treeR (eachK alg) rs N m).run S) = R
  have hO : Owes R encU B p w ((treeR (eachK alg) rs N m).run S) := hR ▸ owes _ _ _ _ _
  clear hR
  have hK := Keep.refl [2, 3, 4] B p w
  have hP := h
  have b1 := hP.held (.cells #[.int .i64 alg, .int .i64 N, .int .i64 mode, .int .i64 base, .int .i64 loc, .int .i64 room] 23)
  replace hK := hK.trans (Keep.alloc (.cells #[.int .i64 alg, .int .i64 N, .int .i64 mode, .int .i64 base, .int .i64 loc, .int .i64 room] 23) hP.lt hP.le)
  replace hP := hP.alloc (.cells #[.int .i64 alg, .int .i64 N, .int .i64 mode, .int .i64 base, .int .i64 loc, .int .i64 room] 23)
  have c_b1 := b1.cells
  clear h
  unfold treeR at hO
  have hlh := Lib.hid hl
  have hlenh := Lib.hid hlen
  have hallh := Lib.hid hall
  clear hl hlen hall
  go_enter Tryz.func196, Tryz.ntmps196
  go_wp2_with fail
  refine (treelay_p alg mode base loc room m N rs _ h1 h2 hlh.out (by omega) (by omega)).mono ?_
  rintro e w1 ⟨A, c, rfl, hR, q1, q2, hx⟩
  have hreg : rs ≠ [] → ∃ b, A = some ⟨b, 0, none⟩ ∧ RegsAt [2, 3, 4] w1 p b rs := fun hne => by
    obtain ⟨b, e1, hge, hb, hcells⟩ := hR hne
    exact ⟨b, e1, hb, hP.fresh hx hge, hcells⟩
  replace hK := hK.trans (Keep.of_ext hx hP.lt hP.le)
  replace b1 := b1.ext hx hP.lt
  replace hP := hP.ext hx
  clear hx hR c_b1
  generalize w.heap.size = z at *
  go_wp2_with fail
  refine tstepN (notes_nt 5) hO hK (noteO hP (by unfold maxAns; omega)) (fun _ h => ⟨rfl, h⟩) ?_
  clear hO hK hP
  intro u S1 w2 _ _ _ hP hk hK hO
  have hreg2 : rs ≠ [] → ∃ b, A = some ⟨b, 0, none⟩ ∧ RegsAt [2, 3, 4] w2 p b rs := fun hne => by
    obtain ⟨b, e1, e2⟩ := hreg hne
    exact ⟨b, e1, e2.keep hk⟩
  replace b1 := b1.keep hk
  clear hk hreg
  have c_b1 := b1.cells
  have hOh := Lib.hid hO
  clear hO
  go_wp2_with fail
  refine tlast hOh.out hK (down_p B p S1 alg N m m rs A c w2 hP h1 h2 hm1 hlenh.out q1 q2 hreg2 hallh.out (by omega)) (fun _ h => ⟨rfl, h⟩) ?_
  clear hOh hK hP
  intro u S2 w3 hr hP hk hK hO
  have hf := hO.done hP hK
  clear hO hP hK hr hk hreg2 c_b1
  go_wp2_with fail
  first | exact hf | (refine bodyPost_ret (results_none rfl _ _ _) rfl ?_; exact hf)
end Go.Proofs.YtbaajjkopdjbgaaGreat
/-
  A lock that adapts: plain mathematics.
-/
namespace Kv
open Go Go.RowKit
/-- The wants of so many splitters. -/
def renW : Nat → Nat → List Want
  | 0, _ => []
  | k + 1, N => renW k N ++ [⟨-1, (N : Int)⟩, ⟨-1, 1⟩]
theorem renW_len (N : Nat) : ∀ k : Nat, (renW k N).length = 2 * k
  | 0 => rfl
  | k + 1 => by
    rw [renW, List.length_append, renW_len N k]
    rfl
theorem renW_mem (N : Nat) : ∀ (k : Nat) {q : Want}, q ∈ renW k N → q.wr = -1 ∧ (q.top = N ∨ q.top = 1)
  | 0, q, h => by simp [renW] at h
  | k + 1, q, h => by
    rw [renW, List.mem_append] at h
    rcases h with h | h
    · exact renW_mem N k h
    · simp only [List.mem_cons, List.not_mem_nil, or_false] at h
      rcases h with rfl | rfl
      · exact ⟨rfl, .inl rfl⟩
      · exact ⟨rfl, .inr rfl⟩
def adWants (N : Nat) : List Want := renW (triN N) N ++ treeWants 3 (triN N)
theorem triN_le {N : Nat} (h1 : 1 ≤ N) (h2 : N ≤ 8) : 1 ≤ triN N ∧ triN N ≤ 36 := by
  have a := triN_mono h1
  have b := triN_mono h2
  rw [show triN 1 = 1 from by decide] at a
  rw [show triN 8 = 36 from by decide] at b
  exact ⟨a, b⟩
theorem adWants_len {N : Nat} : (adWants N).length = 2 * triN N + 3 * (2 ^ levels (triN N) - 1) := by
  rw [adWants, List.length_append, renW_len, treeWants, List.length_replicate]
theorem adTree_le {N : Nat} (h1 : 1 ≤ N) (h2 : N ≤ 8) : 3 * (2 ^ levels (triN N : Nat) - 1) ≤ 189 := by
  obtain ⟨_, q2⟩ := triN_le h1 h2
  obtain ⟨p1, p2⟩ := pow_le (lev_le (m := triN N) (by omega))
  omega
theorem adWants_mem {N : Nat} {q : Want} (h : q ∈ adWants N) : q.wr = -1 := by
  rw [adWants, List.mem_append] at h
  rcases h with h | h
  · exact (renW_mem _ _ h).1
  · rw [treeWants, List.mem_replicate] at h
    rw [h.2]
def adClimb (D : Nat) (T : List Reg) (M : Nat) (me name : Int) : Prog Unit := if 0 ≤ name ∧ name < M then forP (fun x _ => nodeE 3 D T me x) (pathL M name.toNat) () else .ret ()
def adDown (T : List Reg) (M : Nat) (me name : Int) : Prog Unit := if 0 ≤ name ∧ name < M then forP (fun x _ => nodeL 3 T me x) (pathL M name.toNat).reverse () else .ret ()
def adA (D : Nat) (rs : List Reg) (own : Int) (N : Nat) (me : Int) : Prog Int :=
  (nt 1).bind fun _ => (getM (rs.take (2 * triN N)) N own me).bind fun name => (adClimb D (rs.drop (2 * triN N)) (triN N) me name).bind fun _ => (nt 3).bind fun _ => .ret 0
def adR (rs : List Reg) (own : Int) (N : Nat) (me : Int) : Prog Unit :=
  (nt 5).bind fun _ => (gt own).bind fun had => adDown (rs.drop (2 * triN N)) (triN N) me (wrap64 (had - 1))
theorem notes_passM (x y : Reg) (me : Int) : (passM x y me).Notes 0 := by
  unfold passM
  refine (notes_regW _ _ _).bind0 fun _ => (notes_regR _ _).bind0 fun v => ?_
  split
  · first | exact .ret _ _ | skip
  · refine (notes_regW _ _ _).bind0 fun _ => (notes_regR _ _).bind0 fun z => ?_
    split <;> exact .ret _ _
theorem notes_nameM (l : List Reg) (N : Nat) (me : Int) : ∀ f x y : Nat, (nameM l N me f x y).Notes 0
  | 0, _, _ => .ret _ _
  | f + 1, x, y => by
    rw [show nameM l N me (f + 1) x y = ((passM (regAt l (2 * (triName x y : Int))) (regAt l (2 * (triName x y : Int) + 1)) me).bind fun told =>
      if told = 0 then .ret (triName x y : Int) else if told = 1 then nameM l N me f (x + 1) y else nameM l N me f x (y + 1)) from rfl]
    refine (notes_passM _ _ _).bind0 fun told => ?_
    split
    · exact .ret _ _
    · split
      · exact notes_nameM l N me f (x + 1) y
      · exact notes_nameM l N me f x (y + 1)
theorem notes_getM (l : List Reg) (N : Nat) (own me : Int) : (getM l N own me).Notes 0 := by
  unfold getM
  refine (notes_gt _).bind0 fun had => ?_
  split
  · exact .ret _ _
  · exact (notes_nameM _ _ _ _ _ _).bind0 fun name => (notes_st _ _).bind0 fun _ => .ret _ _
theorem notes_adClimb (D : Nat) (T : List Reg) (M : Nat) (me name : Int) : (adClimb D T M me name).Notes 0 := by
  unfold adClimb
  split
  · exact notes_forP (fun _ _ => notes_nodeE _ _ _ _ _) _ _
  · exact .ret _ _
end Kv
namespace Go.Proofs.YtbaajjkopdjbgaaGreat
open Go.RowKit Kv
theorem each6 : eachK 6 = 3 := by unfold eachK; rw [if_neg (by decide)]
set_option maxRecDepth 100000 in
set_option maxHeartbeats 1000000 in
theorem renwants_p (N : Nat) (w : World) (h1 : 1 ≤ N) (h2 : N ≤ 8) :
    Calls Tryz.prog 165 #[.int .i64 N] w fun e w' => ∃ v, e = .returned v ∧ w'.ownsRow w.heap.size 179 2 v (2 * triN N) ((renW (triN N) N).flatMap wantVals) ∧ Ext w w' := by
  have e1 : min (max (N : Int) 1) 8 = N := by omega
  have hS := fun w => gsize_p N (by omega) w
  have hW := fun w => swants_p N w
  rw [show nM (N : Int) = N from nM_id (by omega) (by omega)] at hW
  obtain ⟨q1, q2⟩ := triN_le h1 h2
  generalize triN N = M at *
  go_enter Tryz.func165, Tryz.ntmps165
  go_wp2_with fail
  refine (hS _).mono ?_
  rintro e w' ⟨rfl, rfl⟩
  go_wp2_with fail
  go_loopw [3, 9] (fun v i wr => ∃ j : Nat, i = .int .i64 j ∧ j ≤ M ∧ wr.ownsRow w.heap.size 179 2 v (2 * j) ((renW j N).flatMap wantVals) ∧ Ext w wr) (fun _ i _ => M - (intOf i).toNat)
  case atStart => exact ⟨0, rfl, by omega, World.ownsRow_nil _ _ _ _, Ext.refl _⟩
  case round =>
    obtain ⟨j, rfl, hj, hown, hX⟩ := hrel
    by_cases hl : j < M
    · go_wp2_with fail
      refine (hW _).mono ?_
      rintro e w3 ⟨v2, rfl, hr2, hx3⟩
      replace hown := row_ext hown hx3
      replace hX := hX.trans hx3
      obtain ⟨A, c, rfl, r1, r2, hV⟩ := hr2
      obtain ⟨b, rfl, hb, hc⟩ := hV (by simp [wantVals])
      clear hV hx3
      go_wp2_with (at_builtin; refine append_recs info_want Tryz.underlying102 rfl (by decide) (by decide) rfl _ _ rfl _ (2 * j) _ (([⟨-1, (N : Int)⟩, ⟨-1, 1⟩] : List Want).flatMap wantVals) ⟨b, 0, none⟩ 2 c hX hown rfl rfl rfl (fun i u hu => by rw [Addr.add_lit, Nat.zero_add]; exact hc i u hu) (fun u hu => by simp [wantVals] at hu; rcases hu with rfl | rfl | rfl | rfl <;> rfl) (by omega) (by omega) ?_)
      intro v' w' ho hx'
      have hoh : Hid (w'.ownsRow w.heap.size 179 2 v' (2 * (j + 1)) ((renW (j + 1) N).flatMap wantVals)) := Lib.hid (by
        rw [renW, List.flatMap_append]; exact ho)
      clear hown ho hc
      go_wp2_with fail
      refine ⟨⟨j + 1, by go_num, by omega, hoh.out, hx'⟩, ?_⟩
      simp [intOf]; omega
    · obtain rfl : j = M := by omega
      have hownh := Lib.hid hown
      clear hown
      go_wp2_with fail
      go_ret
      exact ⟨_, rfl, hownh.out, hX⟩
theorem renwants_at {N : Nat} {w : World} {B : Nat} {v : Value} (h : w.ownsRow B 179 2 v (2 * triN N) ((renW (triN N) N).flatMap wantVals)) : WantsAt w v (renW (triN N) N) := by
  have := Recs.of_row h
  unfold WantsAt
  rw [renW_len]
  exact this
theorem tree_pos {m : Nat} (h1 : 2 ≤ m) (h2 : m ≤ 36) : 3 * (2 ^ levels (m : Nat) - 1) ≠ 0 := by
  have : ∀ m : Nat, m < 37 → 2 ≤ m → 3 * (2 ^ levels (m : Nat) - 1) ≠ 0 := by decide +kernel
  exact this m (by omega) h1
set_option maxRecDepth 100000 in
theorem twants1_p (w : World) : Calls Tryz.prog 175 #[.int .i64 6, .int .i64 1] w fun e w' => e = .returned (.slice none 0 0) ∧ Ext w w' := by
  have hlv := fun w => levels_p (1 : Nat) (by omega) w
  rw [show levels ((1 : Nat) : Int) = 0 from by decide] at hlv
  have hsh : Op.shift .shl .i64 1 .i64 0 = pure (.int .i64 1) := by
    rw [Go.shift_shl_i64 (x := 1) (y := 0) (yk := .i64) (by omega) (by omega)]
    rfl
  go_enter Tryz.func175, Tryz.ntmps175
  go_wp2_with fail
  refine (hlv _).mono ?_
  rintro e w' ⟨rfl, rfl⟩
  clear hlv
  go_wp2_with fail
  go_loopw [5, 16] (fun v i wr => i = .int .i64 0 ∧ v = .slice none 0 0 ∧ Ext w wr) (fun _ _ _ => 0)
  case atStart => exact ⟨rfl, rfl, Ext.refl _⟩
  case round =>
    obtain ⟨rfl, rfl, hX⟩ := hrel
    go_wp2_with fail
    go_ret
    exact ⟨rfl, hX⟩
set_option maxRecDepth 100000 in
set_option maxHeartbeats 1000000 in
theorem adwants_p (N : Nat) (w : World) (h1 : 1 ≤ N) (h2 : N ≤ 8) :
    Calls Tryz.prog 98 #[.int .i64 N] w fun e w' => ∃ v, e = .returned v ∧ WantsAt w' v (adWants N) ∧ Ext w w' := by
  have e1 : min (max (N : Int) 1) 8 = N := by omega
  have hS := fun w => gsize_p N (by omega) w
  obtain ⟨q1, q2⟩ := triN_le h1 h2
  have ht := adTree_le h1 h2
  have hW := fun w => twants_p 6 (triN N) w q1 (by omega)
  rw [each6] at hW
  have hR := fun w => renwants_p N w h1 h2
  have hlen := adWants_len (N := N)
  have had : adWants N = renW (triN N) N ++ List.replicate (3 * (2 ^ levels (triN N : Nat) - 1)) (⟨-1, 1⟩ : Want) := rfl
  have hLh := Lib.hid (show triN N ≠ 1 → 3 * (2 ^ levels (triN N : Nat) - 1) ≠ 0 from fun h => tree_pos (by omega) q2)
  have hL1 := Lib.hid (show triN N = 1 → 3 * (2 ^ levels (triN N : Nat) - 1) = 0 from fun h => by rw [h]; decide)
  generalize 3 * (2 ^ levels (triN N : Nat) - 1) = L at *
  generalize hl1 : renW (triN N) N = l1 at *
  generalize triN N = M at *
  have hlenh := Lib.hid hlen
  have hadh := Lib.hid had
  clear hlen had
  go_enter Tryz.func98, Tryz.ntmps98
  go_wp2_with fail
  refine (hR _).mono ?_
  rintro e w2 ⟨v, rfl, hown, hX⟩
  go_wp2_with fail
  refine (hS _).mono ?_
  rintro e w' ⟨rfl, rfl⟩
  go_wp2_with fail
  by_cases hM1 : M = 1
  · subst hM1
    obtain rfl : L = 0 := hL1.out rfl
    clear hW
    refine (twants1_p _).mono ?_
    rintro e w3 ⟨rfl, hx3⟩
    replace hown := row_ext hown hx3
    replace hX := hX.trans hx3
    clear hx3
    go_wp2_with (at_builtin; refine append_none info_want Tryz.underlying102 rfl _ _ rfl w.heap.size _ (2 * 1) _ hown rfl rfl ?_)
    have hf : Hid (WantsAt w3 v (adWants N)) := Lib.hid (by
      have := Recs.of_row hown
      unfold WantsAt
      rw [hlenh.out, hadh.out]
      simpa using this)
    clear hown
    go_wp2_with fail
    go_ret
    exact ⟨_, rfl, hf.out, hX⟩
  · refine (hW _).mono ?_
    rintro e w3 ⟨v2, rfl, hr2, hx3⟩
    replace hown := row_ext hown hx3
    replace hX := hX.trans hx3
    clear hx3
    obtain ⟨A, c, rfl, r1, r2, hV⟩ := hr2
    rw [List.length_replicate] at *
    have hfl : ((List.replicate L (⟨-1, 1⟩ : Want)).flatMap wantVals).length = L * 2 := by
      rw [List.length_flatMap]
      simp [wantVals]
    obtain ⟨b, rfl, hb, hc⟩ := hV (by
      have hL0 := hLh.out hM1
      cases L with
      | zero => exact absurd rfl hL0
      | succ L => simp [wantVals, List.replicate])
    clear hV
    go_wp2_with (at_builtin; refine append_recs info_want Tryz.underlying102 rfl (by decide) (by decide) rfl _ _ rfl _ (2 * M) _ ((List.replicate L (⟨-1, 1⟩ : Want)).flatMap wantVals) ⟨b, 0, none⟩ L c hX hown rfl rfl hfl (fun i u hu => by rw [Addr.add_lit, Nat.zero_add]; exact hc i u hu) (fun u hu => by
      obtain ⟨q, _, hq⟩ := List.mem_flatMap.1 hu
      simp [wantVals] at hq; rcases hq with rfl | rfl <;> rfl) (by omega) (by omega) ?_)
    intro v' w' ho hx'
    have hf : Hid (WantsAt w' v' (adWants N)) := Lib.hid (by
      have := Recs.of_row ho
      unfold WantsAt
      rw [hlenh.out, hadh.out, List.flatMap_append]
      exact this)
    clear hown ho hc
    go_wp2_with fail
    go_ret
    exact ⟨_, rfl, hf.out, hx'⟩
end Go.Proofs.YtbaajjkopdjbgaaGreat
/-
  make([]int, n): a row of noughts.
-/
namespace Kv
/-- So many noughts. -/
def zeros (n : Nat) : List Int := List.replicate n 0
end Kv
namespace Go.Proofs.YtbaajjkopdjbgaaGreat
open Go.RowKit Kv
theorem make_ints (l : Int) (k : Nat) (hl : l = k) (hk : k ≤ 100000) (w : World) :
    (Instr.makeSlice 25 (.int .i64 l) (.int .i64 l)).run Tryz.prog w = .ok (.slice (some ⟨w.heap.size, 0, none⟩) k k) (w.alloc (.cells ((zeros k).map (Value.int .i64)).toArray 3)) := by
  subst hl
  obtain ⟨i0, hi, hz0, hz1, hz2⟩ := info_parts info_int
  have hr := run_makeSlice (P := Tryz.prog) w 25 3 i0 (.int .i64 0) Tryz.underlying25 hi hz0 .i64 .i64 k k (by omega) (by omega) (by rw [hz1]; simp; omega) (by rw [hz2]; omega) (by omega)
  rw [Int.toNat_natCast, hz1, Nat.mul_one] at hr
  have he : madeCells (Value.int .i64 0).cells k = ((zeros k).map (Value.int .i64)).toArray := by
    unfold zeros madeCells
    apply Array.ext'
    rw [List.map_replicate]
    apply List.ext_getElem?
    intro j
    by_cases hj : j < k
    · simp [hj, Nat.mod_one, Value.cells]
    · simp [hj]
  rw [hr, he]
end Go.Proofs.YtbaajjkopdjbgaaGreat
/-
  Plain mathematics: which locals an operation sets.
-/
namespace Kv
/-- An operation that sets locals from lo on, below hi, alone. -/
inductive Prog.Sets {α : Type} (lo hi : Int) : Prog α → Prop
  | ret (a : α) : Sets lo hi (.ret a)
  | read (c : Int) {k : Int → Prog α} : (∀ x, Sets lo hi (k x)) → Sets lo hi (.read c k)
  | write (c v : Int) {k : Unit → Prog α} : Sets lo hi (k ()) → Sets lo hi (.write c v k)
  | get (i : Int) {k : Int → Prog α} : (∀ x, Sets lo hi (k x)) → Sets lo hi (.get i k)
  | set (i v : Int) {k : Unit → Prog α} : lo ≤ i → i < hi → Sets lo hi (k ()) → Sets lo hi (.set i v k)
  | note (m : Int) {k : Unit → Prog α} : Sets lo hi (k ()) → Sets lo hi (.note m k)
theorem Prog.Sets.bind {α β : Type} {lo hi : Int} {p : Prog α} {f : α → Prog β} (h : p.Sets lo hi) (hf : ∀ a, (f a).Sets lo hi) : (p.bind f).Sets lo hi := by
  induction h with
  | ret a => exact hf a
  | read c _ ih => exact .read c fun x => ih x
  | write c v _ ih => exact .write c v ih
  | get c _ ih => exact .get c fun x => ih x
  | set c v h1 h2 _ ih => exact .set c v h1 h2 ih
  | note m _ ih => exact .note m ih
theorem Prog.Sets.mono {α : Type} {lo hi lo' hi' : Int} {p : Prog α} (h : p.Sets lo hi) (h1 : lo' ≤ lo) (h2 : hi ≤ hi') : p.Sets lo' hi' := by
  induction h with
  | ret a => exact .ret a
  | read c _ ih => exact .read c fun x => ih x
  | write c v _ ih => exact .write c v ih
  | get c _ ih => exact .get c fun x => ih x
  | set c v h3 h4 _ ih => exact .set c v (by omega) (by omega) ih
  | note m _ ih => exact .note m ih
/-- All other locals stay. -/
theorem Prog.Sets.got {α : Type} {lo hi i : Int} {p : Prog α} (h : p.Sets lo hi) (hi2 : i < lo ∨ hi ≤ i) : ∀ S : TS, (p.run S).2.got i = S.got i := by
  induction h with
  | ret a => intro S; rfl
  | read c _ ih =>
    intro S
    simp only [Prog.run]
    cases S.next with
    | none => rfl
    | some v => exact (ih v _).trans rfl
  | write c v _ ih =>
    intro S
    simp only [Prog.run]
    cases S.next with
    | none => rfl
    | some _ => exact (ih _).trans rfl
  | get c _ ih => intro S; exact ih _ _
  | set j v h1 h2 _ ih =>
    intro S
    refine (ih (S.upd j v)).trans ?_
    unfold TS.got TS.upd
    split
    · rfl
    · split
      · simp only
        rw [if_neg (by omega)]
      · rfl
  | note m _ ih => intro S; exact (ih _).trans rfl
theorem sets_rd (lo hi c : Int) : (rd c).Sets lo hi := .read c fun x => .ret x
theorem sets_wr (lo hi c v : Int) : (wr c v).Sets lo hi := .write c v (.ret ())
theorem sets_gt (lo hi c : Int) : (gt c).Sets lo hi := .get c fun x => .ret x
theorem sets_st {lo hi c : Int} (v : Int) (h1 : lo ≤ c) (h2 : c < hi) : (st c v).Sets lo hi := .set c v h1 h2 (.ret ())
theorem sets_forP {σ : Type} {lo hi : Int} {T : Int → σ → Prog σ} : ∀ (l : List Int), (∀ a ∈ l, ∀ x, (T a x).Sets lo hi) → ∀ x : σ, (forP T l x).Sets lo hi
  | [], _, x => .ret x
  | a :: l, h, x => (h a (List.mem_cons_self ..) x).bind fun y => sets_forP l (fun b hb => h b (List.mem_cons_of_mem _ hb)) y
theorem ranks_mem {but : Int} : ∀ (n : Nat) (i : Int) {a : Int}, a ∈ ranksFrom but n i → i ≤ a ∧ a < i + n ∧ a ≠ but
  | 0, i, a, h => by cases h
  | n + 1, i, a, h => by
    unfold ranksFrom at h
    split at h
    · have := ranks_mem n (i + 1) h
      omega
    · rcases List.mem_cons.1 h with rfl | h
      · omega
      · have := ranks_mem n (i + 1) h
        omega
theorem otherM_bd (v : Int) : 0 ≤ otherM v ∧ otherM v ≤ 1 := by unfold otherM; split <;> omega
theorem bitM_bd (v : Int) : 0 ≤ bitM v ∧ bitM v ≤ 1 := by unfold bitM; split <;> omega
theorem sets_trompW (b l v : Int) : (trompW b l v).Sets l (l + 4) := by
  refine (sets_gt _ _ _).bind fun x => ?_
  split
  · exact .ret _
  · refine (sets_wr _ _ _ _).bind fun _ => (sets_st _ (by omega) (by omega)).bind fun _ => (sets_gt _ _ _).bind fun _ => (sets_rd _ _ _).bind fun _ => ?_
    split
    · exact (sets_wr _ _ _ _).bind fun _ => sets_st _ (by omega) (by omega)
    · exact .ret _
theorem sets_trompR3 (b l x : Int) : (trompR3 b l x).Sets l (l + 4) := by
  refine (sets_rd _ _ _).bind fun _ => (sets_st _ (by omega) (by omega)).bind fun _ => (sets_rd _ _ _).bind fun _ => (sets_gt _ _ _).bind fun _ => ?_
  split
  · exact sets_gt _ _ _
  · exact (sets_rd _ _ _).bind fun _ => (sets_st _ (by omega) (by omega)).bind fun _ => .ret _
theorem sets_trompR2 (b l x : Int) : (trompR2 b l x).Sets l (l + 4) := by
  refine (sets_rd _ _ _).bind fun _ => (sets_gt _ _ _).bind fun _ => ?_
  split
  · exact sets_trompR3 _ _ _
  · exact (sets_gt _ _ _).bind fun _ => (sets_wr _ _ _ _).bind fun _ => (sets_st _ (by omega) (by omega)).bind fun _ => sets_trompR3 _ _ _
theorem sets_trompR (b l : Int) : (trompR b l).Sets l (l + 4) := by
  refine (sets_rd _ _ _).bind fun _ => (sets_gt _ _ _).bind fun _ => ?_
  split
  · exact sets_gt _ _ _
  · exact (sets_rd _ _ _).bind fun _ => sets_trompR2 _ _ _
theorem sets_slotsW (b l v : Int) : (slotsW b l v).Sets l (l + 18) := by
  refine ((sets_trompR _ _).mono (by omega) (by omega)).bind fun y => (sets_gt _ _ _).bind fun z => (sets_wr _ _ _ _).bind fun _ => ?_
  have := otherM_bd y
  refine (sets_st _ (by omega) (by omega)).bind fun _ => ((sets_trompW _ _ _).mono (by omega) (by omega)).bind fun _ => (sets_trompW _ _ _).mono (by omega) (by omega)
theorem sets_slotsR (b l : Int) : (slotsR b l).Sets l (l + 18) := by
  refine ((sets_trompR _ _).mono (by omega) (by omega)).bind fun y => ((sets_trompW _ _ _).mono (by omega) (by omega)).bind fun _ => ?_
  have := bitM_bd y
  exact ((sets_trompR _ _).mono (by omega) (by omega)).bind fun _ => sets_rd _ _ _
/-- The numbers of a table's slots. -/
theorem tells_bd {k a b : Int} (ha : 0 ≤ a) (ha2 : a < k) (hb : 0 ≤ b) (hb2 : b < k) (hab : a ≠ b) : 0 ≤ tellsM k a b ∧ tellsM k a b < k * k := by
  unfold tellsM
  have h1 : a * (k - 1) ≤ (k - 1) * (k - 1) := Int.mul_le_mul_of_nonneg_right (by omega) (by omega)
  have h0 : 0 ≤ a * (k - 1) := Int.mul_nonneg ha (by omega)
  have h2 : (k - 1) * (k - 1) = k * k - 2 * k + 1 := by
    rw [Int.sub_mul, Int.mul_sub, Int.mul_one, Int.one_mul]; omega
  split
  · omega
  · rename_i h
    by_cases e : a = k - 1
    · omega
    · have h3 : a * (k - 1) ≤ (k - 2) * (k - 1) := Int.mul_le_mul_of_nonneg_right (by omega) (by omega)
      have h4 : (k - 2) * (k - 1) = k * k - 3 * k + 2 := by
        rw [Int.sub_mul, Int.mul_sub, Int.mul_one]; omega
      omega
theorem rankM_bd {n w me : Int} (hw : 0 ≤ w) (hw2 : w < n) (hm : 0 ≤ me) (hm2 : me < n) (h : me ≠ w) : 0 ≤ rankM w me ∧ rankM w me < n - 1 := by
  unfold rankM
  split <;> omega
theorem sets_tableR {b l n w top me : Int} (hw : 0 ≤ w) (hw2 : w < n) (hm : 0 ≤ me) (hm2 : me < n) : (tableR b l n w top me).Sets l (l + (2 + 18 * ((n - 1) * (n - 1)))) := by
  unfold tableR
  split
  · exact sets_gt _ _ _
  · rename_i h
    obtain ⟨r1, r2⟩ := rankM_bd hw hw2 hm hm2 h
    have hk : n - 1 ≤ (n - 1) * (n - 1) := by
      have := Int.mul_le_mul_of_nonneg_right (show 1 ≤ n - 1 by omega) (show 0 ≤ n - 1 by omega)
      omega
    refine ((sets_slotsR _ _).mono (by omega) (by omega)).bind fun x => (sets_forP _ (fun i hi y => ?_) _).bind fun x => (sets_forP _ (fun i hi y => ?_) _).bind fun _ => .ret _
    · obtain ⟨i1, i2, i3⟩ := ranks_mem _ _ hi
      obtain ⟨t1, t2⟩ := tells_bd (k := n - 1) (a := i) (b := rankM w me) i1 (by omega) r1 r2 i3
      exact ((sets_slotsR _ _).mono (by omega) (by omega)).bind fun _ => .ret _
    · obtain ⟨i1, i2, i3⟩ := ranks_mem _ _ hi
      obtain ⟨t1, t2⟩ := tells_bd (k := n - 1) (a := rankM w me) (b := i) r1 r2 i1 (by omega) (fun e => i3 e.symm)
      exact (sets_slotsW _ _ _).mono (by omega) (by omega)
end Kv
/-
  What the laws of locks share: whether registers can be laid, and a thread by any number.
-/
namespace Go.Proofs.YtbaajjkopdjbgaaGreat
open Go.RowKit Kv
theorem may_r (va : Value) (l : List Want) (alg n mode base loc room : Int) (w : World) (h : WantsAt w va l) (hlen : l.length ≤ 1000) :
    Calls Tryz.prog 99 #[va, .agg #[.int .i64 alg, .int .i64 n, .int .i64 mode, .int .i64 base, .int .i64 loc, .int .i64 room]] w fun e w' => e = .returned (.bool (layM l n mode base loc).isSome) ∧ Ext w w' := by
  have hX := Ext.refl w
  have b1 := Blk.new w (.cells #[.int .i64 alg, .int .i64 n, .int .i64 mode, .int .i64 base, .int .i64 loc, .int .i64 room] 23)
  replace hX := hX.alloc (.cells #[.int .i64 alg, .int .i64 n, .int .i64 mode, .int .i64 base, .int .i64 loc, .int .i64 room] 23)
  have c_b1 := b1.cells
  have hL := lay_r va l n mode base loc _ (h.ext hX) hlen
  obtain ⟨A, c, rfl, _, _, _⟩ := h
  generalize hr : layM l n mode base loc = r at *
  go_enter Tryz.func99, Tryz.ntmps99
  go_wp2_with fail
  cases r with
  | none =>
    refine hL.mono ?_
    rintro e w1 ⟨hx, x, hx0, rfl⟩
    have dx : (x == 0) = false := by rw [beq_eq_false_iff_ne]; exact hx0
    have hf := Lib.hid (hX.trans hx)
    clear hL hx hr hx0
    go_wp2_with fail
    go_ret
    exact ⟨rfl, hf.out⟩
  | some rs =>
    refine hL.mono ?_
    rintro e w1 ⟨hx, v, rfl, hrow⟩
    obtain ⟨A', c', rfl, -⟩ := Recs.of_row hrow
    have hf := Lib.hid (hX.trans hx)
    clear hL hx hr hrow
    go_wp2_with fail
    go_ret
    exact ⟨rfl, hf.out⟩
theorem me_r (alg mode base loc room me : Int) (N : Nat) (w : World) (h1 : 1 ≤ N) (h2 : N ≤ 8) :
    Calls Tryz.prog 23 #[.agg #[.int .i64 alg, .int .i64 N, .int .i64 mode, .int .i64 base, .int .i64 loc, .int .i64 room], .int .i64 me] w fun e w' => e = .returned (.int .i64 (wrapI me ((N : Int) - 1))) ∧ Ext w w' := by
  have hN : ∀ w, Calls Tryz.prog 106 #[.agg #[.int .i64 alg, .int .i64 N, .int .i64 mode, .int .i64 base, .int .i64 loc, .int .i64 room]] w fun e w' => e = .returned (.int .i64 N) ∧ Ext w w' := by
    intro w
    have hn : nM (N : Int) = N := nM_id (by omega) (by omega)
    have hX := Ext.refl w
    have b1 := Blk.new w (.cells #[.int .i64 alg, .int .i64 N, .int .i64 mode, .int .i64 base, .int .i64 loc, .int .i64 room] 23)
    replace hX := hX.alloc (.cells #[.int .i64 alg, .int .i64 N, .int .i64 mode, .int .i64 base, .int .i64 loc, .int .i64 room] 23)
    have c_b1 := b1.cells
    go_enter Tryz.func106, Tryz.ntmps106
    go_wp2_with fail
    refine (rn_any ⟨0, 0, 0, N, 0, 0, 0⟩ _).mono ?_
    rintro e w1 ⟨rfl, hx⟩
    simp only
    rw [hn]
    have hf := Lib.hid (hX.trans hx)
    clear hx hn
    go_wp2_with fail
    go_ret
    exact ⟨rfl, hf.out⟩
  have hs := IntWalk.i64_in ((N : Int) - 1) (by omega)
  have hX := Ext.refl w
  have b1 := Blk.new w (.cells #[.int .i64 alg, .int .i64 N, .int .i64 mode, .int .i64 base, .int .i64 loc, .int .i64 room] 23)
  replace hX := hX.alloc (.cells #[.int .i64 alg, .int .i64 N, .int .i64 mode, .int .i64 base, .int .i64 loc, .int .i64 room] 23)
  have c_b1 := b1.cells
  go_enter Tryz.func23, Tryz.ntmps23
  go_wp2_with fail
  refine (hN _).mono ?_
  rintro e w1 ⟨rfl, hx⟩
  have hf := Lib.hid (hX.trans hx)
  clear hx hN
  go_wp2_with fail
  refine (wrap_r me ((N : Int) - 1) _).mono ?_
  rintro e w' ⟨rfl, rfl⟩
  go_wp2_with fail
  go_ret
  exact ⟨rfl, hf.out⟩
theorem me_at (me : Int) (N : Nat) (h1 : 1 ≤ N) (h2 : N ≤ 8) : ∃ m : Nat, m < N ∧ wrapI me ((N : Int) - 1) = m := by
  have ht := wrapI_bd me ((N : Int) - 1)
  rw [show clamp ((N : Int) - 1) 1099511627776 = (N : Int) - 1 from by unfold clamp within; omega] at ht
  exact ⟨(wrapI me ((N : Int) - 1)).toNat, by omega, by omega⟩
theorem laid_all {l : List Want} {n mode b c : Int} {rs : List Reg} (h : layM l n mode b c = some rs) : ∀ r ∈ rs, r.ok ∧ r.n = n := by
  intro r hr
  obtain ⟨i, hi⟩ := List.getElem?_of_mem hr
  obtain ⟨⟨_, _, n1, n2, _, _⟩, hw, _⟩ := layM_args h
  have hil := (List.getElem?_eq_some_iff.1 hi).1
  rw [layM_len h] at hil
  obtain ⟨r', hr', hL⟩ := layM_at h (List.getElem?_eq_getElem hil)
  obtain rfl : r = r' := by rw [hi] at hr'; simpa using hr'
  obtain ⟨h1, h2, _⟩ := hL.ok ⟨n1, n2⟩ (hw _ (List.getElem_mem hil))
  exact ⟨h1, h2⟩
theorem laid_want {f : Nat → Want} {k : Nat} {n mode b c : Int} {rs : List Reg} (h : layM ((List.range k).map f) n mode b c = some rs) {i : Nat} {r : Reg} (hi : rs[i]? = some r) : Laid n mode (f i) r := by
  have hil := (List.getElem?_eq_some_iff.1 hi).1
  rw [layM_len h, List.length_map, List.length_range] at hil
  obtain ⟨r', hr', hL⟩ := layM_at h (i := i) (q := f i) (by rw [List.getElem?_map, List.getElem?_range hil]; rfl)
  obtain rfl : r = r' := by rw [hi] at hr'; simpa using hr'
  exact hL
/-- Told by accesses, but for its own writer. -/
theorem laid_told {n mode : Int} {q : Want} {r : Reg} (h : Laid n mode q r) (_hm : 1 ≤ mode ∧ mode ≤ 2) (hn : 2 ≤ n) (_hq : -1 ≤ q.wr) {me : Int} (hme : q.wr ≠ me) : r.told me := by
  obtain ⟨⟨b, c, rfl, _, _⟩, _⟩ := h
  by_cases h2 : mode = 2
  · by_cases h3 : 0 ≤ q.wr
    · refine .inr (.inl ⟨?_, fun h => hme h.symm⟩)
      show kindM mode q.wr = 6
      unfold kindM
      rw [if_pos h2, if_pos h3]
    · refine .inr (.inr ⟨?_, hn⟩)
      show kindM mode q.wr = 7
      unfold kindM
      rw [if_pos h2, if_neg h3]
  · refine .inl ?_
    show kindM mode q.wr = 1
    unfold kindM
    rw [if_neg h2]
theorem fil_told {N : Nat} {mode b c : Int} {rs : List Reg} {m : Nat} (h : layM (filWants N) N mode b c = some rs) : ∀ (i : Nat) r, rs[i]? = some r → i ≠ m → 2 ≤ N → r.told m := by
  intro i r hi hm hN
  obtain ⟨⟨h1, h2, _⟩, _⟩ := layM_args h
  refine laid_told (laid_want h hi) ⟨h1, h2⟩ (by omega) ?_ ?_
  · unfold filWant; split <;> simp <;> omega
  · unfold filWant; split <;> simp <;> omega
end Go.Proofs.YtbaajjkopdjbgaaGreat
/-
  Plain mathematics: which locals reads of registers set; what a thread reads of its own register behind a write of 0.
-/
namespace Kv
theorem sets_manyRs {b l n top me : Int} (hn : 1 ≤ n) (hm : 0 ≤ me) (hm2 : me < n) : ∀ (k : Nat) (j s v : Int), 0 ≤ j → j + k ≤ n → (manyRs b l n top me k j s v).Sets l (l + n * (2 + 18 * ((n - 1) * (n - 1))))
  | 0, j, s, v, _, _ => .ret _
  | k + 1, j, s, v, hj, hk => by
    have hq : 0 ≤ (n - 1) * (n - 1) := Int.mul_nonneg (by omega) (by omega)
    have hX : 0 ≤ 2 + 18 * ((n - 1) * (n - 1)) := by omega
    have e1 : manyL l n j = l + j * (2 + 18 * ((n - 1) * (n - 1))) := by unfold manyL; rw [Int.mul_assoc 18]
    have e2 : 0 ≤ j * (2 + 18 * ((n - 1) * (n - 1))) := Int.mul_nonneg hj hX
    have e3 : (j + 1) * (2 + 18 * ((n - 1) * (n - 1))) ≤ n * (2 + 18 * ((n - 1) * (n - 1))) := Int.mul_le_mul_of_nonneg_right (by omega) hX
    rw [Int.add_mul, Int.one_mul] at e3
    unfold manyRs
    refine ((sets_tableR hj (by omega) hm hm2).mono ?_ ?_).bind fun y => ?_
    · rw [e1]; omega
    · rw [e1]; omega
    · split <;> exact sets_manyRs hn hm hm2 k _ _ _ (by omega) (by omega)
theorem localsM_eq (r : Reg) : localsM r = if r.kind = 1 then 0 else if r.kind = 6 then 2 + 18 * ((r.n - 1) * (r.n - 1)) else r.n * (2 + 18 * ((r.n - 1) * (r.n - 1))) := by
  unfold localsM
  rw [Int.mul_assoc 18]
theorem sets_regR {r : Reg} (h : r.ok) {me : Int} (hm : 0 ≤ me) (hm2 : me < r.n) : (regR r me).Sets r.loc (r.loc + localsM r) := by
  rw [localsM_eq]
  unfold regR
  split
  · exact sets_rd _ _ _
  · split
    · rename_i h6
      exact sets_tableR (h.wr h6).1 (h.wr h6).2 hm hm2
    · unfold manyR
      exact (sets_manyRs h.n.1 hm hm2 _ _ _ _ (by omega) (by have := h.n.1; omega)).bind fun p => .ret _
theorem sets_zeroP {r : Reg} (h : r.ok) {me : Int} (hm : 0 ≤ me) (hm2 : me < r.n) : ∀ n : Nat, (zeroP r me n).Sets r.loc (r.loc + localsM r)
  | 0 => .ret _
  | n + 1 => (sets_regR h hm hm2).bind fun x => by
    split
    · exact .ret _
    · exact sets_zeroP h hm hm2 n
theorem Prog.bind_some {α β : Type} {p : Prog α} {f : α → Prog β} {S S' : TS} {b : β} (h : (p.bind f).run S = (some b, S')) : ∃ a S1, p.run S = (some a, S1) ∧ (f a).run S1 = (some b, S') := by
  rw [Prog.run_bind] at h
  rcases hr : p.run S with ⟨o, S1⟩
  rw [hr] at h
  cases o with
  | none => simp [thenR] at h
  | some a => exact ⟨a, S1, rfl, h⟩
theorem layFrom_from {n mode : Int} (hn : 1 ≤ n ∧ n ≤ 8) : ∀ (l : List Want) (b c : Int) (rs : List Reg), layFrom n mode l b c = some rs → ∀ (i : Nat) r, rs[i]? = some r → c ≤ r.loc
  | [], b, c, rs, h, i, r, hi => by
    obtain rfl : [] = rs := by simpa [layFrom] using h
    simp at hi
  | q :: l, b, c, rs, h, i, r, hi => by
    unfold layFrom at h
    split at h
    · have hz := cells_nat (regOf n mode b c q) hn
      cases hr : layFrom n mode l (b + cellsM (regOf n mode b c q)) (c + localsM (regOf n mode b c q)) with
      | none => rw [hr] at h; cases h
      | some rs' =>
        rw [hr] at h
        obtain rfl : regOf n mode b c q :: rs' = rs := by simpa using h
        cases i with
        | zero =>
          obtain rfl : regOf n mode b c q = r := by simpa using hi
          exact Int.le_refl _
        | succ i =>
          have := layFrom_from hn l _ _ rs' hr i r (by simpa using hi)
          omega
    · cases h
/-- Registers laid in a row have locals of their own. -/
theorem layFrom_apart {n mode : Int} (hn : 1 ≤ n ∧ n ≤ 8) : ∀ (l : List Want) (b c : Int) (rs : List Reg), layFrom n mode l b c = some rs → ∀ (i j : Nat) r s, i < j → rs[i]? = some r → rs[j]? = some s → r.loc + localsM r ≤ s.loc
  | [], b, c, rs, h, i, j, r, s, _, hi, _ => by
    obtain rfl : [] = rs := by simpa [layFrom] using h
    simp at hi
  | q :: l, b, c, rs, h, i, j, r, s, hij, hi, hj => by
    unfold layFrom at h
    split at h
    · cases hr : layFrom n mode l (b + cellsM (regOf n mode b c q)) (c + localsM (regOf n mode b c q)) with
      | none => rw [hr] at h; cases h
      | some rs' =>
        rw [hr] at h
        obtain rfl : regOf n mode b c q :: rs' = rs := by simpa using h
        cases j with
        | zero => omega
        | succ j =>
          have hj' : rs'[j]? = some s := by simpa using hj
          cases i with
          | zero =>
            obtain rfl : regOf n mode b c q = r := by simpa using hi
            exact layFrom_from hn l _ _ rs' hr j s hj'
          | succ i => exact layFrom_apart hn l _ _ rs' hr i j r s (by omega) (by simpa using hi) hj'
    · cases h
theorem layM_apart {l : List Want} {n mode b c : Int} {rs : List Reg} (h : layM l n mode b c = some rs) {i j : Nat} {r s : Reg} (hij : i < j) (hi : rs[i]? = some r) (hj : rs[j]? = some s) : r.loc + localsM r ≤ s.loc := by
  obtain ⟨⟨_, _, n1, n2, _, _⟩, _, hf⟩ := layM_args h
  exact layFrom_apart ⟨n1, n2⟩ l b c rs hf i j r s hij hi hj
theorem TS.got_upd {S : TS} {i v : Int} (h1 : 0 ≤ i) (h2 : i < 32768) : (S.upd i v).got i = v := by
  unfold TS.upd
  rw [if_pos ⟨h1, h2⟩]
  unfold TS.got
  rw [if_neg (by omega)]
  simp
/-- What a thread's own register of a fast lock tells it: 0. -/
def ownZ (r : Reg) (S : TS) : Prop := r.kind = 6 → S.got (r.loc + 1) = 0
theorem ownZ_wrote {r : Reg} {m : Int} (h0 : 0 ≤ r.loc) (hf : r.loc + localsM r ≤ 32768) (hn : 1 ≤ r.n) (hw : r.kind = 6 → r.wr = m) {S S' : TS} (h : (regW r m 0).run S = (some (), S')) : ownZ r S' := by
  intro h6
  rw [localsM_eq, if_neg (by omega), if_pos h6] at hf
  have hq : 0 ≤ (r.n - 1) * (r.n - 1) := Int.mul_nonneg (by omega) (by omega)
  unfold regW at h
  rw [if_neg (by omega), if_pos h6] at h
  unfold tableW at h
  rw [if_neg (by rw [hw h6]; simp)] at h
  obtain ⟨a1, S1, -, h⟩ := Prog.bind_some h
  obtain ⟨a2, S2, -, h⟩ := Prog.bind_some h
  obtain ⟨a3, S3, -, h⟩ := Prog.bind_some h
  have e : S3.upd (r.loc + 1) (clamp 0 (clamp r.top 1048576)) = S' := by
    have := h
    simp only [st, Prog.run, Prod.mk.injEq, true_and] at this
    exact this
  have hc : clamp 0 (clamp r.top 1048576) = 0 := by unfold clamp within; omega
  rw [← e, hc]
  exact TS.got_upd (by omega) (by omega)
theorem ownZ_kept {r s : Reg} {m : Int} (_h0 : 0 ≤ r.loc) (hn : 1 ≤ r.n) (hs : s.ok) (hm : 0 ≤ m) (hm2 : m < s.n) (ha : r.loc + localsM r ≤ s.loc ∨ s.loc + localsM s ≤ r.loc) {D : Nat} {S S' : TS} (h : (zeroP s m D).run S = (some (), S')) (hz : ownZ r S) : ownZ r S' := by
  intro h6
  have hq : 0 ≤ (r.n - 1) * (r.n - 1) := Int.mul_nonneg (by omega) (by omega)
  rw [localsM_eq r, if_neg (by omega), if_pos h6] at ha
  have e := (sets_zeroP hs hm hm2 D).got (i := r.loc + 1) (by omega) S
  rw [h] at e
  rw [← hz h6]
  exact e
theorem zeroP_own {r : Reg} {m : Int} (hk : r.kind = 6) (hw : r.wr = m) : ∀ (D : Nat) (S S' : TS), (zeroP r m D).run S = (some (), S') → S = S'
  | 0, S, S', h => by
    have := h
    simp only [zeroP, Prog.run, Prod.mk.injEq, true_and] at this
    exact this
  | D + 1, S, S', h => by
    rw [show zeroP r m (D + 1) = (regR r m).bind fun x => if x = 0 then .ret () else zeroP r m D from rfl] at h
    have e : regR r m = gt (r.loc + 1) := by
      unfold regR tableR
      rw [if_neg (by omega), if_pos hk, if_pos hw.symm]
    rw [e] at h
    have h : (if S.got (r.loc + 1) = 0 then Prog.ret () else zeroP r m D).run S = (some (), S') := h
    split at h
    · simp only [Prog.run, Prod.mk.injEq, true_and] at h
      exact h
    · exact zeroP_own hk hw D S S' h
theorem ownZ_read {r : Reg} {m : Int} (hk : r.kind = 6) (hw : r.wr = m) {S : TS} (hz : ownZ r S) : (regR r m).run S = (some 0, S) := by
  unfold regR tableR
  rw [if_neg (by omega), if_pos hk, if_pos hw.symm]
  show (some (S.got (r.loc + 1)), S) = _
  rw [hz hk]
end Kv
namespace Go.Proofs.YtbaajjkopdjbgaaGreat
open Kv
theorem fast_told {N : Nat} {mode b c : Int} {rs : List Reg} {m : Nat} (h : layM (fastWants N) N mode b c = some rs) (hN : ¬(N = 1 ∧ mode = 2)) : ∀ (i : Nat) r, rs[i]? = some r → i ≠ 2 + m → r.told m := by
  intro i r hi hm
  obtain ⟨⟨h1, h2, n1, _⟩, _⟩ := layM_args h
  have hL := laid_want h hi
  by_cases hm2 : mode = 2
  · refine laid_told hL ⟨h1, h2⟩ (by omega) ?_ ?_
    · unfold fastWant; split <;> simp <;> omega
    · unfold fastWant; split <;> simp <;> omega
  · obtain ⟨⟨b, c, rfl, _, _⟩, _⟩ := hL
    refine .inl ?_
    show kindM mode _ = 1
    unfold kindM
    rw [if_neg hm2]
/-- The own register of a fast lock: told by accesses, or by a local. -/
theorem fast_own {N : Nat} {mode b c : Int} {rs : List Reg} {m : Nat} {rm : Reg} (h : layM (fastWants N) N mode b c = some rs) (hr : rs[2 + m]? = some rm) : rm.kind = 1 ∨ rm.kind = 6 ∧ rm.wr = m := by
  obtain ⟨⟨h1, h2, n1, _⟩, _⟩ := layM_args h
  obtain ⟨⟨b, c, rfl, _, _⟩, _⟩ := laid_want h hr
  have e : (fastWant N (2 + m)).wr = m := by unfold fastWant; rw [if_neg (by omega)]; simp; omega
  show kindM mode _ = 1 ∨ kindM mode _ = 6 ∧ _ = _
  unfold kindM
  split
  · rw [e, if_pos (by omega)]
    exact .inr ⟨rfl, e⟩
  · exact .inl rfl
theorem laid_fine {l : List Want} {n mode b c : Int} {rs : List Reg} (h : layM l n mode b c = some rs) : ∀ r ∈ rs, fineM r = true := by
  intro r hr
  obtain ⟨i, hi⟩ := List.getElem?_of_mem hr
  have hil := (List.getElem?_eq_some_iff.1 hi).1
  rw [layM_len h] at hil
  obtain ⟨r', hr', hL⟩ := layM_at h (List.getElem?_eq_getElem hil)
  obtain rfl : r = r' := by rw [hi] at hr'; simpa using hr'
  exact hL.fine
theorem fast_hz {N : Nat} {mode b c : Int} {rs : List Reg} {m D : Nat} (h : layM (fastWants N) N mode b c = some rs) (hm : m < N) :
    ∃ Z : TS → Prop, (∀ rm, rs[2 + m]? = some rm → ∀ S S', (regW rm m 0).run S = (some (), S') → Z S') ∧
      (∀ (j : Nat) r, rs[j]? = some r → ∀ S S', (zeroP r m D).run S = (some (), S') → Z S → Z S') ∧
      (∀ rm, rs[2 + m]? = some rm → ∀ S, Z S → rm.told m ∨ (regR rm m).run S = (some 0, S)) := by
  have hlen := layM_len h
  rw [fastWants_len] at hlen
  obtain ⟨rm, hrm⟩ : ∃ r, rs[2 + m]? = some r := ⟨_, List.getElem?_eq_getElem (by omega)⟩
  obtain ⟨okm, nm⟩ := laid_all h rm (List.mem_of_getElem? hrm)
  have hown := fast_own h hrm
  refine ⟨ownZ rm, ?_, ?_, ?_⟩
  · intro r hr S S' hS
    obtain rfl : rm = r := by rw [hrm] at hr; simpa using hr
    refine ownZ_wrote okm.loc.1 ?_ (by have := okm.n; omega) (fun h6 => ?_) hS
    · have := laid_fine h rm (List.mem_of_getElem? hrm)
      unfold fineM at this
      simp only [Bool.and_eq_true, decide_eq_true_eq] at this
      exact this.2
    · rcases hown with h1 | h1
      · omega
      · exact h1.2
  · intro j r hr S S' hS hz
    obtain ⟨okr, nr⟩ := laid_all h r (List.mem_of_getElem? hr)
    by_cases hj : j = 2 + m
    · subst hj
      obtain rfl : rm = r := by rw [hrm] at hr; simpa using hr
      rcases hown with h1 | h1
      · intro h6; omega
      · rw [← zeroP_own h1.1 h1.2 D S S' hS]; exact hz
    · refine ownZ_kept okm.loc.1 (by have := okm.n; omega) okr (by omega) (by rw [nr]; omega) ?_ hS hz
      by_cases hlt : j < 2 + m
      · exact .inr (layM_apart h hlt hr hrm)
      · exact .inl (layM_apart h (by omega) hrm hr)
  · intro r hr S hz
    obtain rfl : rm = r := by rw [hrm] at hr; simpa using hr
    rcases hown with h1 | h1
    · exact .inl (.inl h1)
    · exact .inr (ownZ_read h1.1 h1.2 hz)
end Go.Proofs.YtbaajjkopdjbgaaGreat
/-
  The cells and locals of a row of registers added up, both sides.
-/
namespace Kv
def sumC (l : List Reg) : Int := (l.map cellsM).sum
def sumL (l : List Reg) : Int := (l.map localsM).sum
theorem sumC_next {l : List Reg} {j : Nat} {r : Reg} (h : l[j]? = some r) : sumC (l.take (j + 1)) = sumC (l.take j) + cellsM r := by
  unfold sumC
  rw [List.take_add_one, h]
  simp [List.sum_append]
theorem sumL_next {l : List Reg} {j : Nat} {r : Reg} (h : l[j]? = some r) : sumL (l.take (j + 1)) = sumL (l.take j) + localsM r := by
  unfold sumL
  rw [List.take_add_one, h]
  simp [List.sum_append]
theorem sum_bd {l : List Reg} (h : ∀ r ∈ l, r.ok) : ∀ j : Nat, j ≤ l.length → (0 ≤ sumC (l.take j) ∧ sumC (l.take j) ≤ 6272 * j) ∧ (0 ≤ sumL (l.take j) ∧ sumL (l.take j) ≤ 7072 * j)
  | 0, _ => by simp [sumC, sumL]
  | j + 1, hj => by
    obtain ⟨r, hr⟩ : ∃ r, l[j]? = some r := ⟨_, List.getElem?_eq_getElem (by omega)⟩
    have h1 := sum_bd h j (by omega)
    have h2 := cells_nat r (h r (List.mem_of_getElem? hr)).n
    rw [sumC_next hr, sumL_next hr]
    omega
end Kv
namespace Go.Proofs.YtbaajjkopdjbgaaGreat
open Go.RowKit Kv
set_option maxRecDepth 100000 in
set_option maxHeartbeats 1000000 in
theorem size_p (b c : Nat) (rs : List Reg) (w : World) (hb : b < w.heap.size) (hc : ∀ (i : Nat) u, (rs.flatMap regVals)[i]? = some u → w.cell? ⟨b, i, none⟩ = some u) (hok : ∀ r ∈ rs, r.ok) (hl : rs.length ≤ 300) :
    Calls Tryz.prog 164 #[.slice (some ⟨b, 0, none⟩) rs.length c] w fun e w' => e = .returned (.tuple #[.int .i64 (sumC rs), .int .i64 (sumL rs)]) ∧ Ext w w' := by
  have hokh := Lib.hid hok
  have hbd := Lib.hid (sum_bd hok)
  have hch := Lib.hid hc
  clear hok hc
  go_enter Tryz.func164, Tryz.ntmps164
  go_wp2_with fail
  go_loopw [4, 5, 10] (fun u v i wr => ∃ j : Nat, i = .int .i64 j ∧ j ≤ rs.length ∧ u = .int .i64 (sumC (rs.take j)) ∧ v = .int .i64 (sumL (rs.take j)) ∧ Ext w wr) (fun _ _ i _ => rs.length - (intOf i).toNat)
  case atStart => exact ⟨0, rfl, by omega, rfl, rfl, Ext.refl w⟩
  case round =>
    obtain ⟨j, rfl, hj, rfl, rfl, hX⟩ := hrel
    by_cases hlt : j < rs.length
    · have dl : decide ((j : Int) < (rs.length : Int)) = true := by rw [decide_eq_true_eq]; omega
      obtain ⟨r, hr⟩ : ∃ r, rs[j]? = some r := ⟨_, List.getElem?_eq_getElem hlt⟩
      have hrk := hokh.out r (List.mem_of_getElem? hr)
      have h1 := hbd.out j (by omega)
      have h2 := cells_nat r hrk.n
      have n1 := sumC_next hr
      have n2 := sumL_next hr
      obtain ⟨a0, a1, a2, a3, a4, a5, a6⟩ := reg_cells (w := wr) (b := b) (fun i u hu => (hX.cell (p := ⟨b, i, none⟩) hb).trans (hch.out i u hu)) hr
      have hC := fun w => cells_all r w hrk.kind hrk.n
      have hL := fun w => locals_p r w hrk.kind hrk.n
      unfold encR at hC hL
      have w1 : IntKind.i64.wrap (sumC (rs.take j) + cellsM r) = sumC (rs.take (j + 1)) := by rw [IntWalk.i64_in _ (by omega), n1]
      have w2 : IntKind.i64.wrap (sumL (rs.take j) + localsM r) = sumL (rs.take (j + 1)) := by rw [IntWalk.i64_in _ (by omega), n2]
      have c_n := fun i => cell_of_heap (heap_alloc_new wr (.cells #[.int .i64 r.kind, .int .i64 r.base, .int .i64 r.loc, .int .i64 r.n, .int .i64 r.wr, .int .i64 r.rd, .int .i64 r.top] 67)) i
      have hX1 := hX.alloc (.cells #[.int .i64 r.kind, .int .i64 r.base, .int .i64 r.loc, .int .i64 r.n, .int .i64 r.wr, .int .i64 r.rd, .int .i64 r.top] 67)
      have g1 := Blk.new wr (.cells #[.int .i64 r.kind, .int .i64 r.base, .int .i64 r.loc, .int .i64 r.n, .int .i64 r.wr, .int .i64 r.rd, .int .i64 r.top] 67)
      clear hr h1 h2 n1 n2
      go_wp2_with fail
      refine (hC _).mono ?_
      rintro e w2 ⟨rfl, hx2⟩
      clear c_n
      have g2 := g1.ext hx2
      have c_g := g2.cells
      replace hX1 := hX1.trans hx2
      clear hx2 a0 a1 a2 a3 a4 a5 a6 g1
      go_wp2_with fail
      refine (hL _).mono ?_
      rintro e w3 ⟨rfl, hx3⟩
      replace hX1 := hX1.trans hx3
      clear hx3 c_g g2
      go_wp2_with fail
      refine ⟨⟨j + 1, by go_num, by omega, rfl, rfl, hX1⟩, ?_⟩
      simp [intOf]; omega
    · obtain rfl : j = rs.length := by omega
      have dl : decide ((rs.length : Int) < (rs.length : Int)) = false := by rw [decide_eq_false_iff_not]; omega
      rw [List.take_length]
      go_wp2_with fail
      first | go_ret2 | go_ret
      exact ⟨rfl, hX⟩
set_option maxRecDepth 100000 in
set_option maxHeartbeats 1000000 in
theorem size_r (b c : Nat) (rs : List Reg) (w : World) (hb : b < w.heap.size) (hc : ∀ (i : Nat) u, (rs.flatMap regVals)[i]? = some u → w.cell? ⟨b, i, none⟩ = some u) (hok : ∀ r ∈ rs, r.ok) (hl : rs.length ≤ 300) :
    Calls Tryz.prog 182 #[.slice (some ⟨b, 0, none⟩) rs.length c] w fun e w' => e = .returned (.tuple #[.int .i64 (sumC rs), .int .i64 (sumL rs)]) ∧ Ext w w' := by
  have hokh := Lib.hid hok
  have hbd := Lib.hid (sum_bd hok)
  have hch := Lib.hid hc
  clear hok hc
  go_enter Tryz.func182, Tryz.ntmps182
  go_wp2_with fail
  go_loopw [4, 5, 6] (fun u v i wr => ∃ j : Nat, i = .int .i64 j ∧ j ≤ rs.length ∧ u = .int .i64 (sumC (rs.take j)) ∧ v = .int .i64 (sumL (rs.take j)) ∧ Ext w wr) (fun _ _ i _ => rs.length - (intOf i).toNat)
  case atStart => exact ⟨0, rfl, by omega, rfl, rfl, Ext.refl w⟩
  case round =>
    obtain ⟨j, rfl, hj, rfl, rfl, hX⟩ := hrel
    by_cases hlt : j < rs.length
    · have dl : decide ((j : Int) < (rs.length : Int)) = true := by rw [decide_eq_true_eq]; omega
      obtain ⟨r, hr⟩ : ∃ r, rs[j]? = some r := ⟨_, List.getElem?_eq_getElem hlt⟩
      have hrk := hokh.out r (List.mem_of_getElem? hr)
      have h1 := hbd.out j (by omega)
      have h2 := cells_nat r hrk.n
      have n1 := sumC_next hr
      have n2 := sumL_next hr
      obtain ⟨a0, a1, a2, a3, a4, a5, a6⟩ := reg_cells (w := wr) (b := b) (fun i u hu => (hX.cell (p := ⟨b, i, none⟩) hb).trans (hch.out i u hu)) hr
      have hC := fun w => cells_r r w hrk.kind hrk.n
      have hL := fun w => locals_r r w hrk.kind hrk.n
      unfold encR at hC hL
      have w1 : IntKind.i64.wrap (sumC (rs.take j) + cellsM r) = sumC (rs.take (j + 1)) := by rw [IntWalk.i64_in _ (by omega), n1]
      have w2 : IntKind.i64.wrap (sumL (rs.take j) + localsM r) = sumL (rs.take (j + 1)) := by rw [IntWalk.i64_in _ (by omega), n2]
      have hX1 := hX
      clear h1 h2 n1 n2
      go_wp2_with fail
      refine (hC _).mono ?_
      rintro e w2 ⟨rfl, hx2⟩
      replace hX1 := hX1.trans hx2
      clear hx2 a0 a1 a2 a3 a4 a5 a6
      obtain ⟨a0, a1, a2, a3, a4, a5, a6⟩ := reg_cells (w := w2) (b := b) (fun i u hu => (hX1.cell (p := ⟨b, i, none⟩) hb).trans (hch.out i u hu)) hr
      go_wp2_with fail
      refine (hL _).mono ?_
      rintro e w3 ⟨rfl, hx3⟩
      replace hX1 := hX1.trans hx3
      clear hx3 a0 a1 a2 a3 a4 a5 a6
      go_wp2_with fail
      refine ⟨⟨j + 1, by go_num, by omega, rfl, rfl, hX1⟩, ?_⟩
      simp [intOf]; omega
    · obtain rfl : j = rs.length := by omega
      have dl : decide ((rs.length : Int) < (rs.length : Int)) = false := by rw [decide_eq_false_iff_not]; omega
      rw [List.take_length]
      go_wp2_with fail
      first | go_ret2 | go_ret
      exact ⟨rfl, hX⟩
end Go.Proofs.YtbaajjkopdjbgaaGreat
/-
  AdaptAlone, plain mathematics: what one thread pays alone.
-/
namespace Kv
theorem nat_regAt {l : List Reg} (h : ∀ r ∈ l, r.kind = 1) (i : Int) : (regAt l i).kind = 1 := by
  unfold regAt
  rw [List.getD_eq_getElem?_getD]
  cases he : l[i.toNat]? with
  | none => rfl
  | some r => exact h r (List.mem_of_getElem? he)
theorem nat_setsR {lo hi : Int} {r : Reg} (h : r.kind = 1) (me : Int) : (regR r me).Sets lo hi := by
  unfold regR
  rw [if_pos h]
  exact sets_rd _ _ _
theorem nat_setsW {lo hi : Int} {r : Reg} (h : r.kind = 1) (me v : Int) : (regW r me v).Sets lo hi := by
  unfold regW
  rw [if_pos h]
  exact sets_wr _ _ _ _
theorem sets_nt (lo hi m : Int) : (nt m).Sets lo hi := .note m (.ret ())
theorem nat_setsPass {lo hi : Int} {x y : Reg} (hx : x.kind = 1) (hy : y.kind = 1) (me : Int) : (passM x y me).Sets lo hi := by
  unfold passM
  refine (nat_setsW hx _ _).bind fun _ => (nat_setsR hy _).bind fun v => ?_
  split
  · first | exact .ret _ | skip
  · refine (nat_setsW hy _ _).bind fun _ => (nat_setsR hx _).bind fun z => ?_
    split <;> exact .ret _
theorem nat_setsName {lo hi : Int} {l : List Reg} (h : ∀ r ∈ l, r.kind = 1) (N : Nat) (me : Int) : ∀ f x y : Nat, (nameM l N me f x y).Sets lo hi
  | 0, _, _ => .ret _
  | f + 1, x, y => by
    rw [show nameM l N me (f + 1) x y = ((passM (regAt l (2 * (triName x y : Int))) (regAt l (2 * (triName x y : Int) + 1)) me).bind fun told =>
      if told = 0 then .ret (triName x y : Int) else if told = 1 then nameM l N me f (x + 1) y else nameM l N me f x (y + 1)) from rfl]
    refine (nat_setsPass (nat_regAt h _) (nat_regAt h _) _).bind fun told => ?_
    split
    · exact .ret _
    · split
      · exact nat_setsName h N me f (x + 1) y
      · exact nat_setsName h N me f x (y + 1)
theorem nat_setsSpin {lo hi : Int} {x y : Reg} (hx : x.kind = 1) (hy : y.kind = 1) (s me : Int) : ∀ n : Nat, (arbSpin x y s me n).Sets lo hi
  | 0 => .ret _
  | n + 1 => by
    rw [arbSpin_succ]
    refine (nat_setsR hx _).bind fun a => ?_
    split
    · exact .ret _
    · refine (nat_setsR hy _).bind fun b => ?_
      split
      · exact nat_setsSpin hx hy s me n
      · exact .ret _
end Kv
namespace Go.Proofs.YtbaajjkopdjbgaaGreat
open Kv
theorem nat_nthR {l : List Reg} (h : ∀ r ∈ l, r.kind = 1) (i : Nat) : (nthR l i).kind = 1 := by
  unfold nthR
  rw [List.getD_eq_getElem?_getD]
  cases he : l[i]? with
  | none => rfl
  | some r => exact h r (List.mem_of_getElem? he)
theorem nat_setsNode {lo hi : Int} {l : List Reg} (h : ∀ r ∈ l, r.kind = 1) (D : Nat) (me x : Int) : (nodeE 3 D l me x).Sets lo hi := by
  unfold nodeE
  rw [if_neg (by decide)]
  unfold arbM arbEnter
  split <;> exact (nat_setsW (nat_nthR h _) _ _).bind fun _ => (nat_setsW (nat_nthR h _) _ _).bind fun _ => nat_setsSpin (nat_nthR h _) (nat_nthR h _) _ _ _
theorem nat_setsA {rs : List Reg} (h : ∀ r ∈ rs, r.kind = 1) (D N : Nat) (me : Int) : (adA D rs 0 N me).Sets 0 1 := by
  unfold adA
  refine (sets_nt _ _ _).bind fun _ => ?_
  have h1 : ∀ r ∈ rs.take (2 * triN N), r.kind = 1 := fun r hr => h r (List.mem_of_mem_take hr)
  have h2 : ∀ r ∈ rs.drop (2 * triN N), r.kind = 1 := fun r hr => h r (List.mem_of_mem_drop hr)
  have hg : (getM (rs.take (2 * triN N)) N 0 me).Sets 0 1 := by
    unfold getM
    refine (sets_gt _ _ _).bind fun had => ?_
    split
    · exact .ret _
    · exact (nat_setsName h1 _ _ _ _ _).bind fun name => (sets_st _ (by decide) (by decide)).bind fun _ => .ret _
  refine hg.bind fun name => ?_
  have hc : (adClimb D (rs.drop (2 * triN N)) (triN N) me name).Sets 0 1 := by
    unfold adClimb
    split
    · exact sets_forP _ (fun a _ x => nat_setsNode h2 _ _ _) _
    · exact .ret _
  exact hc.bind fun _ => (sets_nt _ _ _).bind fun _ => .ret _
/-- The registers of an adapting lock on native cells. -/
def natA (N : Nat) : List Reg := (List.range (2 * triN N + 3 * (2 ^ levels (triN N) - 1))).map fun i : Nat => ⟨1, i, 0, N, -1, -1, if i < 2 * triN N ∧ i % 2 = 0 then N else 1⟩
def adaA (N m : Nat) : Option Int × TS := (adA 65 (natA N) 0 N m).run (TS0 [] ([0, 0, 0, (m : Int) + 1] ++ zeros 60))
def adaB (N m : Nat) : Option Int × TS := (adA 65 (natA N) 0 N m).run (TS0 [1] (zeros 60))
def adaR (N m : Nat) : Option Int × TS := ((adR (natA N) 0 N m).bind fun _ => Prog.ret (0 : Int)).run (TS0 [1] (zeros 60))
def adaOk (N m : Nat) : Bool := decide ((adaA N m).1 = some 0) && decide ((adaA N m).2.acc.length = 4 + 3 * levels (triN N)) && decide ((adaA N m).2.loc 0 = 1) && decide ((adaB N m).1 = some 0) && decide ((adaB N m).2.acc.length = 3 * levels (triN N)) && decide ((adaR N m).1 = some 0) && decide ((adaR N m).2.acc.length = levels (triN N))
theorem ada_all : ∀ N : Nat, N < 9 → ∀ m : Nat, m < N → 1 ≤ N → adaOk N m = true := by decide +kernel
theorem natA_kind {N : Nat} : ∀ r ∈ natA N, r.kind = 1 := by
  intro r hr
  unfold natA at hr
  obtain ⟨i, _, rfl⟩ := List.mem_map.1 hr
  rfl
theorem natA_sum (N : Nat) : sumL (natA N) = 0 := by
  unfold sumL
  have : ∀ l : List Reg, (∀ r ∈ l, r.kind = 1) → (l.map localsM).sum = 0 := by
    intro l
    induction l with
    | nil => intro _; rfl
    | cons r l ih =>
      intro h
      rw [List.map_cons, List.sum_cons, ih fun x hx => h x (List.mem_cons_of_mem _ hx)]
      have := h r (List.mem_cons_self ..)
      unfold localsM
      rw [this]
      simp
  exact this _ natA_kind
set_option maxRecDepth 1000000 in
theorem natA_lay {N : Nat} (h1 : 1 ≤ N) (h2 : N ≤ 8) : layM (adWants N) N 1 0 0 = some (natA N) := by
  have : ∀ N : Nat, N < 9 → 1 ≤ N → layM (adWants N) N 1 0 0 = some (natA N) := by
    intro N h1 h2
    have : N = 1 ∨ N = 2 ∨ N = 3 ∨ N = 4 ∨ N = 5 ∨ N = 6 ∨ N = 7 ∨ N = 8 := by omega
    rcases this with rfl | rfl | rfl | rfl | rfl | rfl | rfl | rfl <;> rfl
  exact this N (by omega) h1
theorem ada_loc {N m : Nat} (h0 : (adaA N m).2.loc 0 = 1) : LocIs [1] (adaA N m).2.loc := by
  intro i
  cases i with
  | zero => exact h0
  | succ i =>
    have := (nat_setsA (natA_kind (N := N)) 65 N m).got (i := ((i + 1 : Nat) : Int)) (.inr (by omega)) (TS0 [] ([0, 0, 0, (m : Int) + 1] ++ zeros 60))
    unfold TS.got at this
    rw [if_neg (by omega), if_neg (by omega), Int.toNat_natCast] at this
    rw [show (adaA N m).2.loc (i + 1) = _ from this]
    rfl
theorem ada_short {N m : Nat} {L : List Int} (h0 : (adaA N m).2.loc 0 = 1) (h : LocIs L (adaA N m).2.loc) : shortL L = [1] := by
  rw [shortL_eq (L' := [1]) fun i => (h i).symm.trans (ada_loc h0 i)]
  decide
theorem ada_is {N m : Nat} (h1 : 1 ≤ N) (h2 : N ≤ 8) (hm : m < N) : (adaA N m).1 = some 0 ∧ (adaA N m).2.acc.length = 4 + 3 * levels (triN N) ∧ (adaA N m).2.loc 0 = 1 ∧ (adaB N m).1 = some 0 ∧ (adaB N m).2.acc.length = 3 * levels (triN N) ∧ (adaR N m).1 = some 0 ∧ (adaR N m).2.acc.length = levels (triN N) := by
  have := ada_all N (by omega) m hm h1
  unfold adaOk at this
  simp only [Bool.and_eq_true, decide_eq_true_eq] at this
  exact ⟨this.1.1.1.1.1.1, this.1.1.1.1.1.2, this.1.1.1.1.2, this.1.1.1.2, this.1.1.2, this.1.2, this.2⟩
end Go.Proofs.YtbaajjkopdjbgaaGreat
/-
  The black-white bakery's registers, by the document.
-/
namespace Go.Proofs.YtbaajjkopdjbgaaGreat
open Go.RowKit Kv
set_option maxRecDepth 100000 in
theorem bwregs_r (alg mode base loc room : Int) (N : Nat) (rs : List Reg) (w : World) (h1 : 1 ≤ N) (h2 : N ≤ 8) (hl : layM (bwWants N) N mode base loc = some rs) (hlc : 0 ≤ loc ∧ loc ≤ 32768) :
    Calls Tryz.prog 201 #[.agg #[.int .i64 alg, .int .i64 N, .int .i64 mode, .int .i64 base, .int .i64 loc, .int .i64 room]] w fun e w' => ∃ b c, e = .returned (.tuple #[.slice (some ⟨b, 0, none⟩) rs.length c, .int .i64 (loc + sumL rs)]) ∧ w.heap.size ≤ b ∧ b < w'.heap.size ∧ (∀ (i : Nat) u, (rs.flatMap regVals)[i]? = some u → w'.cell? ⟨b, i, none⟩ = some u) ∧ rs.length ≤ c ∧ c ≤ 9223372036854775807 ∧ Ext w w' := by
  have hlen := layM_len hl
  rw [bwWants_len] at hlen
  have hok : ∀ r ∈ rs, r.ok := fun r hr => (laid_all hl r hr).1
  have hbd := sum_bd hok rs.length (Nat.le_refl _)
  rw [List.take_length] at hbd
  have hw := IntWalk.i64_in (loc + sumL rs) (by omega)
  replace hl := Lib.hid hl
  have hlenh := Lib.hid hlen
  have hokh := Lib.hid hok
  clear hlen hok hbd
  have hX := Ext.refl w
  have b1 := Blk.new w (.cells #[.int .i64 alg, .int .i64 N, .int .i64 mode, .int .i64 base, .int .i64 loc, .int .i64 room] 23)
  replace hX := hX.alloc (.cells #[.int .i64 alg, .int .i64 N, .int .i64 mode, .int .i64 base, .int .i64 loc, .int .i64 room] 23)
  have c_b1 := b1.cells
  go_enter Tryz.func201, Tryz.ntmps201
  go_wp2_with fail
  generalize w.alloc _ = W at *
  have hXW := hX
  clear hX c_b1
  have hX := (Ext.refl W).drew
  have hS : ∀ w', Ext W w' → (∀ i, w'.cell? ⟨w.heap.size, i, none⟩ = (#[.int .i64 alg, .int .i64 N, .int .i64 mode, .int .i64 base, .int .i64 loc, .int .i64 room] : Array Value)[i]?) := fun w' hx => (b1.ext hx).cells
  go_region_held2 (fun w' => ∀ i, w'.cell? ⟨w.heap.size, i, none⟩ = (#[.int .i64 alg, .int .i64 N, .int .i64 mode, .int .i64 base, .int .i64 loc, .int .i64 room] : Array Value)[i]?) (exact hS _ hX)
    (first
      | (go_at_call 177
         refine (bwwants_r N _ h1 h2).mono ?_
         rintro e w2 ⟨v2, rfl, hw2, hx⟩
         replace hX := hX.trans hx
         have hz2 := hX.size
         clear hx)
      | (go_at_call 176
         refine (layr_some hl.out _ (hw2.ext (Ext.refl _)) (by rw [bwWants_len]; omega)).mono ?_
         rintro e w3 ⟨v3, rfl, hr3, hx⟩
         replace hX := hX.trans hx
         clear hx))
  rename_i hh
  clear hh
  obtain ⟨⟨A, c, rfl, q1, q2, hV⟩, hown⟩ := hr3
  obtain ⟨b, rfl, hb, hcells⟩ := hV (by cases rs with | nil => have := hlenh.out; simp only [List.length_nil] at this; omega | cons r l => simp [regVals])
  have hge : w.heap.size ≤ b := Nat.le_trans (Nat.le_trans hXW.size hz2) (hown b rfl)
  have hch := Lib.hid hcells
  clear hcells hV hown hz2
  go_wp2_with fail
  refine (size_r b c rs w3 hb hch.out hokh.out (by have := hlenh.out; omega)).mono ?_
  rintro e w4 ⟨rfl, hx4⟩
  have hcells4 : ∀ (i : Nat) u, (rs.flatMap regVals)[i]? = some u → w4.cell? ⟨b, i, none⟩ = some u := fun i u hu => (hx4.cell (p := ⟨b, i, none⟩) hb).trans (hch.out i u hu)
  have hfh := Lib.hid (And.intro (Nat.lt_of_lt_of_le hb hx4.size) (And.intro hcells4 (hXW.trans (hX.trans hx4))))
  have hS4 := fun (w' : World) (hx : Ext w4 w') => ((b1.ext (hX.trans hx4)).ext hx).cells
  clear hcells4 hch hb hx4 hX
  go_wp2_with fail
  have hE := (Ext.refl w4).drew
  go_region_held2 (fun w' => ∀ i, w'.cell? ⟨w.heap.size, i, none⟩ = (#[.int .i64 alg, .int .i64 N, .int .i64 mode, .int .i64 base, .int .i64 loc, .int .i64 room] : Array Value)[i]?) (exact hS4 _ hE) (fail)
  rename_i hh
  clear hh
  have hff := Lib.hid (And.intro (Nat.lt_of_lt_of_le hfh.out.1 hE.size) (And.intro (fun (i : Nat) u hu => (hE.cell (p := ⟨b, i, none⟩) hfh.out.1).trans (hfh.out.2.1 i u hu)) (hfh.out.2.2.trans hE)))
  clear hS4 hE
  go_wp2_with fail
  first | go_ret2 | go_ret
  exact ⟨_, _, rfl, hge, hff.out.1, hff.out.2.1, q1, q2, hff.out.2.2⟩
end Go.Proofs.YtbaajjkopdjbgaaGreat
