/-
  BlackwhiteDoor holds: the doorway costs N + 3 accesses, and the ticket is one more than the greatest of its color.
-/
import Derived.Test.YtpcohbpeglledaaJBlackwhiteDoorSaid2
import Derived.Laws.MakeOwn
import Derived.BigQuiet
import Derived.Deep.DeepCutAuto
import Derived.Deep.QuietTactic
import Derived.Deep.RegionHeld2
/-
  The black-white bakery acquired, by the program.
-/
namespace Go.Proofs.Ytpcohbpeglledaa
open Go.RowKit Kv
theorem halves_p (x : Int) (w : World) (h : 0 ≤ x) (h2 : x ≤ 1048576) : Calls Try.prog 69 #[.int .i64 x] w fun e w' => e = .returned (.tuple #[.int .i64 (x / 2), .int .i64 (x % 2)]) ∧ w = w' := by
  have e1 : IntKind.i64.wrap (x.tdiv 2) = x / 2 := by
    rw [Int.tdiv_eq_ediv_of_nonneg h]
    exact IntWalk.i64_in _ (by omega)
  go_enter Try.func69, Try.ntmps69
  go_wp2_with fail
  first | go_ret2 | go_ret
  exact ⟨rfl, rfl⟩
set_option maxRecDepth 100000 in
set_option maxHeartbeats 4000000 in
theorem bwacq_p (B p N D : Nat) (S : TS) (alg mode base loc room : Int) (m : Nat) (rs : List Reg) (w : World) (h : Plays B w p S) (h1 : 1 ≤ N) (h2 : N ≤ 8) (hm1 : m < N) (hl : layM (bwWants N) N mode base loc = some rs) (hlc : 0 ≤ loc ∧ loc ≤ 32768)
    (hok : ∀ r ∈ rs, r.ok ∧ r.n = N) (htold : ∀ (i : Nat) r, rs[i]? = some r → i ≠ 1 + m → i ≠ 1 + N + m → 2 ≤ N → r.told m) (hta : TameA S) (hD : S.left < D) (hn0 : S.nts.length = 0) :
    Calls Try.prog 33 #[.pointer (some ⟨p, 0, none⟩), .agg #[.int .i64 alg, .int .i64 N, .int .i64 mode, .int .i64 base, .int .i64 loc, .int .i64 room], .int .i64 m] w (Post encI B p w ((bwA D rs (loc + sumL rs) N m).run S)) := by
  have hlen := layM_len hl
  rw [bwWants_len] at hlen
  generalize hR : Post encI B p w ((bwA D rs (loc + sumL rs) N m).run S) = R
  have hO : Owes R encI B p w ((bwA D rs (loc + sumL rs) N m).run S) := hR ▸ owes _ _ _ _ _
  clear hR
  have hK := Keep.refl [2, 3, 4] B p w
  have hP := h
  have b1 := hP.held (.cells #[.int .i64 alg, .int .i64 N, .int .i64 mode, .int .i64 base, .int .i64 loc, .int .i64 room] 44)
  replace hK := hK.trans (Keep.alloc (.cells #[.int .i64 alg, .int .i64 N, .int .i64 mode, .int .i64 base, .int .i64 loc, .int .i64 room] 44) hP.lt hP.le)
  replace hP := hP.alloc (.cells #[.int .i64 alg, .int .i64 N, .int .i64 mode, .int .i64 base, .int .i64 loc, .int .i64 room] 44)
  have c_b1 := b1.cells
  clear h
  rw [bwA_eq] at hO
  obtain ⟨r0, hr0⟩ : ∃ r, rs[0]? = some r := ⟨_, List.getElem?_eq_getElem (by omega)⟩
  obtain ⟨rc, hrc⟩ : ∃ r, rs[1 + m]? = some r := ⟨_, List.getElem?_eq_getElem (by omega)⟩
  obtain ⟨rm, hrm⟩ : ∃ r, rs[1 + N + m]? = some r := ⟨_, List.getElem?_eq_getElem (by omega)⟩
  have hok0 := (hok _ (List.mem_of_getElem? hr0)).1
  have hm0' : (m : Int) < r0.n := by rw [(hok _ (List.mem_of_getElem? hr0)).2]; omega
  have hokc := (hok _ (List.mem_of_getElem? hrc)).1
  have hmc : (m : Int) < rc.n := by rw [(hok _ (List.mem_of_getElem? hrc)).2]; omega
  have hokm := (hok _ (List.mem_of_getElem? hrm)).1
  have hmm : (m : Int) < rm.n := by rw [(hok _ (List.mem_of_getElem? hrm)).2]; omega
  rw [regAt_of (show (0 : Int) = ((0 : Nat) : Int) from rfl) hr0, regAt_of (show (1 : Int) + (m : Int) = ((1 + m : Nat) : Int) from by omega) hrc] at hO
  have hmN : (m : Int) < (N : Int) := by omega
  have hrh := Lib.hid (And.intro hr0 (And.intro hrc hrm))
  have hlM := Lib.hid hl
  have hlenh := Lib.hid hlen
  have hokh := Lib.hid hok
  have htoldh := Lib.hid htold
  clear hlen hr0 hrc hrm hok hl htold
  have hOh := Lib.hid hO
  clear hO
  go_enter Try.func33, Try.ntmps33
  go_wp2_with fail
  refine (bwlay_p alg mode base loc room m N rs _ h1 h2 hlM.out hlc (by omega) (by omega) r0 hrh.out.1).mono ?_
  rintro e w1 ⟨b, c1, c2, rfl, hge, hb, hcells, hx⟩
  have hreg : RegsAt [2, 3, 4] w1 p b rs := ⟨hb, hP.fresh hx hge, hcells⟩
  replace hK := hK.trans (Keep.of_ext hx hP.lt hP.le)
  replace hP := hP.ext hx
  clear hx hcells hge hb c_b1 b1
  generalize w.heap.size = z0 at *
  obtain ⟨obj, hobj⟩ : ∃ obj, obj = Obj.cells #[.int .i64 r0.kind, .int .i64 r0.base, .int .i64 r0.loc, .int .i64 r0.n, .int .i64 r0.wr, .int .i64 r0.rd, .int .i64 r0.top, .slice (some ⟨b, 7, none⟩) N c1, .slice (some ⟨b, (1 + N) * 7, none⟩) N c2, .int .i64 (loc + sumL rs)] 79 := ⟨_, rfl⟩
  have g1 := hP.held obj
  replace hreg := hreg.extL ((Ext.refl w1).alloc obj) hP.lt
  replace hK := hK.trans (Keep.alloc obj hP.lt hP.le)
  replace hP := hP.alloc obj
  rw [hobj] at g1 hreg hK hP
  clear hobj obj
  go_wp2_with fail
  generalize w1.heap.size = z at *
  generalize w1.alloc _ = W at *
  refine tstepA (notes_nt 1) hOh.out hK (noteO hP (by unfold maxAns; omega)) (fun _ h => ⟨rfl, h⟩) ?_
  clear hOh hK hP
  intro u S1 w2 hrun hlf _ hnn hP hk hK hO
  replace hD := Nat.lt_of_le_of_lt hlf hD
  replace hn0 : S1.nts.length ≤ 1 := by omega
  replace hta := hta.run hrun
  replace hreg := hreg.keep hk
  replace g1 := g1.keep hk
  clear hk hrun hlf hnn
  have hOh := Lib.hid hO
  clear hO
  have c_g := g1.cells
  obtain ⟨a0, a1, a2, a3, a4, a5, a6⟩ := hreg.nth hrh.out.2.1
  have hsh : (1 + m) * 7 = 7 + m * 7 := by omega
  rw [hsh] at a0 a1 a2 a3 a4 a5 a6
  go_wp2_with fail
  clear a0 a1 a2 a3 a4 a5 a6 c_g
  refine tstepA (notes_regW _ _ _) hOh.out hK (reg_write_p B p S1 rc m 1 _ hP hokc ⟨by omega, hmc⟩) (fun _ h => ⟨rfl, h⟩) ?_
  clear hOh hK hP
  intro u S2 w3 hrun hlf _ hnn hP hk hK hO
  replace hD := Nat.lt_of_le_of_lt hlf hD
  replace hn0 : S2.nts.length ≤ 1 := by omega
  replace hta := hta.run hrun
  replace hreg := hreg.keep hk
  replace g1 := g1.keep hk
  clear hk hrun hlf hnn
  have hOh := Lib.hid hO
  clear hO
  have c_g := g1.cells
  go_wp2_with fail
  clear c_g
  refine tstepA (notes_regR _ _) hOh.out hK (reg_read_p B p S2 r0 m _ hP hok0 ⟨by omega, hm0'⟩) (fun _ h => ⟨rfl, h⟩) ?_
  clear hOh hK hP
  intro y S3 w4 hrun hlf _ hnn hP hk hK hO
  replace hD := Nat.lt_of_le_of_lt hlf hD
  replace hn0 : S3.nts.length ≤ 1 := by omega
  replace hta := hta.run hrun
  replace hreg := hreg.keep hk
  replace g1 := g1.keep hk
  clear hk hrun hlf hnn
  have hOh := Lib.hid hO
  clear hO
  go_wp2_with fail
  refine (bwbit_p y _).mono ?_
  rintro e w' ⟨rfl, rfl⟩
  have hbx : bitM y = 0 ∨ bitM y = 1 := by unfold bitM; split <;> simp
  generalize bitM y = bc at *
  have c_g := g1.cells
  go_wp2_with fail
  clear c_g
  refine tstepA (notes_st _ _) hOh.out hK (setO hP) (fun _ h => ⟨rfl, h⟩) ?_
  clear hOh hK hP
  intro u S4 w5 hrun hlf _ hnn hP hk hK hO
  replace hD := Nat.lt_of_le_of_lt hlf hD
  replace hn0 : S4.nts.length ≤ 1 := by omega
  replace hta := hta.run hrun
  replace hreg := hreg.keep hk
  replace g1 := g1.keep hk
  clear hk hrun hlf hnn
  have hOh := Lib.hid hO
  clear hO
  have c_g := g1.cells
  go_wp2_with fail
  obtain ⟨F, hF⟩ : ∃ F : Int → Prog Int, F = bwThrough D rs N m bc := ⟨_, rfl⟩
  replace hO := hOh.out
  rw [← hF, Int.toNat_natCast] at hO
  clear hOh
  have hOh := Lib.hid hO
  have hFh := Lib.hid hF
  clear hO hF c_g
  go_loopw [10, 51] (fun u i wr => ∃ (j : Nat) (tv : Int) (S5 : TS), i = .int .i64 j ∧ u = .int .i64 tv ∧ 0 ≤ tv ∧ tv ≤ 1048576 ∧ j ≤ N ∧ Plays B wr p S5 ∧ KeepP B p w wr ∧ RegsAt [2, 3, 4] wr p b rs ∧ HeldP wr p z (.cells #[.int .i64 r0.kind, .int .i64 r0.base, .int .i64 r0.loc, .int .i64 r0.n, .int .i64 r0.wr, .int .i64 r0.rd, .int .i64 r0.top, .slice (some ⟨b, 7, none⟩) N c1, .slice (some ⟨b, (1 + N) * 7, none⟩) N c2, .int .i64 (loc + sumL rs)] 79) ∧ S5.left < D ∧ S5.nts.length ≤ 1 ∧ TameA S5 ∧ Hid (Owes R encI B p w (((forP (fun j t => (regR (regAt rs (1 + (N : Int) + j)) m).bind fun x => .ret (if x % 2 = bc then max t (x / 2) else t)) (ranksFrom m (N - j) j) tv).bind F).run S5))) (fun _ i _ => N - (intOf i).toNat)
  case atStart => exact ⟨0, 0, S4, rfl, rfl, by omega, by omega, by omega, hP, hK, hreg, g1, hD, hn0, hta, hOh⟩
  case round =>
    clear hP hK hreg g1 hD hn0 hta hOh
    obtain ⟨j, tv, S5, rfl, rfl, ht0, ht1, hj, hP, hK, hreg, g1, hD, hn0, hta, hO⟩ := hrel
    replace hO := hO.out
    by_cases hjN : j < N
    · have dj : decide ((j : Int) < (N : Int)) = true := by rw [decide_eq_true_eq]; omega
      obtain ⟨g, hg⟩ : ∃ g, N - j = g + 1 := ⟨N - j - 1, by omega⟩
      obtain ⟨rj, hrj⟩ : ∃ r, rs[1 + N + j]? = some r := ⟨_, List.getElem?_eq_getElem (by have := hlenh.out; omega)⟩
      have hokj := (hokh.out _ (List.mem_of_getElem? hrj)).1
      have hmj : (m : Int) < rj.n := by rw [(hokh.out _ (List.mem_of_getElem? hrj)).2]; omega
      have hsj : (1 + N + j) * 7 = (1 + N) * 7 + j * 7 := by omega
      obtain ⟨a0, a1, a2, a3, a4, a5, a6⟩ := hreg.nth hrj
      rw [hsj] at a0 a1 a2 a3 a4 a5 a6
      have bn := hP.held (.cells #[.int .i64 rj.kind, .int .i64 rj.base, .int .i64 rj.loc, .int .i64 rj.n, .int .i64 rj.wr, .int .i64 rj.rd, .int .i64 rj.top] 41)
      have hKn := hK.trans (Keep.alloc (.cells #[.int .i64 rj.kind, .int .i64 rj.base, .int .i64 rj.loc, .int .i64 rj.n, .int .i64 rj.wr, .int .i64 rj.rd, .int .i64 rj.top] 41) hP.lt hP.le)
      have hPn := hP.alloc (.cells #[.int .i64 rj.kind, .int .i64 rj.base, .int .i64 rj.loc, .int .i64 rj.n, .int .i64 rj.wr, .int .i64 rj.rd, .int .i64 rj.top] 41)
      have g1n := g1.alloc (.cells #[.int .i64 rj.kind, .int .i64 rj.base, .int .i64 rj.loc, .int .i64 rj.n, .int .i64 rj.wr, .int .i64 rj.rd, .int .i64 rj.top] 41) hP.lt
      have hregn := hreg.extL ((Ext.refl wr).alloc (.cells #[.int .i64 rj.kind, .int .i64 rj.base, .int .i64 rj.loc, .int .i64 rj.n, .int .i64 rj.wr, .int .i64 rj.rd, .int .i64 rj.top] 41)) hP.lt
      have c_bn := bn.cells
      by_cases hjm : j = m
      · subst hjm
        rw [hg, ranks_skip, show g = N - (j + 1) from by omega] at hO
        have hf := Lib.hid hO
        clear hO hg hK hP g1 hreg
        have djm : ((j : Int) == (j : Int)) = true := by simp
        go_wp2_with fail
        refine ⟨⟨j + 1, tv, S5, by go_num, rfl, ht0, ht1, by omega, hPn, hKn, hregn, g1n, by omega, by omega, hta, hf⟩, ?_⟩
        simp [intOf]; omega
      · have djm : ((j : Int) == (m : Int)) = false := by rw [beq_eq_false_iff_ne]; omega
        have htj := htoldh.out _ rj hrj (by omega) (by omega) (by omega)
        rw [hg, ranks_cons _ _ _ (by omega), bwMost_cons, regAt_of (show (1 : Int) + (N : Int) + (j : Int) = ((1 + N + j : Nat) : Int) from by omega) hrj, show g = N - (j + 1) from by omega] at hO
        have hOh := Lib.hid hO
        clear hO hg hK hP g1 hreg hrj
        go_wp2_with fail
        clear a0 a1 a2 a3 a4 a5 a6 c_bn bn
        refine tstepA (notes_regR _ _) hOh.out hKn (reg_read_p B p S5 rj m _ hPn hokj ⟨by omega, hmj⟩) (fun _ h => ⟨rfl, h⟩) ?_
        clear hOh hKn hPn
        intro x S6 w6 hrun hlf _ hnn hP hk hK hO
        have hxb := regR_bd hokj (told_ne htj) hta hrun
        replace hta := hta.run hrun
        replace hreg := hregn.keep hk
        replace g1 := g1n.keep hk
        clear hregn g1n hrun hk
        have hOh := Lib.hid hO
        clear hO
        go_wp2_with fail
        refine (halves_p x _ hxb.1 hxb.2).mono ?_
        rintro e w' ⟨rfl, rfl⟩
        by_cases hc : x % 2 = bc
        · have dc : (x % 2 == bc) = true := by rw [beq_iff_eq]; exact hc
          replace hO := hOh.out
          rw [if_pos hc] at hO
          have hf := Lib.hid hO
          clear hOh hO hc
          have hx2 : 0 ≤ max tv (x / 2) ∧ max tv (x / 2) ≤ 1048576 := by omega
          go_wp2_with fail
          refine ⟨⟨j + 1, max tv (x / 2), S6, by go_num, ?_, hx2.1, hx2.2, by omega, hP, hK, hreg, g1, by omega, by omega, hta, hf⟩, ?_⟩
          · rfl
          · simp [intOf]; omega
        · have dc : (x % 2 == bc) = false := by rw [beq_eq_false_iff_ne]; exact hc
          replace hO := hOh.out
          rw [if_neg hc] at hO
          have hf := Lib.hid hO
          clear hOh hO hc
          go_wp2_with fail
          refine ⟨⟨j + 1, tv, S6, by go_num, rfl, ht0, ht1, by omega, hP, hK, hreg, g1, by omega, by omega, hta, hf⟩, ?_⟩
          simp [intOf]; omega
    · obtain rfl : N = j := by omega
      have dj : decide ((N : Int) < (N : Int)) = false := by simp
      rw [Nat.sub_self, ranks_zero, forP_nilB, hFh.out] at hO
      unfold bwThrough at hO
      rw [regAt_of (show (1 : Int) + (m : Int) = ((1 + m : Nat) : Int) from by omega) hrh.out.2.1, regAt_of (show (1 : Int) + (N : Int) + (m : Int) = ((1 + N + m : Nat) : Int) from by omega) hrh.out.2.2] at hO
      have hOh := Lib.hid hO
      clear hO
      have hw1 := IntWalk.i64_in (tv + 1) (by omega)
      have hw2 := IntWalk.i64_in (2 * (tv + 1)) (by omega)
      have hw3 := IntWalk.i64_in (2 * (tv + 1) + bc) (by omega)
      have hsm : (1 + N + m) * 7 = (1 + N) * 7 + m * 7 := by omega
      obtain ⟨a0, a1, a2, a3, a4, a5, a6⟩ := hreg.nth hrh.out.2.2
      rw [hsm] at a0 a1 a2 a3 a4 a5 a6
      have c_g := g1.cells
      go_wp2_with fail
      clear a0 a1 a2 a3 a4 a5 a6 c_g
      refine tstepA (notes_regW _ _ _) hOh.out hK (reg_write_p B p S5 rm m (2 * (tv + 1) + bc) _ hP hokm ⟨by omega, hmm⟩) (fun _ h => ⟨rfl, h⟩) ?_
      clear hOh hK hP
      intro u S6 wn hrun hlf _ hnn hP hk hK hO
      replace hD := Nat.lt_of_le_of_lt hlf hD
      replace hn0 : S6.nts.length ≤ 1 := by omega
      replace hta := hta.run hrun
      replace hreg := hreg.keep hk
      replace g1 := g1.keep hk
      clear hk hrun hlf hnn
      have hOh := Lib.hid hO
      clear hO
      have c_g := g1.cells
      obtain ⟨a0, a1, a2, a3, a4, a5, a6⟩ := hreg.nth hrh.out.2.1
      rw [hsh] at a0 a1 a2 a3 a4 a5 a6
      go_wp2_with fail
      clear a0 a1 a2 a3 a4 a5 a6 c_g
      refine tstepA (notes_regW _ _ _) hOh.out hK (reg_write_p B p S6 rc m 0 _ hP hokc ⟨by omega, hmc⟩) (fun _ h => ⟨rfl, h⟩) ?_
      clear hOh hK hP
      intro u S7 wn hrun hlf _ hnn hP hk hK hO
      replace hD := Nat.lt_of_le_of_lt hlf hD
      replace hn0 : S7.nts.length ≤ 1 := by omega
      replace hta := hta.run hrun
      replace hreg := hreg.keep hk
      replace g1 := g1.keep hk
      clear hk hrun hlf hnn
      have hOh := Lib.hid hO
      clear hO
      go_wp2_with fail
      refine tstepA (notes_nt 2) hOh.out hK (noteO hP (by unfold maxAns; omega)) (fun _ h => ⟨rfl, h⟩) ?_
      clear hOh hK hP
      intro u S8 wn hrun hlf _ hnn hP hk hK hO
      replace hD := Nat.lt_of_le_of_lt hlf hD
      replace hn0 : S8.nts.length ≤ 2 := by omega
      replace hta := hta.run hrun
      replace hreg := hreg.keep hk
      replace g1 := g1.keep hk
      clear hk hrun hlf hnn
      have hOh := Lib.hid hO
      clear hO
      have c_g := g1.cells
      obtain ⟨G, hG⟩ : ∃ G : Unit → Prog Int, G = fun _ => (nt 3).bind fun _ => .ret 0 := ⟨_, rfl⟩
      replace hO := hOh.out
      unfold bwIn at hO
      rw [← hG, Int.toNat_natCast] at hO
      clear hOh
      have hOh := Lib.hid hO
      have hGh := Lib.hid hG
      clear hO hG
      generalize hT : tv + 1 = T at *
      have hT0 : 1 ≤ T ∧ T ≤ 1048577 := by omega
      clear hT hw1 hw2 hw3
      go_wp2_with fail
      clear c_g
      go_loopw [101] (fun i wr => ∃ (j : Nat) (S5 : TS), i = .int .i64 j ∧ j ≤ N ∧ Plays B wr p S5 ∧ KeepP B p w wr ∧ RegsAt [2, 3, 4] wr p b rs ∧ HeldP wr p z (.cells #[.int .i64 r0.kind, .int .i64 r0.base, .int .i64 r0.loc, .int .i64 r0.n, .int .i64 r0.wr, .int .i64 r0.rd, .int .i64 r0.top, .slice (some ⟨b, 7, none⟩) N c1, .slice (some ⟨b, (1 + N) * 7, none⟩) N c2, .int .i64 (loc + sumL rs)] 79) ∧ S5.left < D ∧ S5.nts.length ≤ 2 ∧ TameA S5 ∧ Hid (Owes R encI B p w (((forP (fun j _ => bwFor rs D N m j T bc) (ranksFrom m (N - j) j) ()).bind G).run S5))) (fun i _ => N - (intOf i).toNat)
      case atStart => exact ⟨0, S8, rfl, by omega, hP, hK, hreg, g1, hD, hn0, hta, hOh⟩
      case round =>
        clear hP hK hreg g1 hD hn0 hta hOh
        obtain ⟨j, S5, rfl, hj, hP, hK, hreg, g1, hD, hn0, hta, hOh⟩ := hrel
        by_cases hjN : j < N
        · have dj : decide ((j : Int) < (N : Int)) = true := by rw [decide_eq_true_eq]; omega
          obtain ⟨g, hg⟩ : ∃ g, N - j = g + 1 := ⟨N - j - 1, by omega⟩
          go_wp2_with fail
          rename_i hKK
          replace hKK := Lib.hid hKK
          by_cases hjm : j = m
          · subst hjm
            replace hO := hOh.out
            rw [hg, ranks_skip, show g = N - (j + 1) from by omega] at hO
            have hf := Lib.hid hO
            clear hO hOh hg
            have djm : ((j : Int) == (j : Int)) = true := by simp
            refine wp_scope_straight ?_
            go_wp2_with fail
            refine hKK.out _ _ ?_
            go_wp2_with fail
            refine ⟨⟨j + 1, S5, by go_num, by omega, hP, hK, hreg, g1, by omega, by omega, hta, hf⟩, ?_⟩
            simp [intOf]; omega
          · have djm : ((j : Int) == (m : Int)) = false := by rw [beq_eq_false_iff_ne]; omega
            obtain ⟨rh, hrh1⟩ : ∃ r, rs[1 + j]? = some r := ⟨_, List.getElem?_eq_getElem (by have := hlenh.out; omega)⟩
            obtain ⟨rj, hrj⟩ : ∃ r, rs[1 + N + j]? = some r := ⟨_, List.getElem?_eq_getElem (by have := hlenh.out; omega)⟩
            have hokx := (hokh.out _ (List.mem_of_getElem? hrh1)).1
            have hmx : (m : Int) < rh.n := by rw [(hokh.out _ (List.mem_of_getElem? hrh1)).2]; omega
            have hokj := (hokh.out _ (List.mem_of_getElem? hrj)).1
            have hmj : (m : Int) < rj.n := by rw [(hokh.out _ (List.mem_of_getElem? hrj)).2]; omega
            have htx := htoldh.out _ rh hrh1 (by omega) (by omega) (by omega)
            have htj := htoldh.out _ rj hrj (by omega) (by omega) (by omega)
            obtain ⟨H, hH⟩ : ∃ H : Unit → Prog Int, H = fun _ => (forP (fun j _ => bwFor rs D N m j T bc) (ranksFrom m (N - (j + 1)) ((j : Int) + 1)) ()).bind G := ⟨_, rfl⟩
            replace hO := hOh.out
            rw [hg, ranks_cons _ _ _ (by omega), forP_consB, show g = N - (j + 1) from by omega, bwFor_bind, regAt_of (show (1 : Int) + (j : Int) = ((1 + j : Nat) : Int) from by omega) hrh1, ← hH] at hO
            have hHh := Lib.hid hH
            have hOh2 := Lib.hid hO
            have hrjh := Lib.hid (And.intro hrh1 hrj)
            clear hO hOh hg hH hrh1 hrj
            obtain ⟨J0, hJ0⟩ : ∃ J0 : World → Prop, ∀ wr, J0 wr ↔ ∃ (n : Nat) (S6 : TS), Plays B wr p S6 ∧ KeepP B p w wr ∧ RegsAt [2, 3, 4] wr p b rs ∧ HeldP wr p z (.cells #[.int .i64 r0.kind, .int .i64 r0.base, .int .i64 r0.loc, .int .i64 r0.n, .int .i64 r0.wr, .int .i64 r0.rd, .int .i64 r0.top, .slice (some ⟨b, 7, none⟩) N c1, .slice (some ⟨b, (1 + N) * 7, none⟩) N c2, .int .i64 (loc + sumL rs)] 79) ∧ S6.left < D ∧ S6.nts.length ≤ 2 ∧ TameA S6 ∧ S6.left < n ∧ Hid (Owes R encI B p w (((zeroP rh m n).bind fun _ => (bwWait rs N m j T bc D).bind H).run S6)) := ⟨_, fun _ => Iff.rfl⟩
            obtain ⟨J1, hJ1⟩ : ∃ J1 : World → Prop, ∀ wr, J1 wr ↔ ∃ (n : Nat) (S6 : TS), Plays B wr p S6 ∧ KeepP B p w wr ∧ RegsAt [2, 3, 4] wr p b rs ∧ HeldP wr p z (.cells #[.int .i64 r0.kind, .int .i64 r0.base, .int .i64 r0.loc, .int .i64 r0.n, .int .i64 r0.wr, .int .i64 r0.rd, .int .i64 r0.top, .slice (some ⟨b, 7, none⟩) N c1, .slice (some ⟨b, (1 + N) * 7, none⟩) N c2, .int .i64 (loc + sumL rs)] 79) ∧ S6.left < D ∧ S6.nts.length ≤ 2 ∧ TameA S6 ∧ S6.left < n ∧ Hid (Owes R encI B p w (((bwWait rs N m j T bc n).bind H).run S6)) := ⟨_, fun _ => Iff.rfl⟩
            refine wp_scope_mask [false, false, false, false, false, false, false, false, false, false, false, false, false, false, false, false, true, true, false, false, false, false, false, false, false, false, false, false, false, false, false, false, false, false, false, false, false, false, false, false, false, false, false, false, false, false, false, false, false, false, false, false, false, false, false, false, false, false, false, false, false, false, false, false, false, false, false, false, false, false, false, false, false, false, false, false, false, false, false, false, false, false, false, false, false, false, false, false, false, false, false, false, false, false, false, false, false, false, false, false, false, false, false, false, true, true, true, true, true, true, true, true, true, true, true, true, true, true, true, true, true, true, true, true, true, true, true, true, true, true, true, true, true, true, true, true, true, true, true, true, true, true, true, true, true, true, true, true, true, true, true, true, true, true, true, true, true, true, true, true, true, true, true, true] (fun l wr => l = 0 ∧ J0 wr ∨ l = 1 ∧ J1 wr) (fun _ wr => leftW 1 3 wr p) ?pass ?first
            case first =>
              intro hfall
              refine (fun (hfall : Hid _) => ?_) (Lib.hid hfall)
              go_wp2_with fail
              refine wp_label ?_
              rename_i hKK2
              replace hKK2 := Lib.hid hKK2
              refine hKK2.out _ _ ?_
              exact hfall.out 0 _ _ _ rfl ⟨rfl, rfl, rfl⟩ (.inl ⟨rfl, (hJ0 _).2 ⟨D, S5, hP, hK, hreg, g1, hD, hn0, hta, hD, hOh2⟩⟩)
            case pass =>
              clear hP hK hreg g1 hD hn0 hta hOh2
              intro l wq hrel ih
              refine (fun (ih : Hid _) => ?_) (Lib.hid ih)
              dsimp only [FrG]
              intro u16 u17 u104 u105 u106 u107 u108 u109 u110 u111 u112 u113 u114 u115 u116 u117 u118 u119 u120 u121 u122 u123 u124 u125 u126 u127 u128 u129 u130 u131 u132 u133 u134 u135 u136 u137 u138 u139 u140 u141 u142 u143 u144 u145 u146 u147 u148 u149 u150 u151 u152 u153 u154 u155 u156 u157 u158 u159 u160 u161 u162 u163
              rcases hrel with ⟨rfl, hrel⟩ | ⟨rfl, hrel⟩
              · rw [hJ0] at hrel
                obtain ⟨n, S6, hP, hK, hreg, g1, hD, hn0, hta, hDn, hOh⟩ := hrel
                cases n with
                | zero => omega
                | succ n =>
                  refine ⟨_, rfl, ?_⟩
                  replace hO := hOh.out
                  rw [zeroP_bind] at hO
                  clear hOh
                  have hOh := Lib.hid hO
                  clear hO
                  have hlw := Lib.hid hP.left
                  have c_g := g1.cells
                  obtain ⟨a0, a1, a2, a3, a4, a5, a6⟩ := hreg.nth hrjh.out.1
                  rw [show (1 + j) * 7 = 7 + j * 7 from by omega] at a0 a1 a2 a3 a4 a5 a6
                  go_wp2_with fail
                  clear a0 a1 a2 a3 a4 a5 a6 c_g
                  refine tstepA (notes_regR _ _) hOh.out hK (reg_read_p B p S6 rh m _ hP hokx ⟨by omega, hmx⟩) (fun _ h => ⟨rfl, h⟩) ?_
                  clear hOh hK hP
                  intro x S7 wn hrun hlf hla hnn hP hk hK hO
                  have hlt := hla (asks_regR _ _ htx)
                  replace hD := Nat.lt_of_le_of_lt hlf hD
                  replace hn0 := Nat.le_trans hnn hn0
                  replace hreg := hreg.keep hk
                  replace g1 := g1.keep hk
                  replace hta := hta.run hrun
                  clear hk hnn hrun hlf
                  have hlw2 := Lib.hid hP.left
                  by_cases hx : x = 0
                  · have dx : (x != 0) = false := by simpa using hx
                    rw [if_pos hx] at hO
                    have hOh := Lib.hid hO
                    clear hO hx
                    go_wp2_with fail
                    refine wp_label ?_
                    rename_i hKK2
                    replace hKK2 := Lib.hid hKK2
                    refine hKK2.out _ _ ?_
                    refine ih.out 1 _ _ _ rfl ⟨rfl, rfl, rfl⟩ (.inr ⟨rfl, (hJ1 _).2 ⟨D, S7, hP, hK, hreg, g1, hD, hn0, hta, hD, hOh⟩⟩) ?_
                    rw [hlw.out, hlw2.out]
                    exact hlt
                  · have dx : (x != 0) = true := by simpa using hx
                    rw [if_neg hx] at hO
                    have hOh := Lib.hid hO
                    clear hO hx
                    go_wp2_with fail
                    refine wp_goto ?_
                    refine And.intro ⟨⟨rfl, rfl, rfl⟩, .inl ⟨rfl, (hJ0 _).2 ⟨n, S7, hP, hK, hreg, g1, hD, hn0, hta, by omega, hOh⟩⟩⟩ ?_
                    rw [hlw.out, hlw2.out]
                    exact hlt
              · rw [hJ1] at hrel
                obtain ⟨n, S6, hP, hK, hreg, g1, hD, hn0, hta, hDn, hOh⟩ := hrel
                cases n with
                | zero => omega
                | succ n =>
                  refine ⟨_, rfl, ?_⟩
                  replace hO := hOh.out
                  rw [bwWait_bind, regAt_of (show (1 : Int) + (N : Int) + (j : Int) = ((1 + N + j : Nat) : Int) from by omega) hrjh.out.2, regAt_of (show (0 : Int) = ((0 : Nat) : Int) from rfl) hrh.out.1] at hO
                  clear hOh
                  have hOh := Lib.hid hO
                  clear hO
                  have hlw := Lib.hid hP.left
                  have c_g := g1.cells
                  obtain ⟨a0, a1, a2, a3, a4, a5, a6⟩ := hreg.nth hrjh.out.2
                  rw [show (1 + N + j) * 7 = (1 + N) * 7 + j * 7 from by omega] at a0 a1 a2 a3 a4 a5 a6
                  go_wp2_with fail
                  clear a0 a1 a2 a3 a4 a5 a6 c_g
                  refine tstepA (notes_regR _ _) hOh.out hK (reg_read_p B p S6 rj m _ hP hokj ⟨by omega, hmj⟩) (fun _ h => ⟨rfl, h⟩) ?_
                  clear hOh hK hP
                  intro x S7 wn hrun hlf hla hnn hP hk hK hO
                  have hlt := hla (asks_regR _ _ htj)
                  have hxb := regR_bd hokj (told_ne htj) hta hrun
                  replace hD := Nat.lt_of_le_of_lt hlf hD
                  replace hn0 := Nat.le_trans hnn hn0
                  replace hreg := hreg.keep hk
                  replace g1 := g1.keep hk
                  replace hta := hta.run hrun
                  clear hk hnn hrun
                  have hlt2 : S7.left < n := by omega
                  clear hla hlf
                  have hOh := Lib.hid hO
                  clear hO
                  go_wp2_with fail
                  refine (halves_p x _ hxb.1 hxb.2).mono ?_
                  rintro e w' ⟨rfl, rfl⟩
                  replace hO := hOh.out
                  clear hOh
                  generalize x / 2 = xt at *
                  generalize x % 2 = xc at *
                  clear hxb
                  by_cases hq0 : xt = 0
                  · have d0 : (xt == 0) = true := by rw [beq_iff_eq]; exact hq0
                    rw [if_pos hq0] at hO
                    have hOh := Lib.hid hO
                    clear hO hq0
                    replace hO := hOh.out
                    rw [hHh.out] at hO
                    have hf := Lib.hid hO
                    clear hO hOh
                    go_wp2_with fail
                    refine hKK.out _ _ ?_
                    go_wp2_with fail
                    refine ⟨⟨j + 1, S7, by go_num, by omega, hP, hK, hreg, g1, hD, hn0, hta, hf⟩, ?_⟩
                    simp [intOf]; omega
                  · have d0 : (xt == 0) = false := by rw [beq_eq_false_iff_ne]; exact hq0
                    rw [if_neg hq0] at hO
                    clear hq0
                    by_cases hqc : xc = bc
                    · have dc : (xc == bc) = true := by rw [beq_iff_eq]; exact hqc
                      have dc2 : (xc != bc) = false := by simpa using hqc
                      rw [if_pos hqc] at hO
                      clear hqc
                      by_cases hg1 : T < xt
                      · have d1 : decide (T < xt) = true := by rw [decide_eq_true_eq]; exact hg1
                        rw [if_pos (.inl hg1)] at hO
                        have hOh := Lib.hid hO
                        clear hO hg1
                        replace hO := hOh.out
                        rw [hHh.out] at hO
                        have hf := Lib.hid hO
                        clear hO hOh
                        go_wp2_with fail
                        refine hKK.out _ _ ?_
                        go_wp2_with fail
                        refine ⟨⟨j + 1, S7, by go_num, by omega, hP, hK, hreg, g1, hD, hn0, hta, hf⟩, ?_⟩
                        simp [intOf]; omega
                      · have d1 : decide (T < xt) = false := by rw [decide_eq_false_iff_not]; exact hg1
                        by_cases hg2 : xt = T
                        · have d2 : (xt == T) = true := by rw [beq_iff_eq]; exact hg2
                          by_cases hg3 : (m : Int) < (j : Int)
                          · have d3 : decide (m < j) = true := by rw [decide_eq_true_eq]; omega
                            rw [if_pos (.inr ⟨hg2, hg3⟩)] at hO
                            have hOh := Lib.hid hO
                            clear hO hg1 hg2 hg3
                            replace hO := hOh.out
                            rw [hHh.out] at hO
                            have hf := Lib.hid hO
                            clear hO hOh
                            go_wp2_with fail
                            refine hKK.out _ _ ?_
                            go_wp2_with fail
                            refine ⟨⟨j + 1, S7, by go_num, by omega, hP, hK, hreg, g1, hD, hn0, hta, hf⟩, ?_⟩
                            simp [intOf]; omega
                          · have d3 : decide (m < j) = false := by rw [decide_eq_false_iff_not]; omega
                            rw [if_neg (by omega)] at hO
                            have hOh := Lib.hid hO
                            clear hO hg1 hg2 hg3
                            have hlw2 := Lib.hid hP.left
                            go_wp2_with fail
                            first | refine wp_goto ?_ | skip
                            refine And.intro ⟨⟨rfl, rfl, rfl⟩, .inr ⟨rfl, (hJ1 _).2 ⟨n, S7, hP, hK, hreg, g1, hD, hn0, hta, by omega, hOh⟩⟩⟩ ?_
                            rw [hlw.out, hlw2.out]
                            omega
                        · have d2 : (xt == T) = false := by rw [beq_eq_false_iff_ne]; exact hg2
                          rw [if_neg (by omega)] at hO
                          have hOh := Lib.hid hO
                          clear hO hg1 hg2
                          have hlw2 := Lib.hid hP.left
                          go_wp2_with fail
                          first | refine wp_goto ?_ | skip
                          refine And.intro ⟨⟨rfl, rfl, rfl⟩, .inr ⟨rfl, (hJ1 _).2 ⟨n, S7, hP, hK, hreg, g1, hD, hn0, hta, by omega, hOh⟩⟩⟩ ?_
                          rw [hlw.out, hlw2.out]
                          omega
                    · have dc : (xc == bc) = false := by rw [beq_eq_false_iff_ne]; exact hqc
                      have dc2 : (xc != bc) = true := by simpa using hqc
                      rw [if_neg hqc] at hO
                      have hOh := Lib.hid hO
                      clear hO hqc
                      have c_g := g1.cells
                      go_wp2_with fail
                      clear c_g
                      refine tstepA (notes_regR _ _) hOh.out hK (reg_read_p B p S7 r0 m _ hP hok0 ⟨by omega, hm0'⟩) (fun _ h => ⟨rfl, h⟩) ?_
                      clear hOh hK hP
                      intro y2 S8 wn hrun hlf hla hnn hP hk hK hO
                      replace hD := Nat.lt_of_le_of_lt hlf hD
                      replace hn0 := Nat.le_trans hnn hn0
                      replace hreg := hreg.keep hk
                      replace g1 := g1.keep hk
                      replace hta := hta.run hrun
                      clear hk hnn hrun
                      have hOh := Lib.hid hO
                      clear hO
                      go_wp2_with fail
                      refine (bwbit_p y2 _).mono ?_
                      rintro e w' ⟨rfl, rfl⟩
                      replace hO := hOh.out
                      clear hOh
                      generalize bitM y2 = b2 at *
                      by_cases hb : b2 = bc
                      · have db : (b2 != bc) = false := by simpa using hb
                        rw [if_pos hb] at hO
                        have hOh := Lib.hid hO
                        clear hO hb
                        have hlw2 := Lib.hid hP.left
                        go_wp2_with fail
                        first | refine wp_goto ?_ | skip
                        refine And.intro ⟨⟨rfl, rfl, rfl⟩, .inr ⟨rfl, (hJ1 _).2 ⟨n, S8, hP, hK, hreg, g1, hD, hn0, hta, by omega, hOh⟩⟩⟩ ?_
                        rw [hlw.out, hlw2.out]
                        omega
                      · have db : (b2 != bc) = true := by simpa using hb
                        rw [if_neg hb] at hO
                        have hOh := Lib.hid hO
                        clear hO hb
                        replace hO := hOh.out
                        rw [hHh.out] at hO
                        have hf := Lib.hid hO
                        clear hO hOh
                        go_wp2_with fail
                        refine hKK.out _ _ ?_
                        go_wp2_with fail
                        refine ⟨⟨j + 1, S8, by go_num, by omega, hP, hK, hreg, g1, hD, hn0, hta, hf⟩, ?_⟩
                        simp [intOf]; omega
        · obtain rfl : N = j := by omega
          have dj : decide ((N : Int) < (N : Int)) = false := by simp
          replace hO := hOh.out
          rw [Nat.sub_self, ranks_zero, forP_nilB, hGh.out] at hO
          have hOh2 := Lib.hid hO
          clear hO hOh
          go_wp2_with fail
          refine tstepN (notes_nt 3) hOh2.out hK (noteO hP (by unfold maxAns; omega)) (fun _ h => ⟨rfl, h⟩) ?_
          clear hOh2 hK hP
          intro u S9 w9 _ _ _ hP _ hK hO
          have hf := hO.done (v := (0 : Int)) hP hK
          clear hO hP hK
          go_wp2_with fail
          first | exact hf | (go_ret; exact hf)
end Go.Proofs.Ytpcohbpeglledaa
/-
  make([]int, n): a row of noughts.
-/
namespace Kv
/-- So many noughts. -/
def zeros (n : Nat) : List Int := List.replicate n 0
end Kv
namespace Go.Proofs.Ytpcohbpeglledaa
open Go.RowKit Kv
theorem make_ints (l : Int) (k : Nat) (hl : l = k) (hk : k ≤ 100000) (w : World) :
    (Instr.makeSlice 22 (.int .i64 l) (.int .i64 l)).run Try.prog w = .ok (.slice (some ⟨w.heap.size, 0, none⟩) k k) (w.alloc (.cells ((zeros k).map (Value.int .i64)).toArray 3)) := by
  subst hl
  obtain ⟨i0, hi, hz0, hz1, hz2⟩ := info_parts info_int
  have hr := run_makeSlice (P := Try.prog) w 22 3 i0 (.int .i64 0) Try.underlying22 hi hz0 .i64 .i64 k k (by omega) (by omega) (by rw [hz1]; simp; omega) (by rw [hz2]; omega) (by omega)
  rw [Int.toNat_natCast, hz1, Nat.mul_one] at hr
  have he : madeCells (Value.int .i64 0).cells k = ((zeros k).map (Value.int .i64)).toArray := by
    unfold zeros madeCells
    apply Array.ext'
    rw [List.map_replicate]
    apply List.ext_getElem?
    intro j
    by_cases hj : j < k
    · simp [hj, Nat.mod_one, Value.cells]
    · simp [hj]
  rw [hr, he]
end Go.Proofs.Ytpcohbpeglledaa
/-
  The black-white bakery: the chapter's example.
-/
namespace Kv
def bq0 : Reg := ⟨1, 0, 0, 2, -1, -1, 1⟩
def bq1 : Reg := ⟨1, 1, 0, 2, 0, -1, 1⟩
def bq2 : Reg := ⟨1, 2, 0, 2, 1, -1, 1⟩
def bq3 : Reg := ⟨1, 3, 0, 2, 0, -1, 8⟩
def bq4 : Reg := ⟨1, 4, 0, 2, 1, -1, 8⟩
def bqs : List Reg := [bq0, bq1, bq2, bq3, bq4]
end Kv
namespace Go.Proofs.Ytpcohbpeglledaa
open Go.RowKit Kv
theorem tameA_zeros (k : Nat) : TameA (TS0 [] (List.replicate k 0)) := by
  intro v hv
  obtain rfl := List.eq_of_mem_replicate (show v ∈ List.replicate k (0 : Int) from hv)
  omega
theorem bqs_ok : ∀ r ∈ bqs, r.ok ∧ r.n = ((2 : Nat) : Int) := by
  intro r hr
  unfold bqs at hr
  simp only [List.mem_cons, List.not_mem_nil, or_false] at hr
  rcases hr with rfl | rfl | rfl | rfl | rfl <;> exact ⟨⟨.inl rfl, by decide, by decide, by decide, fun h => by cases h⟩, rfl⟩
theorem bqs_told (m : Int) : ∀ r ∈ bqs, r.told m := by
  intro r hr
  unfold bqs at hr
  simp only [List.mem_cons, List.not_mem_nil, or_false] at hr
  rcases hr with rfl | rfl | rfl | rfl | rfl <;> exact .inl rfl
theorem bal1 (B p : Nat) (S : TS) (bk : Nat) (w : World) (h : Plays B w p S) (hta : TameA S) (hD : S.left < 8) (hn0 : S.nts.length = 0)
    (c1 : ∀ i, w.cell? ⟨bk, i, none⟩ = (#[.int .i64 3, .int .i64 2, .int .i64 1, .int .i64 0, .int .i64 0, .int .i64 0] : Array Value)[i]?) :
    Calls Try.prog 64 #[.pointer (some ⟨p, 0, none⟩), .pointer (some ⟨bk, 0, none⟩)] w (Post encI B p w ((bwA 8 bqs (0 + sumL bqs) 2 0).run S)) := by
  have hq : Calls Try.prog 33 #[.pointer (some ⟨p, 0, none⟩), .agg #[.int .i64 3, .int .i64 2, .int .i64 1, .int .i64 0, .int .i64 0, .int .i64 0], .int .i64 0] w (Post encI B p w ((bwA 8 bqs (0 + sumL bqs) 2 0).run S)) :=
    bwacq_p B p 2 8 S 3 1 0 0 0 0 bqs w h (by decide) (by decide) (by decide) rfl (by decide) bqs_ok (fun i r hi _ _ _ => bqs_told _ r (List.mem_of_getElem? hi)) hta hD hn0
  generalize hR : Post encI B p w ((bwA 8 bqs (0 + sumL bqs) 2 0).run S) = R
  have hO : Owes R encI B p w ((bwA 8 bqs (0 + sumL bqs) 2 0).run S) := hR ▸ owes _ _ _ _ _
  clear hR
  have hK := Keep.refl [2, 3, 4] B p w
  go_enter Try.func64, Try.ntmps64
  go_wp2_with fail
  clear c1
  refine tlast hO hK hq (fun _ h => ⟨rfl, h⟩) ?_
  intro v S1 w1 hr hP1 hk1 hK1 hO1
  have hf := hO1.done hP1 hK1
  clear hO1 hP1 hK1 hr hk1 hO h hK hq
  go_wp2_with fail
  first | exact hf | (go_ret; exact hf)
set_option maxRecDepth 100000 in
set_option maxHeartbeats 1000000 in
theorem alive25 (w : World) : Calls Try.prog 31 #[] w fun e w' => e = .returned (.bool true) ∧ Ext w w' := by
  have hmf : ∀ (fn : Fn) (first cap : Array Value) (w : World), (Instr.makeFunc fn first cap).run Try.prog w = .ok (.func fn first cap) w := fun _ _ _ _ => rfl
  have hmk : ∀ w, (Instr.makeSlice 22 (.int .i64 7) (.int .i64 7)).run Try.prog w = .ok (.slice (some ⟨w.heap.size, 0, none⟩) 7 7) (w.alloc (.cells #[.int .i64 0, .int .i64 0, .int .i64 0, .int .i64 0, .int .i64 0, .int .i64 0, .int .i64 0] 3)) := fun w => make_ints 7 7 rfl (by decide) w
  go_enter Try.func31, Try.ntmps31
  go_wp2_with fail
  have b1 := Blk.new w (.cells #[.int .i64 3, .int .i64 2, .int .i64 1, .int .i64 0, .int .i64 0, .int .i64 0] 44)
  have hX := (Ext.refl w).alloc (.cells #[.int .i64 3, .int .i64 2, .int .i64 1, .int .i64 0, .int .i64 0, .int .i64 0] 44)
  have hA := ints_new (w.alloc (.cells #[.int .i64 3, .int .i64 2, .int .i64 1, .int .i64 0, .int .i64 0, .int .i64 0] 44)) [0, 0, 0, 0, 0, 0, 0] (by simp)
  replace b1 := b1.alloc (.cells (([0, 0, 0, 0, 0, 0, 0] : List Int).map (Value.int .i64)).toArray 3)
  replace hX := hX.alloc (.cells (([0, 0, 0, 0, 0, 0, 0] : List Int).map (Value.int .i64)).toArray 3)
  simp only [World.size_alloc, List.map_cons, List.map_nil, List.length_cons, List.length_nil] at b1 hA hX
  have hsz : w.heap.size + 1 < (World.alloc (World.alloc w (.cells #[.int .i64 3, .int .i64 2, .int .i64 1, .int .i64 0, .int .i64 0, .int .i64 0] 44)) (.cells #[.int .i64 0, .int .i64 0, .int .i64 0, .int .i64 0, .int .i64 0, .int .i64 0, .int .i64 0] 3)).heap.size := by simp
  generalize World.alloc (World.alloc w _) _ = V1 at *
  refine (play_err 64 #[.pointer (some ⟨w.heap.size, 0, none⟩)] (bwA 8 bqs (0 + sumL bqs) 2 0) none 0 [] (some ⟨w.heap.size + 1, 0, none⟩) 7 [0, 0, 0, 0, 0, 0, 0] V1 (Ints.nil _) (by simp) hA (by decide) (fun k hk => by simp only [Value.ownBlock, Option.some.injEq] at hk; omega) (fun _ _ => rfl) (fun W p hxW hP => bal1 _ p _ w.heap.size W hP (tameA_zeros 7) (by decide) rfl (b1.ext hxW).cells)).mono ?_
  rintro e y1 ⟨v1, rfl, hO, hx1⟩
  have e1 : ((bwA 8 bqs (0 + sumL bqs) 2 0).run (TS0 [] [0, 0, 0, 0, 0, 0, 0])).1 = some 0 := by decide +kernel
  have e2 : ((bwA 8 bqs (0 + sumL bqs) 2 0).run (TS0 [] [0, 0, 0, 0, 0, 0, 0])).2.acc.length = 7 := by decide +kernel
  have e3 : ((bwA 8 bqs (0 + sumL bqs) 2 0).run (TS0 [] [0, 0, 0, 0, 0, 0, 0])).2.acc[3]? = some ⟨2, 3, 2⟩ := by rfl
  have e4 : ((bwA 8 bqs (0 + sumL bqs) 2 0).run (TS0 [] [0, 0, 0, 0, 0, 0, 0])).2.nts.length = 3 := by decide +kernel
  have e5 : ((bwA 8 bqs (0 + sumL bqs) 2 0).run (TS0 [] [0, 0, 0, 0, 0, 0, 0])).2.nts[1]? = some ⟨2, 5⟩ := by rfl
  rw [e1] at hO ⊢
  generalize ((bwA 8 bqs (0 + sumL bqs) 2 0).run (TS0 [] [0, 0, 0, 0, 0, 0, 0])).2 = S1 at *
  obtain ⟨A1, c1, A1', c1', vs1, L1, rfl, hO⟩ := hO
  obtain ⟨As1, k1, hvs1, _, _⟩ := hO.locs.slice
  subst hvs1
  obtain ⟨u2, rfl, hu2, z20, z21, z22⟩ := hO.accs.at_ e3
  obtain ⟨u3, rfl, hu3, z30, z31⟩ := hO.nts.at_ e5
  simp only [Nat.reduceMul, Nat.reduceAdd] at z20 z21 z22 z30 z31
  unfold outV
  rw [e2, e4] at *
  simp only [Option.getD_some, Option.isSome_some]
  replace hX := hX.trans hx1
  have s2 := (Ext.refl y1).alloc (.cells #[.bool true, .slice (some ⟨u2, 0, none⟩) 7 c1, .slice (some ⟨u3, 0, none⟩) 3 c1', .slice As1 (shortL L1).length k1] 32)
  have n1 := Blk.new y1 (.cells #[.bool true, .slice (some ⟨u2, 0, none⟩) 7 c1, .slice (some ⟨u3, 0, none⟩) 3 c1', .slice As1 (shortL L1).length k1] 32)
  replace hX := hX.alloc (.cells #[.bool true, .slice (some ⟨u2, 0, none⟩) 7 c1, .slice (some ⟨u3, 0, none⟩) 3 c1', .slice As1 (shortL L1).length k1] 32)
  replace z20 := (s2.cell (p := ⟨u2, 9, none⟩) hu2).trans z20
  replace z21 := (s2.cell (p := ⟨u2, 10, none⟩) hu2).trans z21
  replace z22 := (s2.cell (p := ⟨u2, 11, none⟩) hu2).trans z22
  replace z30 := (s2.cell (p := ⟨u3, 2, none⟩) hu3).trans z30
  replace z31 := (s2.cell (p := ⟨u3, 3, none⟩) hu3).trans z31
  clear e1 e2 e3 e4 e5 hO hx1 hA hsz s2 b1
  have c_n1 := n1.cells
  have hXh := Lib.hid hX
  clear n1 hX
  go_wp2_with fail
  refine (bwwants_p 2 _ (by decide) (by decide)).mono ?_
  rintro e w3 ⟨v3, rfl, hw, hx⟩
  have hf := Lib.hid (hXh.out.trans hx)
  obtain ⟨A3, c3, rfl, -, -, -⟩ := hw
  rw [bwWants_len]
  clear hx hmf
  go_wp2_with fail
  go_ret
  exact ⟨rfl, hf.out⟩
end Go.Proofs.Ytpcohbpeglledaa
/-
  BlackwhiteDoor, walked.
-/
namespace Go.Proofs.Ytpcohbpeglledaa
open Go.RowKit Kv
theorem natB_lay {N : Nat} (h1 : 1 ≤ N) (h2 : N ≤ 8) : layM (bwWants N) N 1 0 0 = some (natB N) := by
  have : N = 1 ∨ N = 2 ∨ N = 3 ∨ N = 4 ∨ N = 5 ∨ N = 6 ∨ N = 7 ∨ N = 8 := by omega
  rcases this with rfl | rfl | rfl | rfl | rfl | rfl | rfl | rfl <;> rfl
theorem natB_told (N : Nat) (me : Int) : ∀ r ∈ natB N, r.told me := by
  intro r hr
  unfold natB at hr
  obtain ⟨i, _, rfl⟩ := List.mem_map.1 hr
  exact .inl rfl
@[go_sem] theorem build_nt2 (a b : Int) (w : World) : (Instr.build 53 #[(0, .int .i64 a), (1, .int .i64 b)]).run Try.prog w = .ok (.agg #[.int .i64 a, .int .i64 b]) w := run_build w 53 _ _ (by kernel_rfl)
@[go_sem] theorem build_acc4 (a b c : Int) (w : World) : (Instr.build 39 #[(0, .int .i64 a), (1, .int .i64 b), (2, .int .i64 c)]).run Try.prog w = .ok (.agg #[.int .i64 a, .int .i64 b, .int .i64 c]) w := run_build w 39 _ _ (by kernel_rfl)
@[go_sem] theorem build_lock4 (a b c : Int) (w : World) : (Instr.build 44 #[(0, .int .i64 a), (1, .int .i64 b), (2, .int .i64 c)]).run Try.prog w = .ok (.agg #[.int .i64 a, .int .i64 b, .int .i64 c, .int .i64 0, .int .i64 0, .int .i64 0]) w := run_build w 44 _ _ (by kernel_rfl)
theorem append_z {ops : Array Oper} {rest : List Oper} {o : Oper} {a : Act} {Q : Exit → Act → World → Prop} {w : World} (hgd : o.guard = none) (s x : Operand)
    (ho : o.op = .call { callee := .builtin .append, args := #[s, x], argTypes := #[22, 3] }) (v v' : Value) (k : Int) (w' : World) (hs : a.eval s = v) (hx : a.eval x = .int .i64 k)
    (hr : (Builtin.append_ #[22, 3] o.type #[v, .int .i64 k]).run Try.prog w = .ok v' w') (h : wpList Try.prog ops Q rest (a.put o.dst v') w') : wpList Try.prog ops Q (o :: rest) a w :=
  wpList_plain hgd fun _ hK => by
    unfold Oper.wp execOp
    simp only [ho, resolve, invoke, builtin, Sem.run_bind, Sem.run_pure, Result.andThen_ok, List.map_toArray, List.map_cons, List.map_nil, hs, hx, hr]
    exact hK _ _ h
theorem door1 (B p : Nat) (S : TS) (N m D : Nat) (bk bt : Nat) (w : World) (h : Plays B w p S) (h1 : 1 ≤ N) (h2 : N ≤ 8) (hm : m < N) (hta : TameA S) (hD : S.left < D) (hn0 : S.nts.length = 0)
    (c1 : ∀ i, w.cell? ⟨bk, i, none⟩ = (#[.int .i64 3, .int .i64 N, .int .i64 1, .int .i64 0, .int .i64 0, .int .i64 0] : Array Value)[i]?) (c2 : w.cell? ⟨bt, 0, none⟩ = some (.int .i64 m)) :
    Calls Try.prog 32 #[.pointer (some ⟨p, 0, none⟩), .pointer (some ⟨bk, 0, none⟩), .pointer (some ⟨bt, 0, none⟩)] w (Post encI B p w ((bwA D (natB N) (0 + sumL (natB N)) N m).run S)) := by
  have hl := natB_lay h1 h2
  have hq : Calls Try.prog 33 #[.pointer (some ⟨p, 0, none⟩), .agg #[.int .i64 3, .int .i64 N, .int .i64 1, .int .i64 0, .int .i64 0, .int .i64 0], .int .i64 m] w (Post encI B p w ((bwA D (natB N) (0 + sumL (natB N)) N m).run S)) :=
    bwacq_p B p N D S 3 1 0 0 0 m (natB N) w h h1 h2 hm hl (by decide) (laid_all hl) (fun i r hi _ _ _ => natB_told N m r (List.mem_of_getElem? hi)) hta hD hn0
  generalize hR : Post encI B p w ((bwA D (natB N) (0 + sumL (natB N)) N m).run S) = R
  have hO : Owes R encI B p w ((bwA D (natB N) (0 + sumL (natB N)) N m).run S) := hR ▸ owes _ _ _ _ _
  clear hR
  have hK := Keep.refl [2, 3, 4] B p w
  clear hl
  go_enter Try.func32, Try.ntmps32
  go_wp2_with fail
  clear c1 c2
  refine tlast hO hK hq (fun _ h => ⟨rfl, h⟩) ?_
  intro v S1 w1 hr hP1 hk1 hK1 hO1
  have hf := hO1.done hP1 hK1
  clear hO1 hP1 hK1 hr hk1 hO h hK hq
  go_wp2_with fail
  first | exact hf | (go_ret; exact hf)
set_option maxRecDepth 100000 in
set_option maxHeartbeats 2000000 in
theorem door_walk (n me : Nat) (vA : Value) (La : List Int) (w : World) (hn : n < 256) (hme : me < 256) (hA : Ints w vA La) : Calls Try.prog 7 #[.int .u8 n, .int .u8 me, vA] w fun e w' => e = .returned (.bool true) ∧ Ext w w' := by
  have hmf : ∀ (fn : Fn) (first cap : Array Value) (w : World), (Instr.makeFunc fn first cap).run Try.prog w = .ok (.func fn first cap) w := fun _ _ _ _ => rfl
  obtain ⟨Aa, ca, rfl, p3, p4⟩ := hA.slice
  obtain ⟨N, hN⟩ : ∃ N : Nat, 1 + (n : Int) % 8 = N := ⟨1 + n % 8, by omega⟩
  have h1 : 1 ≤ N := by omega
  have h2 : N ≤ 8 := by omega
  obtain ⟨m, hm⟩ : ∃ m : Nat, (me : Int) % (N : Int) = m := ⟨me % N, by omega⟩
  have hm1 : m < N := by
    have := Int.emod_lt_of_pos (me : Int) (show (0 : Int) < N by omega)
    omega
  by_cases hlen : 300 < La.length
  · have d1 : decide ((300 : Int) < (La.length : Int)) = true := by rw [decide_eq_true_eq]; omega
    go_enter Try.func7, Try.ntmps7
    go_wp2_with fail
    refine (alive25 _).mono ?_
    rintro e w7 ⟨rfl, hx7⟩
    have hf := Lib.hid hx7
    go_wp2_with fail
    go_ret
    exact ⟨rfl, hf.out⟩
  have d1 : decide ((300 : Int) < (La.length : Int)) = false := by rw [decide_eq_false_iff_not]; omega
  have hw1 := IntWalk.i64_in (2 * (N : Int)) (by omega)
  have hw2 := IntWalk.i64_in (2 * (N : Int) + 1) (by omega)
  go_enter Try.func7, Try.ntmps7
  go_wp2_with fail
  have b1 := Blk.new w (.cells #[.int .i64 3, .int .i64 N, .int .i64 1, .int .i64 0, .int .i64 0, .int .i64 0] 44)
  have b2 := Blk.new (w.alloc (.cells #[.int .i64 3, .int .i64 N, .int .i64 1, .int .i64 0, .int .i64 0, .int .i64 0] 44)) (.cells #[.int .i64 m] 3)
  replace b1 := b1.alloc (.cells #[.int .i64 m] 3)
  have hX := ((Ext.refl w).alloc (.cells #[.int .i64 3, .int .i64 N, .int .i64 1, .int .i64 0, .int .i64 0, .int .i64 0] 44)).alloc (.cells #[.int .i64 m] 3)
  simp only [World.size_alloc] at b1 b2 hX
  generalize w.heap.size = bk at *
  generalize World.alloc (World.alloc w _) _ = V0 at *
  refine (tame_r _ La (2 * (N : Int) + 1) _ (hA.ext hX)).mono ?_
  rintro e w1 ⟨v1, rfl, hrow, hx1⟩
  obtain ⟨A1, c1, rfl, q1, q2⟩ := hrow.ints.slice
  obtain ⟨i0, hi0, hz0, hz1, hz2⟩ := info_parts info_int
  have hTl : (tameL La (2 * (N : Int) + 1)).length ≤ 300 := by unfold tameL; simp; omega
  have hTb : ∀ v ∈ tameL La (2 * (N : Int) + 1), 0 ≤ v ∧ v ≤ 1048576 := by
    intro v hv
    unfold tameL at hv
    obtain ⟨x, _, rfl⟩ := List.mem_map.1 hv
    have h1 := wrapI_bd x (2 * (N : Int) + 1)
    have h2 : clamp (2 * (N : Int) + 1) 1099511627776 = 2 * (N : Int) + 1 := by unfold clamp within; omega
    omega
  obtain ⟨Tl, hTe⟩ : ∃ Tl, Tl = tameL La (2 * (N : Int) + 1) := ⟨_, rfl⟩
  rw [← hTe] at hrow hTl hTb q1 ⊢
  clear hTe
  obtain ⟨g, cap, w2, hrun, hown, hgr, hat⟩ := run_append_zeros (P := Try.prog) (w := w1) 22 3 22 V0.heap.size 3 i0 (.int .i64 0) 8 .i64 Try.underlying22 Try.underlying3 hi0 hz0 hz1 hz2 rfl rfl (.slice A1 Tl.length c1) Tl.length (Tl.map (Value.int .i64)) hrow 40 (by decide) (by unfold maxLen; omega) (by omega) hx1.size
  have hX1 : Ext V0 w2 := by
    refine Below.grown hx1 hgr hx1.size fun k hk => ?_
    obtain ⟨_, h2⟩ := hrow
    rcases h2 with ⟨e, _⟩ | ⟨g, cap, cur, e, hgb, _⟩
    · rw [e] at hk; simp [Value.ownBlock] at hk
    · rw [e] at hk
      simp [Value.ownBlock] at hk
      omega
  obtain ⟨G, hGe⟩ : ∃ G, G = Tl ++ zeros 40 := ⟨_, rfl⟩
  have hGl : G.length = Tl.length + 40 := by rw [hGe]; simp [zeros]
  have hGb : ∀ v ∈ G, 0 ≤ v ∧ v ≤ 1048576 := by
    intro v hv
    rw [hGe] at hv
    rcases List.mem_append.1 hv with hv | hv
    · exact hTb v hv
    · obtain rfl := List.eq_of_mem_replicate (show v ∈ List.replicate 40 (0 : Int) from hv)
      omega
  have hG : IntRow w2 V0.heap.size (.slice (some ⟨g, 0, none⟩) G.length cap) G := by
    unfold IntRow
    rw [hGl, hGe, List.map_append, show (zeros 40).map (Value.int .i64) = List.replicate 40 (Value.int .i64 0) from by unfold zeros; rw [List.map_replicate]]
    exact hown
  rw [← hGl] at hrun
  have hgl : 1 < G.length := by omega
  clear hown hgr hat hrow hGe hTb q1 q2 hi0 hz0 hz1 hz2
  obtain ⟨y0, hy0⟩ : ∃ y0, G[1]? = some y0 := ⟨_, List.getElem?_eq_getElem hgl⟩
  have hyb := hGb y0 (List.mem_of_getElem? hy0)
  have hy2 : y0.tmod 2 = y0 % 2 := Int.tmod_eq_emod_of_nonneg hyb.1
  obtain ⟨hs1, hs2⟩ := hG.stored 1 (.int .i64 (y0 % 2))
  have hfz := hG.frozenAt 1
  have hc1 : w2.cell? ⟨g, 1, none⟩ = some (.int .i64 y0) := by
    obtain ⟨b', off, he, hb', hc⟩ := hG.ints.at_ hgl
    injection he with he
    injection he with e1 e2
    subst e1 e2
    rw [Nat.zero_add] at hc
    rw [hc, List.getD_eq_getElem?_getD, hy0]
    rfl
  have hgB := (World.ownsRow.lt hG g rfl).1
  obtain ⟨F, hF⟩ : ∃ F, F = G.set 1 (y0 % 2) := ⟨_, rfl⟩
  have hFl : F.length = G.length := by rw [hF, List.length_set]
  have hFr : IntRow (w2.setCell ⟨g, 1, none⟩ (.int .i64 (y0 % 2))) V0.heap.size (.slice (some ⟨g, 0, none⟩) F.length cap) F := by
    unfold IntRow
    rw [hFl, hF, List.map_set]
    exact hs1
  have hX2 : Ext V0 (w2.setCell ⟨g, 1, none⟩ (.int .i64 (y0 % 2))) := hX1.setCell hgB _
  have hFb : ∀ v ∈ F, 0 ≤ v ∧ v ≤ 1048576 := by
    intro v hv
    rw [hF] at hv
    rcases List.mem_or_eq_of_mem_set hv with hv | rfl
    · exact hGb v hv
    · omega
  have hF1 : F[1]? = some (y0 % 2) := by
    rw [hF, List.getElem?_set]
    simp [hgl]
  have hFrh := Lib.hid hFr
  have hFh := Lib.hid (And.intro hF1 hFb)
  clear hG hs1 hs2 hX1 hGb hFr hF1 hFb hF hy0
  rw [← hFl] at hrun
  replace hrun : (Builtin.append_ #[22, 3] 22 #[.slice A1 Tl.length c1, .int .i64 40]).run Try.prog w1 = .ok (.slice (some ⟨g, 0, none⟩) F.length cap) w2 := hrun
  have hL40 : 40 ≤ F.length := by omega
  have hL340 : F.length ≤ 340 := by omega
  have hL1 : (1 : Int) < (F.length : Int) := by omega
  clear hFl hGl hgl hTl
  clear hN hm hlen
  have hrunh := Lib.hid hrun
  clear hrun
  go_wp2_with (at_builtin; refine append_z rfl _ _ rfl _ _ _ _ rfl rfl hrunh.out ?_)
  have hb1 := b1.ext hX2
  have hb2 := b2.ext hX2
  replace hX := hX.trans hX2
  have hFlt : ∀ k, (Value.slice (some ⟨g, 0, none⟩) F.length cap).ownBlock = some k → k < (w2.setCell ⟨g, 1, none⟩ (.int .i64 (y0 % 2))).heap.size := fun k hk => (World.ownsRow.lt hFrh.out k hk).2
  clear b1 b2 hX2 hfz hc1 hrunh hy2 hgB
  generalize w2.setCell _ _ = V1 at *
  have hPl := play_err 32 #[.pointer (some ⟨bk, 0, none⟩), .pointer (some ⟨bk + 1, 0, none⟩)] (bwA (F.length + 1) (natB N) (0 + sumL (natB N)) N m) none 0 [] (some ⟨g, 0, none⟩) cap F V1 (Ints.nil _) (by simp) hFrh.out.ints (by unfold maxAns; omega) hFlt (fun _ _ => rfl)
    (fun W p hxW hP => door1 _ p _ N m (F.length + 1) bk (bk + 1) W hP h1 h2 hm1 (show TameA (TS0 [] F) from hFh.out.2) (by unfold TS.left TS0; simp) rfl (hb1.ext hxW).cells ((hb2.ext hxW).cells 0))
  obtain ⟨d1, d2, d3, d4⟩ := door_is (D := F.length + 1) (0 + sumL (natB N)) h1 hm1 F (by omega) hFh.out.1 (by omega)
  generalize hr : (bwA (F.length + 1) (natB N) (0 + sumL (natB N)) N m).run (TS0 [] F) = r at *
  clear hr
  refine hPl.mono ?_
  rintro e y1 ⟨v1, rfl, hO, hx1⟩
  clear hPl
  obtain ⟨A2, c2, A2', c2', vs1, L1, rfl, hO⟩ := hO
  obtain ⟨As1, k1, hvs1, _, _⟩ := hO.locs.slice
  subst hvs1
  obtain ⟨u2, rfl, hu2, z20, z21, z22⟩ := hO.accs.at_ d2
  obtain ⟨u3, rfl, hu3, z30, z31⟩ := hO.nts.at_ d4
  simp only at z20 z21 z22 z30 z31
  unfold outV
  generalize hal : r.2.acc.length = al at *
  generalize hnl : r.2.nts.length = nl at *
  generalize r.1.getD 0 = er
  generalize r.1.isSome = sm
  have n1 := Blk.new y1 (.cells #[.bool sm, .slice (some ⟨u2, 0, none⟩) al c2, .slice (some ⟨u3, 0, none⟩) nl c2', .slice As1 (shortL L1).length k1] 32)
  have hX3 := (Ext.refl y1).alloc (.cells #[.bool sm, .slice (some ⟨u2, 0, none⟩) al c2, .slice (some ⟨u3, 0, none⟩) nl c2', .slice As1 (shortL L1).length k1] 32)
  have hI := (hFrh.out.ints.ext hx1).ext hX3
  replace hb2 := (hb2.ext hx1).ext hX3
  replace hX := (hX.trans hx1).trans hX3
  replace z20 := (hX3.cell (p := ⟨u2, (N + 1) * 3, none⟩) hu2).trans z20
  replace z21 := (hX3.cell (p := ⟨u2, (N + 1) * 3 + 1, none⟩) hu2).trans z21
  replace z22 := (hX3.cell (p := ⟨u2, (N + 1) * 3 + 2, none⟩) hu2).trans z22
  replace z30 := (hX3.cell (p := ⟨u3, 1 * 2, none⟩) hu3).trans z30
  replace z31 := (hX3.cell (p := ⟨u3, 1 * 2 + 1, none⟩) hu3).trans z31
  replace hu2 := Nat.lt_of_lt_of_le hu2 hX3.size
  simp only [Nat.reduceMul, Nat.reduceAdd] at z30 z31
  clear hO hx1 hX3 hal hnl hb1 hFlt d2 d4
  have e1 : decide (nl < 2) = false := by rw [decide_eq_false_iff_not]; omega
  have e2 := IntWalk.i64_in ((N : Int) + 3) (by omega)
  have hnl1 : (1 : Nat) < nl := by omega
  have c_n1 := n1.cells
  have hXh := Lib.hid hX
  clear hX
  go_wp2_with fail
  clear hu3 z30 z31 e1 hnl1 d3 c_n1
  generalize hW : y1.alloc _ = W at *
  clear hW
  obtain ⟨yc, hyc⟩ : ∃ yc, yc = y0 % 2 := ⟨_, rfl⟩
  rw [← hyc] at z22 hFh
  have hy01 : 0 ≤ yc ∧ yc ≤ 1 := by omega
  clear hyc
  have e3 := IntWalk.i64_in ((N : Int) + 1) (by omega)
  go_loopw [13, 14] (fun u i wr => ∃ k : Nat, i = .int .i64 ((k : Int) + 2) ∧ k + 1 ≤ N ∧ u = .int .i64 (mostL yc ((F.drop 2).take k) 0) ∧ Ext W wr) (fun _ i _ => N + 1 - (intOf i).toNat)
  case atStart => exact ⟨0, rfl, by omega, rfl, Ext.refl _⟩
  case round =>
    obtain ⟨k, rfl, hk, rfl, hXr⟩ := hrel
    have hbd := mostL_bd yc ((F.drop 2).take k) 0 (by omega) (by omega) fun x hx => hFh.out.2 x (List.mem_of_mem_drop (List.mem_of_mem_take hx))
    by_cases hkN : k + 1 < N
    · have dk : decide ((k : Int) + 2 < (N : Int) + 1) = true := by rw [decide_eq_true_eq]; omega
      obtain ⟨x, hx⟩ : ∃ x, F[k + 2]? = some x := ⟨_, List.getElem?_eq_getElem (by omega)⟩
      have hxb := hFh.out.2 x (List.mem_of_getElem? hx)
      have hsn : mostL yc ((F.drop 2).take (k + 1)) 0 = if x % 2 = yc then max (mostL yc ((F.drop 2).take k) 0) (x / 2) else mostL yc ((F.drop 2).take k) 0 := by
        rw [List.take_add_one, List.getElem?_drop, show 2 + k = k + 2 from by omega, hx]
        exact mostL_snoc _ _ _ _
      have hc2 : wr.cell? ⟨g, k + 2, none⟩ = some (.int .i64 x) := by
        obtain ⟨b', off, he, hb', hc⟩ := (hI.ext hXr).at_ (show k + 2 < F.length by omega)
        injection he with he
        injection he with e1 e2
        subst e1 e2
        rw [Nat.zero_add] at hc
        rw [hc, List.getD_eq_getElem?_getD, hx]
        rfl
      have hc1 : wr.cell? ⟨g, 1, none⟩ = some (.int .i64 yc) := by
        obtain ⟨b', off, he, hb', hc⟩ := (hI.ext hXr).at_ (show 1 < F.length by omega)
        injection he with he
        injection he with e1 e2
        subst e1 e2
        rw [Nat.zero_add] at hc
        rw [hc, List.getD_eq_getElem?_getD, hFh.out.1]
        rfl
      have p1 : (k : Int) + 2 < (F.length : Int) := by omega
      have p2 : 0 ≤ (k : Int) + 2 := by omega
      have p3 : ((k : Int) + 2).toNat = k + 2 := by omega
      have p4 := IntWalk.i64_in ((k : Int) + 2 + 1) (by omega)
      have q1 : IntKind.i64.wrap (x.tdiv 2) = x / 2 := by
        rw [Int.tdiv_eq_ediv_of_nonneg hxb.1]
        exact IntWalk.i64_in _ (by omega)
      have q2 : x.tmod 2 = x % 2 := Int.tmod_eq_emod_of_nonneg hxb.1
      generalize mostL yc ((F.drop 2).take k) 0 = mk at *
      obtain ⟨nx, hnx⟩ : ∃ nx, nx = mostL yc ((F.drop 2).take (k + 1)) 0 := ⟨_, rfl⟩
      rw [← hnx] at hsn
      have hnxh := Lib.hid hnx
      clear hx hnx
      by_cases hp : x % 2 = yc
      · have dp : (x % 2 == yc) = true := by rw [beq_iff_eq]; exact hp
        rw [if_pos hp] at hsn
        have hsh := Lib.hid hsn
        clear hp hsn
        go_wp2_with fail
        go_quiet (fail)
        go_wp2_with fail
        refine ⟨⟨k + 1, ?_, by omega, ?_, hXr.drewN _⟩, ?_⟩
        · congr 1
        · rw [← hnxh.out, hsh.out]
        · simp [intOf]; omega
      · have dp : (x % 2 == yc) = false := by rw [beq_eq_false_iff_ne]; exact hp
        rw [if_neg hp] at hsn
        have hsh := Lib.hid hsn
        clear hp hsn
        go_wp2_with fail
        go_quiet (fail)
        go_wp2_with fail
        refine ⟨⟨k + 1, ?_, by omega, ?_, hXr.drewN _⟩, ?_⟩
        · congr 1
        · rw [← hnxh.out, hsh.out]
        · simp [intOf]; omega
    · obtain ⟨rfl⟩ : k = N - 1 := by omega
      have dk : decide (((N - 1 : Nat) : Int) + 2 < (N : Int) + 1) = false := by rw [decide_eq_false_iff_not]; omega
      have hc1 : wr.cell? ⟨g, 1, none⟩ = some (.int .i64 yc) := by
        obtain ⟨b', off, he, hb', hc⟩ := (hI.ext hXr).at_ (show 1 < F.length by omega)
        injection he with he
        injection he with e1 e2
        subst e1 e2
        rw [Nat.zero_add] at hc
        rw [hc, List.getD_eq_getElem?_getD, hFh.out.1]
        rfl
      have hgW : g < wr.heap.size := by
        obtain ⟨b', off, he, hb', hc⟩ := (hI.ext hXr).at_ (show 1 < F.length by omega)
        injection he with he
        injection he with e1 e2
        subst e1
        exact hb'
      replace z20 := (hXr.cell (p := ⟨u2, (N + 1) * 3, none⟩) hu2).trans z20
      replace z21 := (hXr.cell (p := ⟨u2, (N + 1) * 3 + 1, none⟩) hu2).trans z21
      replace z22 := (hXr.cell (p := ⟨u2, (N + 1) * 3 + 2, none⟩) hu2).trans z22
      replace hu2 := Nat.lt_of_lt_of_le hu2 hXr.size
      generalize mostL yc ((F.drop 2).take (N - 1)) 0 = mk at *
      have hS : ∀ w', Ext wr w' → ((∀ i, w'.cell? ⟨y1.heap.size, i, none⟩ = (#[.bool sm, .slice (some ⟨u2, 0, none⟩) al c2, .slice (some ⟨u3, 0, none⟩) nl c2', .slice As1 (shortL L1).length k1] : Array Value)[i]?) ∧ (w'.cell? ⟨u2, (N + 1) * 3, none⟩ = some (.int .i64 2) ∧ w'.cell? ⟨u2, (N + 1) * 3 + 1, none⟩ = some (.int .i64 (1 + (N : Int) + (m : Int))) ∧ w'.cell? ⟨u2, (N + 1) * 3 + 2, none⟩ = some (.int .i64 (2 * (mk + 1) + yc))) ∧ w'.cell? ⟨bk + 1, 0, none⟩ = some (.int .i64 m) ∧ w'.cell? ⟨g, 1, none⟩ = some (.int .i64 yc)) := fun w' hx =>
        ⟨((n1.ext hXr).ext hx).cells, ⟨(hx.cell (p := ⟨u2, (N + 1) * 3, none⟩) hu2).trans z20, (hx.cell (p := ⟨u2, (N + 1) * 3 + 1, none⟩) hu2).trans z21, (hx.cell (p := ⟨u2, (N + 1) * 3 + 2, none⟩) hu2).trans z22⟩, ((hb2.ext hXr).ext hx).cells 0, (hx.cell (p := ⟨g, 1, none⟩) hgW).trans hc1⟩
      have dl : decide ((N : Int) + 1 < (al : Int)) = true := by rw [decide_eq_true_eq]; omega
      have p1 : (N : Int) + 1 < (al : Int) := by omega
      have p2 : 0 ≤ (N : Int) + 1 := by omega
      have p3 : ((N : Int) + 1).toNat = N + 1 := by omega
      have p5 := IntWalk.i64_in (1 + (N : Int)) (by omega)
      have p6 := IntWalk.i64_in (1 + (N : Int) + (m : Int)) (by omega)
      have p7 := IntWalk.i64_in (mk + 1) (by omega)
      have p8 := IntWalk.i64_in (2 * (mk + 1)) (by omega)
      have p9 := IntWalk.i64_in (2 * (mk + 1) + yc) (by omega)
      have hXg := Lib.hid (hXh.out.trans hXr)
      clear hc1 z20 z21 z22 hI hgW hu2 hFrh d1
      go_wp2_with fail
      have hE := (Ext.refl wr).drew
      go_region_held2 (fun w' => (∀ i, w'.cell? ⟨y1.heap.size, i, none⟩ = (#[.bool sm, .slice (some ⟨u2, 0, none⟩) al c2, .slice (some ⟨u3, 0, none⟩) nl c2', .slice As1 (shortL L1).length k1] : Array Value)[i]?) ∧ (w'.cell? ⟨u2, (N + 1) * 3, none⟩ = some (.int .i64 2) ∧ w'.cell? ⟨u2, (N + 1) * 3 + 1, none⟩ = some (.int .i64 (1 + (N : Int) + (m : Int))) ∧ w'.cell? ⟨u2, (N + 1) * 3 + 2, none⟩ = some (.int .i64 (2 * (mk + 1) + yc))) ∧ w'.cell? ⟨bk + 1, 0, none⟩ = some (.int .i64 m) ∧ w'.cell? ⟨g, 1, none⟩ = some (.int .i64 yc)) (exact hS _ hE)
        (first
          | (go_at_call 31
             refine (alive25 _).mono ?_
             rintro e wg ⟨rfl, hxg⟩
             replace hE := hE.trans hxg))
      have hf := Lib.hid (hXg.out.trans hE)
      go_wp2_with fail
      go_ret
      exact ⟨rfl, hf.out⟩
end Go.Proofs.Ytpcohbpeglledaa
/-
  BlackwhiteDoor: the input opened.
-/
namespace Go.Proofs.Ytpcohbpeglledaa.blackwhiteDoor
open Go.ChangeShapes Go.WideShapes Go.ChangeAt Go.RowKit Kv
set_option maxRecDepth 100000 in
theorem main (H : Type) (enc : TypeId × Value → H) (W : World) (base : Nat) (args : Array Value) (ds : List (DataW H)) (p : List MemPlace)
    (hval : ∀ (j : Nat) t v, Try.f7.params[j]? = some t → args[j]? = some v → Value.okWide Try.prog W .any base t v)
    (hA : DataW.TrodAll enc Try.prog W 0 (fun _ => true) true Try.f7.params.toList args.toList ds p) (_hL : laidMetH Try.prog Rows.blackwhiteDoorRow.laid W) :
    Calls Try.prog 7 args W fun e w' => e = .returned (.bool true) ∧ Ext W w' := by
  rw [Try.params7] at hA hval
  obtain ⟨v0, vs0, d0, ds0, p0, q0, hargs, rfl, rfl, h0, r0⟩ := trodAll_cons hA
  obtain ⟨v1, vs1, d1, ds1, p1, q1, rfl, rfl, rfl, h1, r1⟩ := trodAll_cons r0
  obtain ⟨v2, vs2, d2, ds2, p2, q2, rfl, rfl, rfl, h2, r2⟩ := trodAll_cons r1
  obtain ⟨rfl, rfl, rfl⟩ := trodAll_nil r2
  obtain rfl : args = #[v0, v1, v2] := by cases args; simp_all
  obtain ⟨s, rfl, rfl, rfl, ws⟩ := open_int Try.underlying5 (hval 0 5 v0 rfl rfl) h0
  obtain ⟨t, rfl, rfl, rfl, wt⟩ := open_int Try.underlying5 (hval 1 5 v1 rfl rfl) h1
  obtain ⟨La, hLa, -⟩ := ints_arg (hval 2 22 v2 rfl rfl) h2
  have hs := bounds_u8 ws
  have ht := bounds_u8 wt
  obtain ⟨n, rfl⟩ : ∃ n : Nat, s = (n : Int) := ⟨s.toNat, by omega⟩
  obtain ⟨me, rfl⟩ : ∃ n : Nat, t = (n : Int) := ⟨t.toNat, by omega⟩
  exact door_walk n me v2 La W (by omega) (by omega) hLa
end Go.Proofs.Ytpcohbpeglledaa.blackwhiteDoor
/-
  BlackwhiteDoor holds: the doorway costs N + 3 accesses, and the ticket is one more than the greatest of its color.
-/
namespace Go.Proofs.Ytpcohbpeglledaa.blackwhiteDoor
open Go.ChangeShapes Go.WideShapes Go.ChangeAt Go.RowKit

theorem laidOut : laidOutB Try.prog = true := by kernel_rfl
set_option maxRecDepth 100000 in
theorem contract (H : Type) (enc : TypeId × Value → H) (W : World) (base : Nat) (args : Array Value) (ds gs : List (DataW H)) (before : List MemPlace)
    (hval : ∀ (j : Nat) t v, Try.f7.params[j]? = some t → args[j]? = some v → Value.okWide Try.prog W .any base t v)
    (hW : DataW.Whole enc Try.prog Try.f7.params.toList Rows.blackwhiteDoorSpec.vars false W args.toList ds gs before) (hL : laidMetH Try.prog Rows.blackwhiteDoorRow.laid W) :
    Calls Try.prog 7 args W fun e W' => ∃ v, e = .returned v ∧ Rows.blackwhiteDoorSpec.post enc Try.prog Try.f7 false true false false W args v W' := by
  refine (main H enc W base args ds before hval (by obtain ⟨p, q, hA, hV, hpq, _, _⟩ := hW; obtain ⟨_, rfl⟩ := trodVars_none hV; rw [List.append_nil] at hpq; subst hpq; exact hA) hL).mono fun e W' ⟨he, hg⟩ => ⟨_, he, ?_⟩
  refine law_post (tb := 4) laidOut ?_ (by kernel_rfl) Try.underlying4 rfl ?_ hW hg
  · rw [Try.params7]
    intro t ht
    simp only [List.mem_cons, List.not_mem_nil, or_false] at ht
    rcases ht with rfl | rfl | rfl <;> exact ⟨by kernel_rfl, of_decide_eq_true (by kernel_rfl)⟩
  · intro ds hl
    rw [Try.params7] at hl
    match ds, hl with
    | [d0, d1, d2], _ => rfl
set_option maxRecDepth 100000 in
theorem laid_met (os : Os) : laidMet Try.prog Rows.blackwhiteDoorRow.laid (((World.holding Try.prog os ⟨#[], #[], []⟩)).forCall (fun _ _ => 0) ⟨#[], #[.int .u8 0, .int .u8 0, .slice none 0 0], []⟩).memory :=
  laidMet_of_run' 8 (by kernel_rfl) (by kernel_rfl)
set_option maxRecDepth 100000 in
theorem reads (os : Os) {H : Type} (enc : TypeId × Value → H) : ∃ places, DataW.whole enc Try.prog (((World.holding Try.prog os ⟨#[], #[], []⟩)).forCall (fun _ _ => 0) ⟨#[], #[.int .u8 0, .int .u8 0, .slice none 0 0], []⟩).memory Try.f7.params.toList Rows.blackwhiteDoorSpec.vars false (#[.int .u8 0, .int .u8 0, .slice none 0 0] : Array Value).toList 8 = some ([.lit (.int .u8 0), .lit (.int .u8 0), .nil], [], places) :=
  ⟨[], by kernel_rfl⟩
set_option maxRecDepth 100000 in
theorem lifted (os : Os) (started : os.Started) (H : Type) (enc : TypeId × Value → H) (F : Stop.Interp) :
    ReturnsInHanded {} Try.checked os 7 .any ((OpenSpec.ofChange Rows.blackwhiteDoorSpec).preRow enc Try.prog Try.f7 Rows.blackwhiteDoorRow.domain false Rows.blackwhiteDoorRow.laid) (((OpenSpec.ofChange Rows.blackwhiteDoorSpec).at F).post enc Try.prog Try.f7 false true false false) := by
  obtain ⟨places, hx⟩ := reads os enc
  refine returnsInHanded_of_row (C := Try.checked) (s := (OpenSpec.ofChange Rows.blackwhiteDoorSpec)) own started (by kernel_rfl) Try.func7
    (witness_row_at (enc := enc) (C := Try.checked) false (World.holding Try.prog os ⟨#[], #[], []⟩) #[.int .u8 0, .int .u8 0, .slice none 0 0] rfl (by kernel_rfl) (by kernel_rfl) (by kernel_rfl)
      (OpenSpec.preRow_of_cond 8 hx (by kernel_rfl) (fun k hk => by cases hk) (by kernel_rfl) (laid_met os))) ?_
  intro W base args ds gs before hval hW _ _ _ hL _ _
  exact contract H enc W base args ds gs before hval hW hL
theorem said : Rows.BlackwhiteDoorSaid :=
  OpenClaim.holds_of_cond 7 Try.f7 rfl rfl rfl rfl rfl rfl rfl ⟨rfl, rfl, rfl, rfl, rfl⟩ rfl rfl rfl rfl rfl (by kernel_rfl) Try.func7 (by kernel_rfl)
    (of_decide_eq_true (by kernel_rfl)) (by unfold Func.isWrapper; first | (rw [if_pos (by decide +kernel)]; kernel_rfl) | (rw [if_neg (by decide +kernel)]; exact ⟨rfl, rfl⟩))
    (fun os started H enc _ F => by rw [OpenClaim.pre_eq_preRow]; exact lifted os started H enc F)

end Go.Proofs.Ytpcohbpeglledaa.blackwhiteDoor
