/-
  BlackwhitePlays holds: whoever acquires or releases a black-white bakery does what the document says, access by access, whatever it is answered.
-/
import Derived.Test.YtpcohbpeglledaaGreatJBlackwhitePlaysSaid4
import Derived.Deep.CutBlock
import Derived.Laws.MakeOwn
/-
  The black-white bakery acquired, by the document.
-/
namespace Go.Proofs.YtpcohbpeglledaaGreat
open Go.RowKit Kv
set_option maxRecDepth 100000 in
set_option maxHeartbeats 4000000 in
theorem bwacq_r (B p N D : Nat) (o : Bool) (S : TS) (alg mode base loc room : Int) (m : Nat) (rs : List Reg) (w : World) (h : RAt B w p o S) (h1 : 1 ≤ N) (h2 : N ≤ 8) (hm1 : m < N) (hl : layM (bwWants N) N mode base loc = some rs) (hlc : 0 ≤ loc ∧ loc ≤ 32768)
    (hok : ∀ r ∈ rs, r.ok ∧ r.n = N) (htold : ∀ (i : Nat) r, rs[i]? = some r → i ≠ 1 + m → i ≠ 1 + N + m → 2 ≤ N → r.told m) (hta : TameA S) (hD : S.left < D) (hn0 : S.nts.length = 0) :
    Calls Tryz.prog 58 #[.pointer (some ⟨p, 0, none⟩), .agg #[.int .i64 alg, .int .i64 N, .int .i64 mode, .int .i64 base, .int .i64 loc, .int .i64 room], .int .i64 m] w (RPost encI B p w (bwA D rs (loc + sumL rs) N m) o S) := by
  have hlen := layM_len hl
  rw [bwWants_len] at hlen
  generalize hR : RPost encI B p w (bwA D rs (loc + sumL rs) N m) o S = R
  have hO : ROwes R encI B p w (bwA D rs (loc + sumL rs) N m) o S := hR ▸ rowes _ _ _ _ _ _ _
  clear hR
  have hK := Keep.refl [3, 4, 5] B p w
  have hP := h
  have b1 := hP.held (.cells #[.int .i64 alg, .int .i64 N, .int .i64 mode, .int .i64 base, .int .i64 loc, .int .i64 room] 52)
  replace hK := hK.trans (Keep.alloc (.cells #[.int .i64 alg, .int .i64 N, .int .i64 mode, .int .i64 base, .int .i64 loc, .int .i64 room] 52) hP.lt hP.le)
  replace hP := hP.alloc (.cells #[.int .i64 alg, .int .i64 N, .int .i64 mode, .int .i64 base, .int .i64 loc, .int .i64 room] 52)
  have c_b1 := b1.cells
  clear h
  rw [bwA_eq] at hO
  obtain ⟨r0, hr0⟩ : ∃ r, rs[0]? = some r := ⟨_, List.getElem?_eq_getElem (by omega)⟩
  obtain ⟨rc, hrc⟩ : ∃ r, rs[1 + m]? = some r := ⟨_, List.getElem?_eq_getElem (by omega)⟩
  obtain ⟨rm, hrm⟩ : ∃ r, rs[1 + N + m]? = some r := ⟨_, List.getElem?_eq_getElem (by omega)⟩
  have hok0 := (hok _ (List.mem_of_getElem? hr0)).1
  have hm0' : (m : Int) < r0.n := by rw [(hok _ (List.mem_of_getElem? hr0)).2]; omega
  have hokc := (hok _ (List.mem_of_getElem? hrc)).1
  have hmc : (m : Int) < rc.n := by rw [(hok _ (List.mem_of_getElem? hrc)).2]; omega
  have hokm := (hok _ (List.mem_of_getElem? hrm)).1
  have hmm : (m : Int) < rm.n := by rw [(hok _ (List.mem_of_getElem? hrm)).2]; omega
  rw [regAt_of (show (0 : Int) = ((0 : Nat) : Int) from rfl) hr0, regAt_of (show (1 : Int) + (m : Int) = ((1 + m : Nat) : Int) from by omega) hrc] at hO
  have hw1 := IntWalk.i64_in ((1 : Int) + (m : Int)) (by omega)
  have hw2 := IntWalk.i64_in ((1 : Int) + (N : Int)) (by omega)
  have hw3 := IntWalk.i64_in ((1 : Int) + (N : Int) + (m : Int)) (by omega)
  have q1 : (1 : Int) + (m : Int) < (rs.length : Int) := by omega
  have q2 : 0 ≤ (1 : Int) + (m : Int) := by omega
  have q3 : ((1 : Int) + (m : Int)).toNat = 1 + m := by omega
  have q4 : (1 : Int) + (N : Int) + (m : Int) < (rs.length : Int) := by omega
  have q5 : 0 ≤ (1 : Int) + (N : Int) + (m : Int) := by omega
  have q6 : ((1 : Int) + (N : Int) + (m : Int)).toNat = 1 + N + m := by omega
  have q7 : (0 : Nat) < rs.length := by omega
  have q8 : (0 : Int) < (rs.length : Int) := by omega
  have hrh := Lib.hid (And.intro hr0 (And.intro hrc hrm))
  have hlM := Lib.hid hl
  have hlenh := Lib.hid hlen
  have hokh := Lib.hid hok
  have htoldh := Lib.hid htold
  clear hlen hr0 hrc hrm hok hl htold
  have hOh := Lib.hid hO
  clear hO
  go_enter Tryz.func58, Tryz.ntmps58
  go_wp2_with fail
  refine (bwregs_r alg mode base loc room N rs _ h1 h2 hlM.out hlc).mono ?_
  rintro e w1 ⟨b, c, rfl, hge, hb, hcells, qc1, qc2, hx⟩
  have hreg : RegsAt [3, 4, 5] w1 p b rs := ⟨hb, hP.fresh hx hge, hcells⟩
  replace hK := hK.trans (Keep.of_ext hx hP.lt hP.le)
  replace b1 := b1.ext hx hP.lt
  replace hP := hP.ext hx
  clear hx hcells hge hb c_b1
  generalize w.heap.size = z at *
  go_wp2_with fail
  refine rstepA (notes_nt 1) hOh.out hK (note_r B p o S 1 _ hP (by unfold maxAns; omega)) ?_
  clear hOh hK hP
  intro u o1 S1 wn htm hlf hdn hnn hP hk hK hO
  replace hta := htm hta
  replace hD := Nat.lt_of_le_of_lt hlf hD
  replace hn0 : S1.nts.length ≤ 1 := by omega
  replace b1 := b1.keep hk
  replace hreg := hreg.keep hk
  clear hk htm hnn hdn hlf
  have hOh := Lib.hid hO
  clear hO
  obtain ⟨a0, a1, a2, a3, a4, a5, a6⟩ := hreg.nth hrh.out.2.1
  go_wp2_with fail
  clear a0 a1 a2 a3 a4 a5 a6
  refine rstepA (notes_regW _ _ _) hOh.out hK (reg_write_r B p o1 S1 rc m 1 _ hP hokc ⟨by omega, hmc⟩) ?_
  clear hOh hK hP
  intro u o2 S2 wn htm hlf hdn hnn hP hk hK hO
  replace hta := htm hta
  replace hD := Nat.lt_of_le_of_lt hlf hD
  replace hn0 : S2.nts.length ≤ 1 := by omega
  replace b1 := b1.keep hk
  replace hreg := hreg.keep hk
  clear hk htm hnn hdn hlf
  have hOh := Lib.hid hO
  clear hO
  obtain ⟨a0, a1, a2, a3, a4, a5, a6⟩ := hreg.nth hrh.out.1
  go_wp2_with fail
  clear a0 a1 a2 a3 a4 a5 a6
  refine rstepA (notes_regR _ _) hOh.out hK (reg_read_r B p o2 S2 r0 m _ hP hok0 ⟨by omega, hm0'⟩) ?_
  clear hOh hK hP
  intro y o3 S3 wn htm hlf hdn hnn hP hk hK hO
  replace hta := htm hta
  replace hD := Nat.lt_of_le_of_lt hlf hD
  replace hn0 : S3.nts.length ≤ 1 := by omega
  replace b1 := b1.keep hk
  replace hreg := hreg.keep hk
  clear hk htm hnn hdn hlf
  have hOh := Lib.hid hO
  clear hO
  go_wp2_with fail
  refine (bit_r y _).mono ?_
  rintro e w' ⟨rfl, rfl⟩
  have hbx : bitM y = 0 ∨ bitM y = 1 := by unfold bitM; split <;> simp
  generalize bitM y = bc at *
  go_wp2_with fail
  refine rstepA (notes_st _ _) hOh.out hK (set_r B p o3 S3 _ _ _ hP) ?_
  clear hOh hK hP
  intro u o4 S4 wn htm hlf hdn hnn hP hk hK hO
  replace hta := htm hta
  replace hD := Nat.lt_of_le_of_lt hlf hD
  replace hn0 : S4.nts.length ≤ 1 := by omega
  replace b1 := b1.keep hk
  replace hreg := hreg.keep hk
  clear hk htm hnn hdn hlf
  have hOh := Lib.hid hO
  clear hO
  obtain ⟨F, hF⟩ : ∃ F : Int → Prog Int, F = bwThrough D rs N m bc := ⟨_, rfl⟩
  replace hO := hOh.out
  rw [← hF, Int.toNat_natCast] at hO
  clear hOh
  have hOh := Lib.hid hO
  have hFh := Lib.hid hF
  clear hO hF
  go_upto_block 0 with fail
  go_cut [10] (fun s10 wx => ∃ (tv : Int) (o2 : Bool) (S2 : TS), s10 = .int .i64 tv ∧ (o2 = false → 1 ≤ tv ∧ tv ≤ 1048577) ∧ RAt B wx p o2 S2 ∧ KeepR B p w wx ∧ HeldR wx p z (.cells #[.int .i64 alg, .int .i64 N, .int .i64 mode, .int .i64 base, .int .i64 loc, .int .i64 room] 52) ∧ RegsAt [3, 4, 5] wx p b rs ∧ (o2 = false → S2.left < D) ∧ TameA S2 ∧ S2.nts.length ≤ 1 ∧ Hid (ROwes R encI B p w (F (tv - 1)) o2 S2))
  case first =>
    go_wp2_with fail
    go_loopw [10, 11] (fun u i wr => ∃ (j : Nat) (tv : Int) (o2 : Bool) (S2 : TS), i = .int .i64 j ∧ u = .int .i64 tv ∧ j ≤ N ∧ (o2 = false → 1 ≤ tv ∧ tv ≤ 1048577) ∧ RAt B wr p o2 S2 ∧ KeepR B p w wr ∧ HeldR wr p z (.cells #[.int .i64 alg, .int .i64 N, .int .i64 mode, .int .i64 base, .int .i64 loc, .int .i64 room] 52) ∧ RegsAt [3, 4, 5] wr p b rs ∧ (o2 = false → S2.left < D) ∧ TameA S2 ∧ S2.nts.length ≤ 1 ∧ Hid (ROwes R encI B p w ((forP (fun j t => (regR (regAt rs (1 + (N : Int) + j)) m).bind fun x => .ret (if x % 2 = bc then max t (x / 2) else t)) (ranksFrom m (N - j) j) (tv - 1)).bind F) o2 S2)) (fun _ i _ => N - (intOf i).toNat)
    case atStart => exact ⟨0, 1, o4, S4, rfl, rfl, by omega, fun _ => by omega, hP, hK, b1, hreg, fun _ => hD, hta, hn0, hOh⟩
    case round =>
      clear hP hK b1 hreg hD hta hn0 hOh
      obtain ⟨j, tv, o2, S2, rfl, rfl, hj, htv, hP, hK, b1, hreg, hD, hta, hn0, hOh⟩ := hrel
      obtain ⟨_, _, _, _, _, hcc⟩ := hP.cell
      have c_b1 := b1.cells
      by_cases hjN : j < N
      · have dj : decide ((j : Int) < (N : Int)) = true := by rw [decide_eq_true_eq]; omega
        cases o2 with
        | true =>
          have hOh2 := Lib.hid (hOh.out.any (F (tv - 1)))
          clear hOh hcc
          obtain ⟨_, _, _, _, _, hcc⟩ := hP.cell
          go_wp2_with fail
          go_meet
          exact ⟨tv, true, S2, rfl, htv, hP, hK, b1, hreg, hD, hta, hn0, hOh2⟩
        | false =>
          replace htv := htv rfl
          replace hD := hD rfl
          by_cases hjm : j = m
          · subst hjm
            have djm : ((j : Int) == (j : Int)) = true := by simp
            obtain ⟨g, hg⟩ : ∃ g, N - j = g + 1 := ⟨N - j - 1, by omega⟩
            replace hO := hOh.out
            rw [hg, ranks_skip, show g = N - (j + 1) from by omega] at hO
            have hf := Lib.hid hO
            clear hO hOh hg
            go_wp2_with fail
            refine ⟨⟨j + 1, tv, false, S2, by go_num, rfl, by omega, fun _ => htv, hP, hK, b1, hreg, fun _ => hD, hta, hn0, hf⟩, ?_⟩
            simp [intOf]; omega
          · have djm : ((j : Int) == (m : Int)) = false := by rw [beq_eq_false_iff_ne]; omega
            obtain ⟨g, hg⟩ : ∃ g, N - j = g + 1 := ⟨N - j - 1, by omega⟩
            obtain ⟨rj, hrj⟩ : ∃ r, rs[1 + N + j]? = some r := ⟨_, List.getElem?_eq_getElem (by have := hlenh.out; omega)⟩
            have hokj := (hokh.out _ (List.mem_of_getElem? hrj)).1
            have hmj : (m : Int) < rj.n := by rw [(hokh.out _ (List.mem_of_getElem? hrj)).2]; omega
            have htj := htoldh.out _ rj hrj (by omega) (by omega) (by omega)
            have hw4 := IntWalk.i64_in ((1 : Int) + (N : Int) + (j : Int)) (by omega)
            have p4 : (1 : Int) + (N : Int) + (j : Int) < (rs.length : Int) := by have := hlenh.out; omega
            have p5 : 0 ≤ (1 : Int) + (N : Int) + (j : Int) := by omega
            have p6 : ((1 : Int) + (N : Int) + (j : Int)).toNat = 1 + N + j := by omega
            replace hO := hOh.out
            rw [hg, ranks_cons _ _ _ (by omega), bwMost_cons, regAt_of (show (1 : Int) + (N : Int) + (j : Int) = ((1 + N + j : Nat) : Int) from by omega) hrj, show g = N - (j + 1) from by omega] at hO
            clear hOh hg
            obtain ⟨a0, a1, a2, a3, a4, a5, a6⟩ := hreg.nth hrj
            have hOh := Lib.hid hO
            clear hO hrj
            go_wp2_with fail
            clear a0 a1 a2 a3 a4 a5 a6 hcc c_b1
            refine rstepA (notes_regR _ _) hOh.out hK (reg_read_r B p false S2 rj m _ hP hokj ⟨by omega, hmj⟩) ?_
            clear hOh hK hP
            intro x o5 S5 wn htm hlf hdn hnn hP hk hK hO
            have hta5 := htm hta
            replace hD := Nat.lt_of_le_of_lt hlf hD
            replace hn0 : S5.nts.length ≤ 1 := by omega
            replace b1 := b1.keep hk
            replace hreg := hreg.keep hk
            clear hk htm hnn hlf
            have hqr : o5 = false → (0 ≤ x ∧ x ≤ 1048576) ∧ IntKind.i64.wrap (x.tdiv 2) = x / 2 ∧ x.tmod 2 = x % 2 := fun ho => by
              have hxb := regR_bd hokj (told_ne htj) hta (hdn ho).2.1
              refine ⟨hxb, ?_, Int.tmod_eq_emod_of_nonneg hxb.1⟩
              rw [Int.tdiv_eq_ediv_of_nonneg hxb.1]
              exact IntWalk.i64_in _ (by omega)
            clear hdn hta
            obtain ⟨q, hq⟩ : ∃ q, IntKind.i64.wrap (x.tdiv 2) = q := ⟨_, rfl⟩
            obtain ⟨r, hr⟩ : ∃ r, x.tmod 2 = r := ⟨_, rfl⟩
            rw [hq, hr] at hqr
            by_cases hc : r = bc ∧ tv ≤ q
            · have d1 : (r == bc) = true := by rw [beq_iff_eq]; exact hc.1
              have d2 : decide (tv ≤ q) = true := by rw [decide_eq_true_eq]; exact hc.2
              have hf : Hid (ROwes R encI B p w ((forP (fun j t => (regR (regAt rs (1 + (N : Int) + j)) m).bind fun x => .ret (if x % 2 = bc then max t (x / 2) else t)) (ranksFrom m (N - (j + 1)) ((j : Int) + 1)) (IntKind.i64.wrap (q + 1) - 1)).bind F) o5 S5) := by
                refine Lib.hid ?_
                cases o5 with
                | true => exact hO.any _
                | false =>
                  obtain ⟨hxb, e1, e2⟩ := hqr rfl
                  rw [IntWalk.i64_in (q + 1) (by omega), show q + 1 - 1 = q from by omega]
                  rw [← e1, ← e2, if_pos hc.1, show max (tv - 1) q = q from by omega] at hO
                  exact hO
              have hb5 : o5 = false → 1 ≤ IntKind.i64.wrap (q + 1) ∧ IntKind.i64.wrap (q + 1) ≤ 1048577 := fun ho => by
                obtain ⟨hxb, e1, e2⟩ := hqr ho
                rw [IntWalk.i64_in (q + 1) (by omega)]
                omega
              clear hqr hc hO
              obtain ⟨v, hv⟩ : ∃ v, IntKind.i64.wrap (q + 1) = v := ⟨_, rfl⟩
              rw [hv] at hf hb5
              go_wp2_with fail
              refine ⟨⟨j + 1, v, o5, S5, by go_num, rfl, by omega, hb5, hP, hK, b1, hreg, fun _ => hD, hta5, hn0, hf⟩, ?_⟩
              simp [intOf]; omega
            · have hf : Hid (ROwes R encI B p w ((forP (fun j t => (regR (regAt rs (1 + (N : Int) + j)) m).bind fun x => .ret (if x % 2 = bc then max t (x / 2) else t)) (ranksFrom m (N - (j + 1)) ((j : Int) + 1)) (tv - 1)).bind F) o5 S5) := by
                refine Lib.hid ?_
                cases o5 with
                | true => exact hO.any _
                | false =>
                  obtain ⟨hxb, e1, e2⟩ := hqr rfl
                  rw [← e1, ← e2] at hO
                  by_cases hrb : r = bc
                  · rw [if_pos hrb, show max (tv - 1) q = tv - 1 from by omega] at hO
                    exact hO
                  · rw [if_neg hrb] at hO
                    exact hO
              clear hqr hO
              have hd : (r == bc) = false ∨ (r == bc) = true ∧ decide (tv ≤ q) = false := by
                by_cases hrb : r = bc
                · exact .inr ⟨by simpa using hrb, by simp; omega⟩
                · exact .inl (by simpa using hrb)
              clear hc
              rcases hd with d1 | ⟨d1, d2⟩
              · go_wp2_with fail
                refine ⟨⟨j + 1, tv, o5, S5, by go_num, rfl, by omega, fun _ => htv, hP, hK, b1, hreg, fun _ => hD, hta5, hn0, hf⟩, ?_⟩
                simp [intOf]; omega
              · go_wp2_with fail
                refine ⟨⟨j + 1, tv, o5, S5, by go_num, rfl, by omega, fun _ => htv, hP, hK, b1, hreg, fun _ => hD, hta5, hn0, hf⟩, ?_⟩
                simp [intOf]; omega
      · obtain rfl : N = j := by omega
        have dj : decide ((N : Int) < (N : Int)) = false := by simp
        replace hO := hOh.out
        rw [Nat.sub_self, ranks_zero, forP_nilB] at hO
        have hOh2 := Lib.hid hO
        clear hO hOh
        go_wp2_with fail
        go_meet
        exact ⟨tv, o2, S2, rfl, htv, hP, hK, b1, hreg, hD, hta, hn0, hOh2⟩
  case rest =>
    clear hP hK b1 hreg hD hta hn0 hOh
    obtain ⟨tv, o2, S2, rfl, htv, hP, hK, b1, hreg, hD, hta, hn0, hOh⟩ := hcut
    have hOF := Lib.hid (show ROwes R encI B p w (bwThrough D rs N m bc (tv - 1)) o2 S2 from by rw [← hFh.out]; exact hOh.out)
    clear hOh
    replace hO := hOF.out
    unfold bwThrough at hO
    rw [regAt_of (show (1 : Int) + (m : Int) = ((1 + m : Nat) : Int) from by omega) hrh.out.2.1, regAt_of (show (1 : Int) + (N : Int) + (m : Int) = ((1 + N + m : Nat) : Int) from by omega) hrh.out.2.2, show tv - 1 + 1 = tv from by omega] at hO
    have hOh := Lib.hid hO
    clear hO hOF
    obtain ⟨_, _, _, _, _, hcc⟩ := hP.cell
    go_upto_if 84 with fail
    go_cut [] (fun wx => ∃ (o3 : Bool) (S3 : TS), RAt B wx p o3 S3 ∧ KeepR B p w wx ∧ HeldR wx p z (.cells #[.int .i64 alg, .int .i64 N, .int .i64 mode, .int .i64 base, .int .i64 loc, .int .i64 room] 52) ∧ RegsAt [3, 4, 5] wx p b rs ∧ (o3 = false → S3.left < D) ∧ TameA S3 ∧ S3.nts.length ≤ 1 ∧ (o3 = false → o2 = false) ∧ Hid (ROwes R encI B p w ((regW rc m 0).bind fun _ => (nt 2).bind fun _ => bwIn D rs N m bc tv) o3 S3))
    case first =>
      cases o2 with
      | true =>
        go_wp2_with fail
        go_meet
        exact ⟨true, S2, hP, hK, b1, hreg, hD, hta, hn0, (fun h => by first | exact h | cases h), hOh.out.any _⟩
      | false =>
        replace htv := htv rfl
        replace hD := hD rfl
        have hw5 := IntWalk.i64_in (2 * tv) (by omega)
        have hw6 := IntWalk.i64_in (2 * tv + bc) (by omega)
        have c_b1 := b1.cells
        obtain ⟨a0, a1, a2, a3, a4, a5, a6⟩ := hreg.nth hrh.out.2.2
        go_wp2_with fail
        clear a0 a1 a2 a3 a4 a5 a6 c_b1 hcc
        refine rstepA (notes_regW _ _ _) hOh.out hK (reg_write_r B p false S2 rm m (2 * tv + bc) _ hP hokm ⟨by omega, hmm⟩) ?_
        clear hOh hK hP
        intro u o5 S5 wn htm hlf hdn hnn hP hk hK hO
        replace hta := htm hta
        replace hD := Nat.lt_of_le_of_lt hlf hD
        replace hn0 : S5.nts.length ≤ 1 := by omega
        replace b1 := b1.keep hk
        replace hreg := hreg.keep hk
        clear hk htm hnn hdn hlf
        have hOh := Lib.hid hO
        clear hO
        go_wp2_with fail
        go_meet
        exact ⟨o5, S5, hP, hK, b1, hreg, fun _ => hD, hta, hn0, (fun _ => by trivial), hOh⟩
    case rest =>
    clear hP hK b1 hreg hD hta hn0 hOh hcc
    obtain ⟨o3, S3, hP, hK, b1, hreg, hD, hta, hn0, ho23, hOh⟩ := hcut
    obtain ⟨_, _, _, _, _, hcc⟩ := hP.cell
    go_upto_if 104 with fail
    go_cut [] (fun wx => ∃ (o4 : Bool) (S4 : TS), RAt B wx p o4 S4 ∧ KeepR B p w wx ∧ HeldR wx p z (.cells #[.int .i64 alg, .int .i64 N, .int .i64 mode, .int .i64 base, .int .i64 loc, .int .i64 room] 52) ∧ RegsAt [3, 4, 5] wx p b rs ∧ (o4 = false → S4.left < D) ∧ TameA S4 ∧ S4.nts.length ≤ 1 ∧ (o4 = false → o2 = false) ∧ Hid (ROwes R encI B p w ((nt 2).bind fun _ => bwIn D rs N m bc tv) o4 S4))
    case first =>
      cases o3 with
      | true =>
        go_wp2_with fail
        go_meet
        exact ⟨true, S3, hP, hK, b1, hreg, hD, hta, hn0, (fun h => by cases h), hOh.out.any _⟩
      | false =>
        replace hD := hD rfl
        have ho2 := ho23 rfl
        clear ho23
        obtain ⟨a0, a1, a2, a3, a4, a5, a6⟩ := hreg.nth hrh.out.2.1
        go_wp2_with fail
        clear a0 a1 a2 a3 a4 a5 a6 hcc
        refine rstepA (notes_regW _ _ _) hOh.out hK (reg_write_r B p false S3 rc m 0 _ hP hokc ⟨by omega, hmc⟩) ?_
        clear hOh hK hP
        intro u o5 S5 wn htm hlf hdn hnn hP hk hK hO
        replace hta := htm hta
        replace hD := Nat.lt_of_le_of_lt hlf hD
        replace hn0 : S5.nts.length ≤ 1 := by omega
        replace b1 := b1.keep hk
        replace hreg := hreg.keep hk
        clear hk htm hnn hdn hlf
        have hOh := Lib.hid hO
        clear hO
        go_wp2_with fail
        go_meet
        exact ⟨o5, S5, hP, hK, b1, hreg, fun _ => hD, hta, hn0, fun _ => ho2, hOh⟩
    case rest =>
    clear hP hK b1 hreg hD hta hn0 hOh hcc ho23
    obtain ⟨o4, S4, hP, hK, b1, hreg, hD, hta, hn0, ho24, hOh⟩ := hcut
    go_wp2_with fail
    refine rstepA (notes_nt 2) hOh.out hK (note_r B p o4 S4 2 _ hP (by unfold maxAns; omega)) ?_
    clear hOh hK hP
    intro u o5 S5 wn htm hlf hdn hnn hP hk hK hO
    replace hta := htm hta
    have ho25 : o5 = false → o2 = false := fun h => ho24 (hdn h).1
    replace hD : o5 = false → S5.left < D := fun h => Nat.lt_of_le_of_lt hlf (hD (hdn h).1)
    replace hn0 : S5.nts.length ≤ 2 := by omega
    replace b1 := b1.keep hk
    replace hreg := hreg.keep hk
    clear hk htm hnn hdn hlf ho24
    obtain ⟨G, hG⟩ : ∃ G : Unit → Prog Int, G = fun _ => (nt 3).bind fun _ => .ret 0 := ⟨_, rfl⟩
    unfold bwIn at hO
    rw [← hG, Int.toNat_natCast] at hO
    have hOh := Lib.hid hO
    have hGh := Lib.hid hG
    clear hO hG
    go_upto_block 2 with fail
    go_cut [] (fun wx => ∃ (o3 : Bool) (S3 : TS), RAt B wx p o3 S3 ∧ KeepR B p w wx ∧ HeldR wx p z (.cells #[.int .i64 alg, .int .i64 N, .int .i64 mode, .int .i64 base, .int .i64 loc, .int .i64 room] 52) ∧ RegsAt [3, 4, 5] wx p b rs ∧ (o3 = false → S3.left < D) ∧ TameA S3 ∧ S3.nts.length ≤ 2 ∧ Hid (ROwes R encI B p w (G ()) o3 S3))
    case first =>
      go_wp2_with fail
      go_loopw [13] (fun i wr => ∃ (j : Nat) (o6 : Bool) (S6 : TS), i = .int .i64 j ∧ j ≤ N ∧ RAt B wr p o6 S6 ∧ KeepR B p w wr ∧ HeldR wr p z (.cells #[.int .i64 alg, .int .i64 N, .int .i64 mode, .int .i64 base, .int .i64 loc, .int .i64 room] 52) ∧ RegsAt [3, 4, 5] wr p b rs ∧ (o6 = false → S6.left < D) ∧ TameA S6 ∧ S6.nts.length ≤ 2 ∧ (o6 = false → o2 = false) ∧ Hid (ROwes R encI B p w ((forP (fun j _ => bwFor rs D N m j tv bc) (ranksFrom m (N - j) j) ()).bind G) o6 S6)) (fun i _ => N - (intOf i).toNat)
      case atStart => exact ⟨0, o5, S5, rfl, by omega, hP, hK, b1, hreg, hD, hta, hn0, ho25, hOh⟩
      case round =>
        clear hP hK b1 hreg hD hta hn0 hOh ho25
        obtain ⟨j, o6, S6, rfl, hj, hP, hK, b1, hreg, hD, hta, hn0, ho26, hOh⟩ := hrel
        obtain ⟨_, _, _, _, _, hcc⟩ := hP.cell
        have c_b1 := b1.cells
        by_cases hjN : j < N
        · have dj : decide ((j : Int) < (N : Int)) = true := by rw [decide_eq_true_eq]; omega
          cases o6 with
          | true =>
            have hOh2 := Lib.hid (hOh.out.any (G ()))
            clear hOh
            go_wp2_with fail
            go_meet
            exact ⟨true, S6, hP, hK, b1, hreg, hD, hta, hn0, hOh2⟩
          | false =>
            have ho2 := ho26 rfl
            replace htv := htv ho2
            replace hD := hD rfl
            clear ho26
            obtain ⟨g, hg⟩ : ∃ g, N - j = g + 1 := ⟨N - j - 1, by omega⟩
            by_cases hjm : j = m
            · subst hjm
              have djm : ((j : Int) != (j : Int)) = false := by simp
              replace hO := hOh.out
              rw [hg, ranks_skip, show g = N - (j + 1) from by omega] at hO
              have hf := Lib.hid hO
              clear hO hOh hg
              go_wp2_with fail
              refine ⟨⟨j + 1, false, S6, by go_num, by omega, hP, hK, b1, hreg, fun _ => hD, hta, hn0, fun _ => ho2, hf⟩, ?_⟩
              simp [intOf]; omega
            · have djm : ((j : Int) != (m : Int)) = true := by rw [bne_iff_ne]; omega
              have hw5 := IntWalk.i64_in (2 * tv) (by omega)
              have hw6 := IntWalk.i64_in (2 * tv + bc) (by omega)
              replace hO := hOh.out
              rw [hg, ranks_cons _ _ _ (by omega), forP_consB, show g = N - (j + 1) from by omega] at hO
              have hOh2 := Lib.hid hO
              clear hO hOh hg
              go_wp2_with fail
              clear hcc c_b1
              have hp1 : IntKind.i64.wrap ((2 * tv + bc).tdiv 2) = tv := by
                rw [Int.tdiv_eq_ediv_of_nonneg (by omega), IntWalk.i64_in _ (by omega)]
                omega
              have hp2 : (2 * tv + bc).tmod 2 = bc := by
                rw [Int.tmod_eq_emod_of_nonneg (by omega)]
                omega
              refine rstepA (notes_bwFor _ _ _ _ _ _ _) hOh2.out hK (bwwait_r B p D N m j false S6 alg mode base loc room tv bc (2 * tv + bc) b c rs _ hP hreg h1 h2 hm1 hjN hjm hlenh.out ⟨by omega, by omega⟩ hokh.out htoldh.out hta hD hp1 hp2) ?_
              clear hOh2 hK hP
              intro u o7 S7 wn htm hlf hdn hnn hP hk hK hO
              replace hta := htm hta
              replace hD := Nat.lt_of_le_of_lt hlf hD
              replace hn0 : S7.nts.length ≤ 2 := by omega
              replace b1 := b1.keep hk
              replace hreg := hreg.keep hk
              clear hk htm hnn hdn hlf hp1 hp2
              have hf := Lib.hid hO
              clear hO
              go_wp2_with fail
              refine ⟨⟨j + 1, o7, S7, by go_num, by omega, hP, hK, b1, hreg, fun _ => hD, hta, hn0, fun _ => ho2, hf⟩, ?_⟩
              simp [intOf]; omega
        · obtain rfl : N = j := by omega
          have dj : decide ((N : Int) < (N : Int)) = false := by simp
          replace hO := hOh.out
          rw [Nat.sub_self, ranks_zero, forP_nilB] at hO
          have hOh2 := Lib.hid hO
          clear hO hOh
          go_wp2_with fail
          go_meet
          exact ⟨o6, S6, hP, hK, b1, hreg, hD, hta, hn0, hOh2⟩
    case rest =>
    clear hP hK b1 hreg hD hta hn0 hOh ho25
    obtain ⟨o6, S6, hP, hK, b1, hreg, hD, hta, hn0, hOh⟩ := hcut
    replace hO := hOh.out
    rw [hGh.out] at hO
    clear hOh b1 hreg hD hta
    have hOh := Lib.hid hO
    clear hO
    go_wp2_with fail
    refine rstepN (notes_nt 3) hOh.out hK (note_r B p o6 S6 3 _ hP (by unfold maxAns; omega)) ?_
    clear hOh hK hP
    intro u o7 S7 w7 _ _ _ hP _ hK hO
    have hf : R (.returned (encI 0)) w7 := hO.ret hP hK
    clear hO hP hK
    go_wp2_with fail
    first | exact hf | (go_ret; exact hf)
end Go.Proofs.YtpcohbpeglledaaGreat
/-
  make([]int, n): a row of noughts.
-/
namespace Kv
/-- So many noughts. -/
def zeros (n : Nat) : List Int := List.replicate n 0
end Kv
namespace Go.Proofs.YtpcohbpeglledaaGreat
open Go.RowKit Kv
theorem make_ints (l : Int) (k : Nat) (hl : l = k) (hk : k ≤ 100000) (w : World) :
    (Instr.makeSlice 22 (.int .i64 l) (.int .i64 l)).run Tryz.prog w = .ok (.slice (some ⟨w.heap.size, 0, none⟩) k k) (w.alloc (.cells ((zeros k).map (Value.int .i64)).toArray 3)) := by
  subst hl
  obtain ⟨i0, hi, hz0, hz1, hz2⟩ := info_parts info_int
  have hr := run_makeSlice (P := Tryz.prog) w 22 3 i0 (.int .i64 0) Tryz.underlying22 hi hz0 .i64 .i64 k k (by omega) (by omega) (by rw [hz1]; simp; omega) (by rw [hz2]; omega) (by omega)
  rw [Int.toNat_natCast, hz1, Nat.mul_one] at hr
  have he : madeCells (Value.int .i64 0).cells k = ((zeros k).map (Value.int .i64)).toArray := by
    unfold zeros madeCells
    apply Array.ext'
    rw [List.map_replicate]
    apply List.ext_getElem?
    intro j
    by_cases hj : j < k
    · simp [hj, Nat.mod_one, Value.cells]
    · simp [hj]
  rw [hr, he]
end Go.Proofs.YtpcohbpeglledaaGreat
/-
  The black-white bakery: the chapter's example.
-/
namespace Kv
def bq0 : Reg := ⟨1, 0, 0, 2, -1, -1, 1⟩
def bq1 : Reg := ⟨1, 1, 0, 2, 0, -1, 1⟩
def bq2 : Reg := ⟨1, 2, 0, 2, 1, -1, 1⟩
def bq3 : Reg := ⟨1, 3, 0, 2, 0, -1, 8⟩
def bq4 : Reg := ⟨1, 4, 0, 2, 1, -1, 8⟩
def bqs : List Reg := [bq0, bq1, bq2, bq3, bq4]
end Kv
namespace Go.Proofs.YtpcohbpeglledaaGreat
open Go.RowKit Kv
theorem tameA_zeros (k : Nat) : TameA (TS0 [] (List.replicate k 0)) := by
  intro v hv
  obtain rfl := List.eq_of_mem_replicate (show v ∈ List.replicate k (0 : Int) from hv)
  omega
theorem bqs_ok : ∀ r ∈ bqs, r.ok ∧ r.n = ((2 : Nat) : Int) := by
  intro r hr
  unfold bqs at hr
  simp only [List.mem_cons, List.not_mem_nil, or_false] at hr
  rcases hr with rfl | rfl | rfl | rfl | rfl <;> exact ⟨⟨.inl rfl, by decide, by decide, by decide, fun h => by cases h⟩, rfl⟩
theorem bqs_told (m : Int) : ∀ r ∈ bqs, r.told m := by
  intro r hr
  unfold bqs at hr
  simp only [List.mem_cons, List.not_mem_nil, or_false] at hr
  rcases hr with rfl | rfl | rfl | rfl | rfl <;> exact .inl rfl
theorem bal1 (B p : Nat) (S : TS) (bk : Nat) (w : World) (h : Plays B w p S) (hta : TameA S) (hD : S.left < 8) (hn0 : S.nts.length = 0)
    (c1 : ∀ i, w.cell? ⟨bk, i, none⟩ = (#[.int .i64 3, .int .i64 2, .int .i64 1, .int .i64 0, .int .i64 0, .int .i64 0] : Array Value)[i]?) :
    Calls Tryz.prog 120 #[.pointer (some ⟨p, 0, none⟩), .pointer (some ⟨bk, 0, none⟩)] w (Post encI B p w ((bwA 8 bqs (0 + sumL bqs) 2 0).run S)) := by
  have hq : Calls Tryz.prog 57 #[.pointer (some ⟨p, 0, none⟩), .agg #[.int .i64 3, .int .i64 2, .int .i64 1, .int .i64 0, .int .i64 0, .int .i64 0], .int .i64 0] w (Post encI B p w ((bwA 8 bqs (0 + sumL bqs) 2 0).run S)) :=
    bwacq_p B p 2 8 S 3 1 0 0 0 0 bqs w h (by decide) (by decide) (by decide) rfl (by decide) bqs_ok (fun i r hi _ _ _ => bqs_told _ r (List.mem_of_getElem? hi)) hta hD hn0
  generalize hR : Post encI B p w ((bwA 8 bqs (0 + sumL bqs) 2 0).run S) = R
  have hO : Owes R encI B p w ((bwA 8 bqs (0 + sumL bqs) 2 0).run S) := hR ▸ owes _ _ _ _ _
  clear hR
  have hK := Keep.refl [2, 3, 4] B p w
  go_enter Tryz.func120, Tryz.ntmps120
  go_wp2_with fail
  clear c1
  refine tlast hO hK hq (fun _ h => ⟨rfl, h⟩) ?_
  intro v S1 w1 hr hP1 hk1 hK1 hO1
  have hf := hO1.done hP1 hK1
  clear hO1 hP1 hK1 hr hk1 hO h hK hq
  go_wp2_with fail
  first | exact hf | (go_ret; exact hf)
set_option maxRecDepth 100000 in
set_option maxHeartbeats 1000000 in
theorem alive25 (w : World) : Calls Tryz.prog 55 #[] w fun e w' => e = .returned (.bool true) ∧ Ext w w' := by
  have hmf : ∀ (fn : Fn) (first cap : Array Value) (w : World), (Instr.makeFunc fn first cap).run Tryz.prog w = .ok (.func fn first cap) w := fun _ _ _ _ => rfl
  have hmk : ∀ w, (Instr.makeSlice 22 (.int .i64 7) (.int .i64 7)).run Tryz.prog w = .ok (.slice (some ⟨w.heap.size, 0, none⟩) 7 7) (w.alloc (.cells #[.int .i64 0, .int .i64 0, .int .i64 0, .int .i64 0, .int .i64 0, .int .i64 0, .int .i64 0] 3)) := fun w => make_ints 7 7 rfl (by decide) w
  go_enter Tryz.func55, Tryz.ntmps55
  go_wp2_with fail
  have b1 := Blk.new w (.cells #[.int .i64 3, .int .i64 2, .int .i64 1, .int .i64 0, .int .i64 0, .int .i64 0] 52)
  have hX := (Ext.refl w).alloc (.cells #[.int .i64 3, .int .i64 2, .int .i64 1, .int .i64 0, .int .i64 0, .int .i64 0] 52)
  have hA := ints_new (w.alloc (.cells #[.int .i64 3, .int .i64 2, .int .i64 1, .int .i64 0, .int .i64 0, .int .i64 0] 52)) [0, 0, 0, 0, 0, 0, 0] (by simp)
  replace b1 := b1.alloc (.cells (([0, 0, 0, 0, 0, 0, 0] : List Int).map (Value.int .i64)).toArray 3)
  replace hX := hX.alloc (.cells (([0, 0, 0, 0, 0, 0, 0] : List Int).map (Value.int .i64)).toArray 3)
  simp only [World.size_alloc, List.map_cons, List.map_nil, List.length_cons, List.length_nil] at b1 hA hX
  have hsz : w.heap.size + 1 < (World.alloc (World.alloc w (.cells #[.int .i64 3, .int .i64 2, .int .i64 1, .int .i64 0, .int .i64 0, .int .i64 0] 52)) (.cells #[.int .i64 0, .int .i64 0, .int .i64 0, .int .i64 0, .int .i64 0, .int .i64 0, .int .i64 0] 3)).heap.size := by simp
  generalize World.alloc (World.alloc w _) _ = V1 at *
  refine (play_err 120 #[.pointer (some ⟨w.heap.size, 0, none⟩)] (bwA 8 bqs (0 + sumL bqs) 2 0) none 0 [] (some ⟨w.heap.size + 1, 0, none⟩) 7 [0, 0, 0, 0, 0, 0, 0] V1 (Ints.nil _) (by simp) hA (by decide) (fun k hk => by simp only [Value.ownBlock, Option.some.injEq] at hk; omega) (fun _ _ => rfl) (fun W p hxW hP => bal1 _ p _ w.heap.size W hP (tameA_zeros 7) (by decide) rfl (b1.ext hxW).cells)).mono ?_
  rintro e y1 ⟨v1, rfl, hO, hx1⟩
  have e1 : ((bwA 8 bqs (0 + sumL bqs) 2 0).run (TS0 [] [0, 0, 0, 0, 0, 0, 0])).1 = some 0 := by decide +kernel
  have e2 : ((bwA 8 bqs (0 + sumL bqs) 2 0).run (TS0 [] [0, 0, 0, 0, 0, 0, 0])).2.acc.length = 7 := by decide +kernel
  have e3 : ((bwA 8 bqs (0 + sumL bqs) 2 0).run (TS0 [] [0, 0, 0, 0, 0, 0, 0])).2.acc[3]? = some ⟨2, 3, 2⟩ := by rfl
  have e4 : ((bwA 8 bqs (0 + sumL bqs) 2 0).run (TS0 [] [0, 0, 0, 0, 0, 0, 0])).2.nts.length = 3 := by decide +kernel
  have e5 : ((bwA 8 bqs (0 + sumL bqs) 2 0).run (TS0 [] [0, 0, 0, 0, 0, 0, 0])).2.nts[1]? = some ⟨2, 5⟩ := by rfl
  rw [e1] at hO ⊢
  generalize ((bwA 8 bqs (0 + sumL bqs) 2 0).run (TS0 [] [0, 0, 0, 0, 0, 0, 0])).2 = S1 at *
  obtain ⟨A1, c1, A1', c1', vs1, L1, rfl, hO⟩ := hO
  obtain ⟨As1, k1, hvs1, _, _⟩ := hO.locs.slice
  subst hvs1
  obtain ⟨u2, rfl, hu2, z20, z21, z22⟩ := hO.accs.at_ e3
  obtain ⟨u3, rfl, hu3, z30, z31⟩ := hO.nts.at_ e5
  simp only [Nat.reduceMul, Nat.reduceAdd] at z20 z21 z22 z30 z31
  unfold outV
  rw [e2, e4] at *
  simp only [Option.getD_some, Option.isSome_some]
  replace hX := hX.trans hx1
  have s2 := (Ext.refl y1).alloc (.cells #[.bool true, .slice (some ⟨u2, 0, none⟩) 7 c1, .slice (some ⟨u3, 0, none⟩) 3 c1', .slice As1 (shortL L1).length k1] 36)
  have n1 := Blk.new y1 (.cells #[.bool true, .slice (some ⟨u2, 0, none⟩) 7 c1, .slice (some ⟨u3, 0, none⟩) 3 c1', .slice As1 (shortL L1).length k1] 36)
  replace hX := hX.alloc (.cells #[.bool true, .slice (some ⟨u2, 0, none⟩) 7 c1, .slice (some ⟨u3, 0, none⟩) 3 c1', .slice As1 (shortL L1).length k1] 36)
  replace z20 := (s2.cell (p := ⟨u2, 9, none⟩) hu2).trans z20
  replace z21 := (s2.cell (p := ⟨u2, 10, none⟩) hu2).trans z21
  replace z22 := (s2.cell (p := ⟨u2, 11, none⟩) hu2).trans z22
  replace z30 := (s2.cell (p := ⟨u3, 2, none⟩) hu3).trans z30
  replace z31 := (s2.cell (p := ⟨u3, 3, none⟩) hu3).trans z31
  clear e1 e2 e3 e4 e5 hO hx1 hA hsz s2 b1
  have c_n1 := n1.cells
  have hXh := Lib.hid hX
  clear n1 hX
  go_wp2_with fail
  refine (bwwants_p 2 _ (by decide) (by decide)).mono ?_
  rintro e w3 ⟨v3, rfl, hw, hx⟩
  have hf := Lib.hid (hXh.out.trans hx)
  obtain ⟨A3, c3, rfl, -, -, -⟩ := hw
  rw [bwWants_len]
  clear hx hmf
  go_wp2_with fail
  go_ret
  exact ⟨rfl, hf.out⟩
end Go.Proofs.YtpcohbpeglledaaGreat
/-
  BlackwhitePlays: what it plays.
-/
namespace Go.Proofs.YtpcohbpeglledaaGreat
open Go.RowKit Kv
theorem bw_told {N : Nat} {mode b c : Int} {rs : List Reg} {m : Nat} (h : layM (bwWants N) N mode b c = some rs) : ∀ (i : Nat) r, rs[i]? = some r → i ≠ 1 + m → i ≠ 1 + N + m → 2 ≤ N → r.told m := by
  intro i r hi hm hm2 hN
  obtain ⟨⟨h1, h2, _⟩, _⟩ := layM_args h
  have hw : (bwWant N i).wr = if i = 0 then -1 else if i ≤ N then (i : Int) - 1 else (i : Int) - 1 - N := by
    unfold bwWant
    split
    · rfl
    · split <;> rfl
  refine laid_told (laid_want h hi) ⟨h1, h2⟩ (by omega) ?_ ?_
  · rw [hw]
    split
    · omega
    · split <;> omega
  · rw [hw]
    split
    · omega
    · split <;> omega
theorem bw_loc {N : Nat} {mode b c : Int} {rs : List Reg} (h : layM (bwWants N) N mode b c = some rs) : 0 ≤ c ∧ c ≤ 32768 := by
  obtain ⟨⟨_, _, n1, n2, _, h6⟩, _, hf⟩ := layM_args h
  have hlen := layM_len h
  rw [bwWants_len] at hlen
  obtain ⟨r0, hr0⟩ : ∃ r, rs[0]? = some r := ⟨_, List.getElem?_eq_getElem (by omega)⟩
  have h1 := layFrom_from ⟨n1, n2⟩ _ _ _ _ hf 0 r0 hr0
  have h2 := (laid_all h r0 (List.mem_of_getElem? hr0)).1.loc
  omega
theorem tameL_bd (L : List Int) : ∀ v ∈ tameL L 1048576, 0 ≤ v ∧ v ≤ 1048576 := by
  intro v hv
  unfold tameL at hv
  obtain ⟨x, _, rfl⟩ := List.mem_map.1 hv
  have h1 := wrapI_bd x 1048576
  have h2 : clamp 1048576 1099511627776 = 1048576 := by decide
  omega
theorem bwclA (B p N D : Nat) (S : TS) (alg mode base loc room : Int) (m : Nat) (rs : List Reg) (bk bt : Nat) (w : World) (h : Plays B w p S) (h1 : 1 ≤ N) (h2 : N ≤ 8) (hm1 : m < N) (hl : layM (bwWants N) N mode base loc = some rs)
    (hok : ∀ r ∈ rs, r.ok ∧ r.n = N) (htold : ∀ (i : Nat) r, rs[i]? = some r → i ≠ 1 + m → i ≠ 1 + N + m → 2 ≤ N → r.told m) (hlc : 0 ≤ loc ∧ loc ≤ 32768) (hta : TameA S) (hD : S.left < D) (hn0 : S.nts.length = 0)
    (c1 : ∀ i, w.cell? ⟨bk, i, none⟩ = (#[.int .i64 alg, .int .i64 N, .int .i64 mode, .int .i64 base, .int .i64 loc, .int .i64 room] : Array Value)[i]?) (c2 : w.cell? ⟨bt, 0, none⟩ = some (.int .i64 m)) :
    Calls Tryz.prog 56 #[.pointer (some ⟨p, 0, none⟩), .pointer (some ⟨bk, 0, none⟩), .pointer (some ⟨bt, 0, none⟩)] w (Post encI B p w ((bwA D rs (loc + sumL rs) N m).run S)) := by
  generalize hR : Post encI B p w ((bwA D rs (loc + sumL rs) N m).run S) = R
  have hO : Owes R encI B p w ((bwA D rs (loc + sumL rs) N m).run S) := hR ▸ owes _ _ _ _ _
  clear hR
  have hK := Keep.refl [2, 3, 4] B p w
  have hlh := Lib.hid hl
  clear hl
  go_enter Tryz.func56, Tryz.ntmps56
  go_wp2_with fail
  clear c1 c2
  refine tlast hO hK (bwacq_p B p N D S alg mode base loc room m rs w h h1 h2 hm1 hlh.out hlc hok htold hta hD hn0) (fun _ h => ⟨rfl, h⟩) ?_
  intro v S1 w1 hr hP1 hk1 hK1 hO1
  have hf := hO1.done hP1 hK1
  clear hO1 hP1 hK1 hr hk1 hO h hK
  go_wp2_with fail
  first | exact hf | (go_ret; exact hf)
theorem bwclR (B p N : Nat) (S : TS) (alg mode base loc room : Int) (m : Nat) (rs : List Reg) (bk bt : Nat) (w : World) (h : Plays B w p S) (h1 : 1 ≤ N) (h2 : N ≤ 8) (hm1 : m < N) (hl : layM (bwWants N) N mode base loc = some rs)
    (hok : ∀ r ∈ rs, r.ok ∧ r.n = N) (hlc : 0 ≤ loc ∧ loc ≤ 32768) (hn0 : S.nts.length = 0)
    (c1 : ∀ i, w.cell? ⟨bk, i, none⟩ = (#[.int .i64 alg, .int .i64 N, .int .i64 mode, .int .i64 base, .int .i64 loc, .int .i64 room] : Array Value)[i]?) (c2 : w.cell? ⟨bt, 0, none⟩ = some (.int .i64 m)) :
    Calls Tryz.prog 59 #[.pointer (some ⟨p, 0, none⟩), .pointer (some ⟨bk, 0, none⟩), .pointer (some ⟨bt, 0, none⟩)] w (Post encI B p w (((bwR rs (loc + sumL rs) N m).bind fun _ => .ret 0).run S)) := by
  generalize hR : Post encI B p w (((bwR rs (loc + sumL rs) N m).bind fun _ => .ret 0).run S) = R
  have hO : Owes R encI B p w (((bwR rs (loc + sumL rs) N m).bind fun _ => .ret 0).run S) := hR ▸ owes _ _ _ _ _
  clear hR
  have hK := Keep.refl [2, 3, 4] B p w
  have hlh := Lib.hid hl
  clear hl
  go_enter Tryz.func59, Tryz.ntmps59
  go_wp2_with fail
  clear c1 c2
  refine tstep hO hK (bwrel_p B p N S alg mode base loc room m rs w h h1 h2 hm1 hlh.out hlc hok hn0) (fun _ h => ⟨rfl, h⟩) ?_
  intro v S1 w1 hr hP1 hk1 hK1 hO1
  have hf := hO1.done (v := (0 : Int)) hP1 hK1
  clear hO1 hP1 hK1 hr hk1 hO h hK
  go_wp2_with fail
  first | exact hf | (go_ret; exact hf)
set_option maxRecDepth 100000 in
set_option maxHeartbeats 2000000 in
theorem bw_walk (alg N0 mode base loc room me : Int) (vL vA : Value) (Ll La : List Int) (w : World) (hL : Ints w vL Ll) (hA : Ints w vA La) :
    Calls Tryz.prog 7 #[.agg #[.int .i64 alg, .int .i64 N0, .int .i64 mode, .int .i64 base, .int .i64 loc, .int .i64 room], .int .i64 me, vL, vA] w fun e w' => e = .returned (.bool true) ∧ Ext w w' := by
  obtain ⟨Al, cl, rfl, p1, p2⟩ := hL.slice
  obtain ⟨Aa, ca, rfl, p3, p4⟩ := hA.slice
  have hmf : ∀ (fn : Fn) (first cap : Array Value) (w : World), (Instr.makeFunc fn first cap).run Tryz.prog w = .ok (.func fn first cap) w := fun _ _ _ _ => rfl
  have hX := Ext.refl w
  have b1 := Blk.new w (.cells #[.int .i64 alg, .int .i64 N0, .int .i64 mode, .int .i64 base, .int .i64 loc, .int .i64 room] 52)
  replace hX := hX.alloc (.cells #[.int .i64 alg, .int .i64 N0, .int .i64 mode, .int .i64 base, .int .i64 loc, .int .i64 room] 52)
  have c_b1 := b1.cells
  go_enter Tryz.func7, Tryz.ntmps7
  go_wp2_with fail
  have hXW := hX.drew
  replace b1 := b1.drew
  clear hX c_b1
  have hX := hXW
  have c_b1 := b1.cells
  by_cases h1 : 1000 < Ll.length
  · have d1 : decide ((1000 : Int) < (Ll.length : Int)) = true := by rw [decide_eq_true_eq]; omega
    refine wp_region_held_drew (S := fun w' => ∀ i, w'.cell? ⟨w.heap.size, i, none⟩ = (#[.int .i64 alg, .int .i64 N0, .int .i64 mode, .int .i64 base, .int .i64 loc, .int .i64 room] : Array Value)[i]?) rfl c_b1 (fun hHeld => ?_)
    refine wpAnyH_take (i := 0) (v := ?_) rfl (by kernel_rfl) (by kernel_rfl) (by kernel_rfl) (fun _ _ _ h => h) (Or.inl ⟨by kernel_rfl, ?_⟩) (by assumption) ?_
    rotate_left
    · (intro w hSw; (try dsimp only at hSw); go_simp; try with_reducible rfl)
    try simp only [put_pack]
    refine wpAnyH_take (i := 1) (v := ?_) rfl (by kernel_rfl) (by kernel_rfl) (by kernel_rfl) (fun _ _ _ h => h) (Or.inl ⟨by kernel_rfl, ?_⟩) (by assumption) ?_
    rotate_left
    · (intro w hSw; (try dsimp only at hSw); go_simp; try with_reducible rfl)
    try simp only [put_pack]
    refine wpAnyH_take (i := 2) (v := ?_) rfl (by kernel_rfl) (by kernel_rfl) (by kernel_rfl) (fun _ _ _ h => h) (Or.inl ⟨by kernel_rfl, ?_⟩) (by assumption) ?_
    rotate_left
    · (intro w hSw; (try dsimp only at hSw); go_simp; try with_reducible rfl)
    try simp only [put_pack]
    refine wpAnyH_take (i := 3) (v := ?_) rfl (by kernel_rfl) (by kernel_rfl) (by kernel_rfl) (fun _ _ _ h => h) (Or.inl ⟨by kernel_rfl, ?_⟩) (by assumption) ?_
    rotate_left
    · (intro w hSw; (try dsimp only at hSw); go_simp; try with_reducible rfl)
    try simp only [put_pack]
    refine wpAnyH_take (i := 4) (v := undef) rfl (by kernel_rfl) (by kernel_rfl) (by kernel_rfl) (fun _ _ _ h => h) (Or.inr ⟨by kernel_rfl, rfl⟩) (by assumption) ?_
    try simp only [put_pack]
    refine wpAnyH_take (i := 5) (v := undef) rfl (by kernel_rfl) (by kernel_rfl) (by kernel_rfl) (fun _ _ _ h => h) (Or.inr ⟨by kernel_rfl, rfl⟩) (by assumption) ?_
    try simp only [put_pack]
    refine wpAnyH_take (i := 6) (v := undef) rfl (by kernel_rfl) (by kernel_rfl) (by kernel_rfl) (fun _ _ _ h => h) (Or.inr ⟨by kernel_rfl, rfl⟩) (by assumption) ?_
    try simp only [put_pack]
    refine wpAnyH_take (i := 7) (v := ?_) rfl (by kernel_rfl) (by kernel_rfl) (by kernel_rfl) (fun _ _ _ h => h) (Or.inl ⟨by kernel_rfl, ?_⟩) (by assumption) ?_
    rotate_left
    · (intro w hSw; (try dsimp only at hSw); go_simp; try with_reducible rfl)
    try simp only [put_pack]
    refine wpAnyH_take (i := 8) (v := ?_) rfl (by kernel_rfl) (by kernel_rfl) (by kernel_rfl) (fun _ _ _ h => h) (Or.inl ⟨by kernel_rfl, ?_⟩) (by assumption) ?_
    rotate_left
    · (intro w hSw; (try dsimp only at hSw); go_simp; try with_reducible rfl)
    try simp only [put_pack]
    refine wpAnyH_take (i := 9) (v := undef) rfl (by kernel_rfl) (by kernel_rfl) (by kernel_rfl) (fun _ _ _ h => h) (Or.inr ⟨by kernel_rfl, rfl⟩) (by assumption) ?_
    try simp only [put_pack]
    refine wpAnyH_take (i := 10) (v := undef) rfl (by kernel_rfl) (by kernel_rfl) (by kernel_rfl) (fun _ _ _ h => h) (Or.inr ⟨by kernel_rfl, rfl⟩) (by assumption) ?_
    try simp only [put_pack]
    refine wpAnyH_take (i := 11) (v := undef) rfl (by kernel_rfl) (by kernel_rfl) (by kernel_rfl) (fun _ _ _ h => h) (Or.inr ⟨by kernel_rfl, rfl⟩) (by assumption) ?_
    try simp only [put_pack]
    refine wpAnyH_take (i := 12) (v := ?_) rfl (by kernel_rfl) (by kernel_rfl) (by kernel_rfl) (fun _ _ _ h => h) (Or.inl ⟨by kernel_rfl, ?_⟩) (by assumption) ?_
    rotate_left
    · (intro w hSw; (try dsimp only at hSw); go_simp; try with_reducible rfl)
    try simp only [put_pack]
    refine wpAnyH_take (i := 13) (v := ?_) rfl (by kernel_rfl) (by kernel_rfl) (by kernel_rfl) (fun _ _ _ h => h) (Or.inl ⟨by kernel_rfl, ?_⟩) (by assumption) ?_
    rotate_left
    · (intro w hSw; (try dsimp only at hSw); go_simp; try with_reducible rfl)
    try simp only [put_pack]
    refine wpAnyH_take (i := 14) (v := undef) rfl (by kernel_rfl) (by kernel_rfl) (by kernel_rfl) (fun _ _ _ h => h) (Or.inr ⟨by kernel_rfl, rfl⟩) (by assumption) ?_
    try simp only [put_pack]
    refine wpAnyH_take (i := 15) (v := undef) rfl (by kernel_rfl) (by kernel_rfl) (by kernel_rfl) (fun _ _ _ h => h) (Or.inr ⟨by kernel_rfl, rfl⟩) (by assumption) ?_
    try simp only [put_pack]
    refine wpAnyH_take (i := 16) (v := undef) rfl (by kernel_rfl) (by kernel_rfl) (by kernel_rfl) (fun _ _ _ h => h) (Or.inr ⟨by kernel_rfl, rfl⟩) (by assumption) ?_
    try simp only [put_pack]
    refine wpAnyH_take (i := 17) (v := ?_) rfl (by kernel_rfl) (by kernel_rfl) (by kernel_rfl) (fun _ _ _ h => h) (Or.inl ⟨by kernel_rfl, ?_⟩) (by assumption) ?_
    rotate_left
    · (intro w hSw; (try dsimp only at hSw); go_simp; try with_reducible rfl)
    try simp only [put_pack]
    refine wpAnyH_take (i := 18) (v := ?_) rfl (by kernel_rfl) (by kernel_rfl) (by kernel_rfl) (fun _ _ _ h => h) (Or.inl ⟨by kernel_rfl, ?_⟩) (by assumption) ?_
    rotate_left
    · (intro w hSw; (try dsimp only at hSw); go_simp; try with_reducible rfl)
    try simp only [put_pack]
    refine wpAnyH_take (i := 19) (v := undef) rfl (by kernel_rfl) (by kernel_rfl) (by kernel_rfl) (fun _ _ _ h => h) (Or.inr ⟨by kernel_rfl, rfl⟩) (by assumption) ?_
    try simp only [put_pack]
    refine wpAnyH_take (i := 20) (v := undef) rfl (by kernel_rfl) (by kernel_rfl) (by kernel_rfl) (fun _ _ _ h => h) (Or.inr ⟨by kernel_rfl, rfl⟩) (by assumption) ?_
    try simp only [put_pack]
    refine wpAnyH_take (i := 21) (v := undef) rfl (by kernel_rfl) (by kernel_rfl) (by kernel_rfl) (fun _ _ _ h => h) (Or.inr ⟨by kernel_rfl, rfl⟩) (by assumption) ?_
    try simp only [put_pack]
    refine wpAnyH_take (i := 22) (v := undef) rfl (by kernel_rfl) (by kernel_rfl) (by kernel_rfl) (fun _ _ _ h => h) (Or.inr ⟨by kernel_rfl, rfl⟩) (by assumption) ?_
    try simp only [put_pack]
    refine wpAnyH_take (i := 23) (v := undef) rfl (by kernel_rfl) (by kernel_rfl) (by kernel_rfl) (fun _ _ _ h => h) (Or.inr ⟨by kernel_rfl, rfl⟩) (by assumption) ?_
    try simp only [put_pack]
    refine wpAnyH_take (i := 24) (v := undef) rfl (by kernel_rfl) (by kernel_rfl) (by kernel_rfl) (fun _ _ _ h => h) (Or.inr ⟨by kernel_rfl, rfl⟩) (by assumption) ?_
    try simp only [put_pack]
    refine wpAnyH_take (i := 25) (v := ?_) rfl (by kernel_rfl) (by kernel_rfl) (by kernel_rfl) (fun _ _ _ h => h) (Or.inl ⟨by kernel_rfl, ?_⟩) (by assumption) ?_
    rotate_left
    · (intro w hSw; (try dsimp only at hSw); go_simp; try with_reducible rfl)
    try simp only [put_pack]
    refine wpAnyH_done (by kernel_rfl) ?_ _
    go_simp
    go_wp2_with fail
    refine (alive25 _).mono ?_
    rintro e w7 ⟨rfl, hx7⟩
    have hf := Lib.hid (hX.trans hx7)
    go_wp2_with fail
    go_ret
    exact ⟨rfl, hf.out⟩
  have d1 : decide ((1000 : Int) < (Ll.length : Int)) = false := by rw [decide_eq_false_iff_not]; omega
  by_cases h2 : 1500 < La.length
  · have d2 : decide ((1500 : Int) < (La.length : Int)) = true := by rw [decide_eq_true_eq]; omega
    refine wp_region_held_drew (S := fun w' => ∀ i, w'.cell? ⟨w.heap.size, i, none⟩ = (#[.int .i64 alg, .int .i64 N0, .int .i64 mode, .int .i64 base, .int .i64 loc, .int .i64 room] : Array Value)[i]?) rfl c_b1 (fun hHeld => ?_)
    refine wpAnyH_take (i := 0) (v := ?_) rfl (by kernel_rfl) (by kernel_rfl) (by kernel_rfl) (fun _ _ _ h => h) (Or.inl ⟨by kernel_rfl, ?_⟩) (by assumption) ?_
    rotate_left
    · (intro w hSw; (try dsimp only at hSw); go_simp; try with_reducible rfl)
    try simp only [put_pack]
    refine wpAnyH_take (i := 1) (v := ?_) rfl (by kernel_rfl) (by kernel_rfl) (by kernel_rfl) (fun _ _ _ h => h) (Or.inl ⟨by kernel_rfl, ?_⟩) (by assumption) ?_
    rotate_left
    · (intro w hSw; (try dsimp only at hSw); go_simp; try with_reducible rfl)
    try simp only [put_pack]
    refine wpAnyH_take (i := 2) (v := ?_) rfl (by kernel_rfl) (by kernel_rfl) (by kernel_rfl) (fun _ _ _ h => h) (Or.inl ⟨by kernel_rfl, ?_⟩) (by assumption) ?_
    rotate_left
    · (intro w hSw; (try dsimp only at hSw); go_simp; try with_reducible rfl)
    try simp only [put_pack]
    refine wpAnyH_take (i := 3) (v := ?_) rfl (by kernel_rfl) (by kernel_rfl) (by kernel_rfl) (fun _ _ _ h => h) (Or.inl ⟨by kernel_rfl, ?_⟩) (by assumption) ?_
    rotate_left
    · (intro w hSw; (try dsimp only at hSw); go_simp; try with_reducible rfl)
    try simp only [put_pack]
    refine wpAnyH_take (i := 4) (v := ?_) rfl (by kernel_rfl) (by kernel_rfl) (by kernel_rfl) (fun _ _ _ h => h) (Or.inl ⟨by kernel_rfl, ?_⟩) (by assumption) ?_
    rotate_left
    · (intro w hSw; (try dsimp only at hSw); go_simp; try with_reducible rfl)
    try simp only [put_pack]
    refine wpAnyH_take (i := 5) (v := ?_) rfl (by kernel_rfl) (by kernel_rfl) (by kernel_rfl) (fun _ _ _ h => h) (Or.inl ⟨by kernel_rfl, ?_⟩) (by assumption) ?_
    rotate_left
    · (intro w hSw; (try dsimp only at hSw); go_simp; try with_reducible rfl)
    try simp only [put_pack]
    refine wpAnyH_take (i := 6) (v := ?_) rfl (by kernel_rfl) (by kernel_rfl) (by kernel_rfl) (fun _ _ _ h => h) (Or.inl ⟨by kernel_rfl, ?_⟩) (by assumption) ?_
    rotate_left
    · (intro w hSw; (try dsimp only at hSw); go_simp; try with_reducible rfl)
    try simp only [put_pack]
    refine wpAnyH_take (i := 7) (v := ?_) rfl (by kernel_rfl) (by kernel_rfl) (by kernel_rfl) (fun _ _ _ h => h) (Or.inl ⟨by kernel_rfl, ?_⟩) (by assumption) ?_
    rotate_left
    · (intro w hSw; (try dsimp only at hSw); go_simp; try with_reducible rfl)
    try simp only [put_pack]
    refine wpAnyH_take (i := 8) (v := ?_) rfl (by kernel_rfl) (by kernel_rfl) (by kernel_rfl) (fun _ _ _ h => h) (Or.inl ⟨by kernel_rfl, ?_⟩) (by assumption) ?_
    rotate_left
    · (intro w hSw; (try dsimp only at hSw); go_simp; try with_reducible rfl)
    try simp only [put_pack]
    refine wpAnyH_take (i := 9) (v := undef) rfl (by kernel_rfl) (by kernel_rfl) (by kernel_rfl) (fun _ _ _ h => h) (Or.inr ⟨by kernel_rfl, rfl⟩) (by assumption) ?_
    try simp only [put_pack]
    refine wpAnyH_take (i := 10) (v := undef) rfl (by kernel_rfl) (by kernel_rfl) (by kernel_rfl) (fun _ _ _ h => h) (Or.inr ⟨by kernel_rfl, rfl⟩) (by assumption) ?_
    try simp only [put_pack]
    refine wpAnyH_take (i := 11) (v := undef) rfl (by kernel_rfl) (by kernel_rfl) (by kernel_rfl) (fun _ _ _ h => h) (Or.inr ⟨by kernel_rfl, rfl⟩) (by assumption) ?_
    try simp only [put_pack]
    refine wpAnyH_take (i := 12) (v := ?_) rfl (by kernel_rfl) (by kernel_rfl) (by kernel_rfl) (fun _ _ _ h => h) (Or.inl ⟨by kernel_rfl, ?_⟩) (by assumption) ?_
    rotate_left
    · (intro w hSw; (try dsimp only at hSw); go_simp; try with_reducible rfl)
    try simp only [put_pack]
    refine wpAnyH_take (i := 13) (v := ?_) rfl (by kernel_rfl) (by kernel_rfl) (by kernel_rfl) (fun _ _ _ h => h) (Or.inl ⟨by kernel_rfl, ?_⟩) (by assumption) ?_
    rotate_left
    · (intro w hSw; (try dsimp only at hSw); go_simp; try with_reducible rfl)
    try simp only [put_pack]
    refine wpAnyH_take (i := 14) (v := undef) rfl (by kernel_rfl) (by kernel_rfl) (by kernel_rfl) (fun _ _ _ h => h) (Or.inr ⟨by kernel_rfl, rfl⟩) (by assumption) ?_
    try simp only [put_pack]
    refine wpAnyH_take (i := 15) (v := undef) rfl (by kernel_rfl) (by kernel_rfl) (by kernel_rfl) (fun _ _ _ h => h) (Or.inr ⟨by kernel_rfl, rfl⟩) (by assumption) ?_
    try simp only [put_pack]
    refine wpAnyH_take (i := 16) (v := undef) rfl (by kernel_rfl) (by kernel_rfl) (by kernel_rfl) (fun _ _ _ h => h) (Or.inr ⟨by kernel_rfl, rfl⟩) (by assumption) ?_
    try simp only [put_pack]
    refine wpAnyH_take (i := 17) (v := ?_) rfl (by kernel_rfl) (by kernel_rfl) (by kernel_rfl) (fun _ _ _ h => h) (Or.inl ⟨by kernel_rfl, ?_⟩) (by assumption) ?_
    rotate_left
    · (intro w hSw; (try dsimp only at hSw); go_simp; try with_reducible rfl)
    try simp only [put_pack]
    refine wpAnyH_take (i := 18) (v := ?_) rfl (by kernel_rfl) (by kernel_rfl) (by kernel_rfl) (fun _ _ _ h => h) (Or.inl ⟨by kernel_rfl, ?_⟩) (by assumption) ?_
    rotate_left
    · (intro w hSw; (try dsimp only at hSw); go_simp; try with_reducible rfl)
    try simp only [put_pack]
    refine wpAnyH_take (i := 19) (v := undef) rfl (by kernel_rfl) (by kernel_rfl) (by kernel_rfl) (fun _ _ _ h => h) (Or.inr ⟨by kernel_rfl, rfl⟩) (by assumption) ?_
    try simp only [put_pack]
    refine wpAnyH_take (i := 20) (v := undef) rfl (by kernel_rfl) (by kernel_rfl) (by kernel_rfl) (fun _ _ _ h => h) (Or.inr ⟨by kernel_rfl, rfl⟩) (by assumption) ?_
    try simp only [put_pack]
    refine wpAnyH_take (i := 21) (v := undef) rfl (by kernel_rfl) (by kernel_rfl) (by kernel_rfl) (fun _ _ _ h => h) (Or.inr ⟨by kernel_rfl, rfl⟩) (by assumption) ?_
    try simp only [put_pack]
    refine wpAnyH_take (i := 22) (v := undef) rfl (by kernel_rfl) (by kernel_rfl) (by kernel_rfl) (fun _ _ _ h => h) (Or.inr ⟨by kernel_rfl, rfl⟩) (by assumption) ?_
    try simp only [put_pack]
    refine wpAnyH_take (i := 23) (v := undef) rfl (by kernel_rfl) (by kernel_rfl) (by kernel_rfl) (fun _ _ _ h => h) (Or.inr ⟨by kernel_rfl, rfl⟩) (by assumption) ?_
    try simp only [put_pack]
    refine wpAnyH_take (i := 24) (v := undef) rfl (by kernel_rfl) (by kernel_rfl) (by kernel_rfl) (fun _ _ _ h => h) (Or.inr ⟨by kernel_rfl, rfl⟩) (by assumption) ?_
    try simp only [put_pack]
    refine wpAnyH_take (i := 25) (v := ?_) rfl (by kernel_rfl) (by kernel_rfl) (by kernel_rfl) (fun _ _ _ h => h) (Or.inl ⟨by kernel_rfl, ?_⟩) (by assumption) ?_
    rotate_left
    · (intro w hSw; (try dsimp only at hSw); go_simp; try with_reducible rfl)
    try simp only [put_pack]
    refine wpAnyH_done (by kernel_rfl) ?_ _
    go_simp
    go_wp2_with fail
    refine (alive25 _).mono ?_
    rintro e w7 ⟨rfl, hx7⟩
    have hf := Lib.hid (hX.trans hx7)
    go_wp2_with fail
    go_ret
    exact ⟨rfl, hf.out⟩
  have d2 : decide ((1500 : Int) < (La.length : Int)) = false := by rw [decide_eq_false_iff_not]; omega
  by_cases h3 : N0 < 1
  · have d3 : decide (N0 < 1) = true := by simpa using h3
    refine wp_region_held_drew (S := fun w' => ∀ i, w'.cell? ⟨w.heap.size, i, none⟩ = (#[.int .i64 alg, .int .i64 N0, .int .i64 mode, .int .i64 base, .int .i64 loc, .int .i64 room] : Array Value)[i]?) rfl c_b1 (fun hHeld => ?_)
    refine wpAnyH_take (i := 0) (v := ?_) rfl (by kernel_rfl) (by kernel_rfl) (by kernel_rfl) (fun _ _ _ h => h) (Or.inl ⟨by kernel_rfl, ?_⟩) (by assumption) ?_
    rotate_left
    · (intro w hSw; (try dsimp only at hSw); go_simp; try with_reducible rfl)
    try simp only [put_pack]
    refine wpAnyH_take (i := 1) (v := ?_) rfl (by kernel_rfl) (by kernel_rfl) (by kernel_rfl) (fun _ _ _ h => h) (Or.inl ⟨by kernel_rfl, ?_⟩) (by assumption) ?_
    rotate_left
    · (intro w hSw; (try dsimp only at hSw); go_simp; try with_reducible rfl)
    try simp only [put_pack]
    refine wpAnyH_take (i := 2) (v := ?_) rfl (by kernel_rfl) (by kernel_rfl) (by kernel_rfl) (fun _ _ _ h => h) (Or.inl ⟨by kernel_rfl, ?_⟩) (by assumption) ?_
    rotate_left
    · (intro w hSw; (try dsimp only at hSw); go_simp; try with_reducible rfl)
    try simp only [put_pack]
    refine wpAnyH_take (i := 3) (v := ?_) rfl (by kernel_rfl) (by kernel_rfl) (by kernel_rfl) (fun _ _ _ h => h) (Or.inl ⟨by kernel_rfl, ?_⟩) (by assumption) ?_
    rotate_left
    · (intro w hSw; (try dsimp only at hSw); go_simp; try with_reducible rfl)
    try simp only [put_pack]
    refine wpAnyH_take (i := 4) (v := ?_) rfl (by kernel_rfl) (by kernel_rfl) (by kernel_rfl) (fun _ _ _ h => h) (Or.inl ⟨by kernel_rfl, ?_⟩) (by assumption) ?_
    rotate_left
    · (intro w hSw; (try dsimp only at hSw); go_simp; try with_reducible rfl)
    try simp only [put_pack]
    refine wpAnyH_take (i := 5) (v := ?_) rfl (by kernel_rfl) (by kernel_rfl) (by kernel_rfl) (fun _ _ _ h => h) (Or.inl ⟨by kernel_rfl, ?_⟩) (by assumption) ?_
    rotate_left
    · (intro w hSw; (try dsimp only at hSw); go_simp; try with_reducible rfl)
    try simp only [put_pack]
    refine wpAnyH_take (i := 6) (v := ?_) rfl (by kernel_rfl) (by kernel_rfl) (by kernel_rfl) (fun _ _ _ h => h) (Or.inl ⟨by kernel_rfl, ?_⟩) (by assumption) ?_
    rotate_left
    · (intro w hSw; (try dsimp only at hSw); go_simp; try with_reducible rfl)
    try simp only [put_pack]
    refine wpAnyH_take (i := 7) (v := ?_) rfl (by kernel_rfl) (by kernel_rfl) (by kernel_rfl) (fun _ _ _ h => h) (Or.inl ⟨by kernel_rfl, ?_⟩) (by assumption) ?_
    rotate_left
    · (intro w hSw; (try dsimp only at hSw); go_simp; try with_reducible rfl)
    try simp only [put_pack]
    refine wpAnyH_take (i := 8) (v := ?_) rfl (by kernel_rfl) (by kernel_rfl) (by kernel_rfl) (fun _ _ _ h => h) (Or.inl ⟨by kernel_rfl, ?_⟩) (by assumption) ?_
    rotate_left
    · (intro w hSw; (try dsimp only at hSw); go_simp; try with_reducible rfl)
    try simp only [put_pack]
    refine wpAnyH_take (i := 9) (v := ?_) rfl (by kernel_rfl) (by kernel_rfl) (by kernel_rfl) (fun _ _ _ h => h) (Or.inl ⟨by kernel_rfl, ?_⟩) (by assumption) ?_
    rotate_left
    · (intro w hSw; (try dsimp only at hSw); go_simp; try with_reducible rfl)
    try simp only [put_pack]
    refine wpAnyH_take (i := 10) (v := ?_) rfl (by kernel_rfl) (by kernel_rfl) (by kernel_rfl) (fun _ _ _ h => h) (Or.inl ⟨by kernel_rfl, ?_⟩) (by assumption) ?_
    rotate_left
    · (intro w hSw; (try dsimp only at hSw); go_simp; try with_reducible rfl)
    try simp only [put_pack]
    refine wpAnyH_take (i := 11) (v := ?_) rfl (by kernel_rfl) (by kernel_rfl) (by kernel_rfl) (fun _ _ _ h => h) (Or.inl ⟨by kernel_rfl, ?_⟩) (by assumption) ?_
    rotate_left
    · (intro w hSw; (try dsimp only at hSw); go_simp; try with_reducible rfl)
    try simp only [put_pack]
    refine wpAnyH_take (i := 12) (v := ?_) rfl (by kernel_rfl) (by kernel_rfl) (by kernel_rfl) (fun _ _ _ h => h) (Or.inl ⟨by kernel_rfl, ?_⟩) (by assumption) ?_
    rotate_left
    · (intro w hSw; (try dsimp only at hSw); go_simp; try with_reducible rfl)
    try simp only [put_pack]
    refine wpAnyH_take (i := 13) (v := ?_) rfl (by kernel_rfl) (by kernel_rfl) (by kernel_rfl) (fun _ _ _ h => h) (Or.inl ⟨by kernel_rfl, ?_⟩) (by assumption) ?_
    rotate_left
    · (intro w hSw; (try dsimp only at hSw); go_simp; try with_reducible rfl)
    try simp only [put_pack]
    refine wpAnyH_take (i := 14) (v := undef) rfl (by kernel_rfl) (by kernel_rfl) (by kernel_rfl) (fun _ _ _ h => h) (Or.inr ⟨by kernel_rfl, rfl⟩) (by assumption) ?_
    try simp only [put_pack]
    refine wpAnyH_take (i := 15) (v := undef) rfl (by kernel_rfl) (by kernel_rfl) (by kernel_rfl) (fun _ _ _ h => h) (Or.inr ⟨by kernel_rfl, rfl⟩) (by assumption) ?_
    try simp only [put_pack]
    refine wpAnyH_take (i := 16) (v := undef) rfl (by kernel_rfl) (by kernel_rfl) (by kernel_rfl) (fun _ _ _ h => h) (Or.inr ⟨by kernel_rfl, rfl⟩) (by assumption) ?_
    try simp only [put_pack]
    refine wpAnyH_take (i := 17) (v := ?_) rfl (by kernel_rfl) (by kernel_rfl) (by kernel_rfl) (fun _ _ _ h => h) (Or.inl ⟨by kernel_rfl, ?_⟩) (by assumption) ?_
    rotate_left
    · (intro w hSw; (try dsimp only at hSw); go_simp; try with_reducible rfl)
    try simp only [put_pack]
    refine wpAnyH_take (i := 18) (v := ?_) rfl (by kernel_rfl) (by kernel_rfl) (by kernel_rfl) (fun _ _ _ h => h) (Or.inl ⟨by kernel_rfl, ?_⟩) (by assumption) ?_
    rotate_left
    · (intro w hSw; (try dsimp only at hSw); go_simp; try with_reducible rfl)
    try simp only [put_pack]
    refine wpAnyH_take (i := 19) (v := undef) rfl (by kernel_rfl) (by kernel_rfl) (by kernel_rfl) (fun _ _ _ h => h) (Or.inr ⟨by kernel_rfl, rfl⟩) (by assumption) ?_
    try simp only [put_pack]
    refine wpAnyH_take (i := 20) (v := undef) rfl (by kernel_rfl) (by kernel_rfl) (by kernel_rfl) (fun _ _ _ h => h) (Or.inr ⟨by kernel_rfl, rfl⟩) (by assumption) ?_
    try simp only [put_pack]
    refine wpAnyH_take (i := 21) (v := undef) rfl (by kernel_rfl) (by kernel_rfl) (by kernel_rfl) (fun _ _ _ h => h) (Or.inr ⟨by kernel_rfl, rfl⟩) (by assumption) ?_
    try simp only [put_pack]
    refine wpAnyH_take (i := 22) (v := undef) rfl (by kernel_rfl) (by kernel_rfl) (by kernel_rfl) (fun _ _ _ h => h) (Or.inr ⟨by kernel_rfl, rfl⟩) (by assumption) ?_
    try simp only [put_pack]
    refine wpAnyH_take (i := 23) (v := undef) rfl (by kernel_rfl) (by kernel_rfl) (by kernel_rfl) (fun _ _ _ h => h) (Or.inr ⟨by kernel_rfl, rfl⟩) (by assumption) ?_
    try simp only [put_pack]
    refine wpAnyH_take (i := 24) (v := undef) rfl (by kernel_rfl) (by kernel_rfl) (by kernel_rfl) (fun _ _ _ h => h) (Or.inr ⟨by kernel_rfl, rfl⟩) (by assumption) ?_
    try simp only [put_pack]
    refine wpAnyH_take (i := 25) (v := ?_) rfl (by kernel_rfl) (by kernel_rfl) (by kernel_rfl) (fun _ _ _ h => h) (Or.inl ⟨by kernel_rfl, ?_⟩) (by assumption) ?_
    rotate_left
    · (intro w hSw; (try dsimp only at hSw); go_simp; try with_reducible rfl)
    try simp only [put_pack]
    refine wpAnyH_done (by kernel_rfl) ?_ _
    go_simp
    go_wp2_with fail
    refine (alive25 _).mono ?_
    rintro e w7 ⟨rfl, hx7⟩
    have hf := Lib.hid (hX.trans hx7)
    go_wp2_with fail
    go_ret
    exact ⟨rfl, hf.out⟩
  have d3 : decide (N0 < 1) = false := by simpa using h3
  by_cases h4 : 8 < N0
  · have d4 : decide (8 < N0) = true := by simpa using h4
    refine wp_region_held_drew (S := fun w' => ∀ i, w'.cell? ⟨w.heap.size, i, none⟩ = (#[.int .i64 alg, .int .i64 N0, .int .i64 mode, .int .i64 base, .int .i64 loc, .int .i64 room] : Array Value)[i]?) rfl c_b1 (fun hHeld => ?_)
    refine wpAnyH_take (i := 0) (v := ?_) rfl (by kernel_rfl) (by kernel_rfl) (by kernel_rfl) (fun _ _ _ h => h) (Or.inl ⟨by kernel_rfl, ?_⟩) (by assumption) ?_
    rotate_left
    · (intro w hSw; (try dsimp only at hSw); go_simp; try with_reducible rfl)
    try simp only [put_pack]
    refine wpAnyH_take (i := 1) (v := ?_) rfl (by kernel_rfl) (by kernel_rfl) (by kernel_rfl) (fun _ _ _ h => h) (Or.inl ⟨by kernel_rfl, ?_⟩) (by assumption) ?_
    rotate_left
    · (intro w hSw; (try dsimp only at hSw); go_simp; try with_reducible rfl)
    try simp only [put_pack]
    refine wpAnyH_take (i := 2) (v := ?_) rfl (by kernel_rfl) (by kernel_rfl) (by kernel_rfl) (fun _ _ _ h => h) (Or.inl ⟨by kernel_rfl, ?_⟩) (by assumption) ?_
    rotate_left
    · (intro w hSw; (try dsimp only at hSw); go_simp; try with_reducible rfl)
    try simp only [put_pack]
    refine wpAnyH_take (i := 3) (v := ?_) rfl (by kernel_rfl) (by kernel_rfl) (by kernel_rfl) (fun _ _ _ h => h) (Or.inl ⟨by kernel_rfl, ?_⟩) (by assumption) ?_
    rotate_left
    · (intro w hSw; (try dsimp only at hSw); go_simp; try with_reducible rfl)
    try simp only [put_pack]
    refine wpAnyH_take (i := 4) (v := ?_) rfl (by kernel_rfl) (by kernel_rfl) (by kernel_rfl) (fun _ _ _ h => h) (Or.inl ⟨by kernel_rfl, ?_⟩) (by assumption) ?_
    rotate_left
    · (intro w hSw; (try dsimp only at hSw); go_simp; try with_reducible rfl)
    try simp only [put_pack]
    refine wpAnyH_take (i := 5) (v := ?_) rfl (by kernel_rfl) (by kernel_rfl) (by kernel_rfl) (fun _ _ _ h => h) (Or.inl ⟨by kernel_rfl, ?_⟩) (by assumption) ?_
    rotate_left
    · (intro w hSw; (try dsimp only at hSw); go_simp; try with_reducible rfl)
    try simp only [put_pack]
    refine wpAnyH_take (i := 6) (v := ?_) rfl (by kernel_rfl) (by kernel_rfl) (by kernel_rfl) (fun _ _ _ h => h) (Or.inl ⟨by kernel_rfl, ?_⟩) (by assumption) ?_
    rotate_left
    · (intro w hSw; (try dsimp only at hSw); go_simp; try with_reducible rfl)
    try simp only [put_pack]
    refine wpAnyH_take (i := 7) (v := ?_) rfl (by kernel_rfl) (by kernel_rfl) (by kernel_rfl) (fun _ _ _ h => h) (Or.inl ⟨by kernel_rfl, ?_⟩) (by assumption) ?_
    rotate_left
    · (intro w hSw; (try dsimp only at hSw); go_simp; try with_reducible rfl)
    try simp only [put_pack]
    refine wpAnyH_take (i := 8) (v := ?_) rfl (by kernel_rfl) (by kernel_rfl) (by kernel_rfl) (fun _ _ _ h => h) (Or.inl ⟨by kernel_rfl, ?_⟩) (by assumption) ?_
    rotate_left
    · (intro w hSw; (try dsimp only at hSw); go_simp; try with_reducible rfl)
    try simp only [put_pack]
    refine wpAnyH_take (i := 9) (v := ?_) rfl (by kernel_rfl) (by kernel_rfl) (by kernel_rfl) (fun _ _ _ h => h) (Or.inl ⟨by kernel_rfl, ?_⟩) (by assumption) ?_
    rotate_left
    · (intro w hSw; (try dsimp only at hSw); go_simp; try with_reducible rfl)
    try simp only [put_pack]
    refine wpAnyH_take (i := 10) (v := ?_) rfl (by kernel_rfl) (by kernel_rfl) (by kernel_rfl) (fun _ _ _ h => h) (Or.inl ⟨by kernel_rfl, ?_⟩) (by assumption) ?_
    rotate_left
    · (intro w hSw; (try dsimp only at hSw); go_simp; try with_reducible rfl)
    try simp only [put_pack]
    refine wpAnyH_take (i := 11) (v := ?_) rfl (by kernel_rfl) (by kernel_rfl) (by kernel_rfl) (fun _ _ _ h => h) (Or.inl ⟨by kernel_rfl, ?_⟩) (by assumption) ?_
    rotate_left
    · (intro w hSw; (try dsimp only at hSw); go_simp; try with_reducible rfl)
    try simp only [put_pack]
    refine wpAnyH_take (i := 12) (v := ?_) rfl (by kernel_rfl) (by kernel_rfl) (by kernel_rfl) (fun _ _ _ h => h) (Or.inl ⟨by kernel_rfl, ?_⟩) (by assumption) ?_
    rotate_left
    · (intro w hSw; (try dsimp only at hSw); go_simp; try with_reducible rfl)
    try simp only [put_pack]
    refine wpAnyH_take (i := 13) (v := ?_) rfl (by kernel_rfl) (by kernel_rfl) (by kernel_rfl) (fun _ _ _ h => h) (Or.inl ⟨by kernel_rfl, ?_⟩) (by assumption) ?_
    rotate_left
    · (intro w hSw; (try dsimp only at hSw); go_simp; try with_reducible rfl)
    try simp only [put_pack]
    refine wpAnyH_take (i := 14) (v := ?_) rfl (by kernel_rfl) (by kernel_rfl) (by kernel_rfl) (fun _ _ _ h => h) (Or.inl ⟨by kernel_rfl, ?_⟩) (by assumption) ?_
    rotate_left
    · (intro w hSw; (try dsimp only at hSw); go_simp; try with_reducible rfl)
    try simp only [put_pack]
    refine wpAnyH_take (i := 15) (v := ?_) rfl (by kernel_rfl) (by kernel_rfl) (by kernel_rfl) (fun _ _ _ h => h) (Or.inl ⟨by kernel_rfl, ?_⟩) (by assumption) ?_
    rotate_left
    · (intro w hSw; (try dsimp only at hSw); go_simp; try with_reducible rfl)
    try simp only [put_pack]
    refine wpAnyH_take (i := 16) (v := ?_) rfl (by kernel_rfl) (by kernel_rfl) (by kernel_rfl) (fun _ _ _ h => h) (Or.inl ⟨by kernel_rfl, ?_⟩) (by assumption) ?_
    rotate_left
    · (intro w hSw; (try dsimp only at hSw); go_simp; try with_reducible rfl)
    try simp only [put_pack]
    refine wpAnyH_take (i := 17) (v := ?_) rfl (by kernel_rfl) (by kernel_rfl) (by kernel_rfl) (fun _ _ _ h => h) (Or.inl ⟨by kernel_rfl, ?_⟩) (by assumption) ?_
    rotate_left
    · (intro w hSw; (try dsimp only at hSw); go_simp; try with_reducible rfl)
    try simp only [put_pack]
    refine wpAnyH_take (i := 18) (v := ?_) rfl (by kernel_rfl) (by kernel_rfl) (by kernel_rfl) (fun _ _ _ h => h) (Or.inl ⟨by kernel_rfl, ?_⟩) (by assumption) ?_
    rotate_left
    · (intro w hSw; (try dsimp only at hSw); go_simp; try with_reducible rfl)
    try simp only [put_pack]
    refine wpAnyH_take (i := 19) (v := undef) rfl (by kernel_rfl) (by kernel_rfl) (by kernel_rfl) (fun _ _ _ h => h) (Or.inr ⟨by kernel_rfl, rfl⟩) (by assumption) ?_
    try simp only [put_pack]
    refine wpAnyH_take (i := 20) (v := undef) rfl (by kernel_rfl) (by kernel_rfl) (by kernel_rfl) (fun _ _ _ h => h) (Or.inr ⟨by kernel_rfl, rfl⟩) (by assumption) ?_
    try simp only [put_pack]
    refine wpAnyH_take (i := 21) (v := undef) rfl (by kernel_rfl) (by kernel_rfl) (by kernel_rfl) (fun _ _ _ h => h) (Or.inr ⟨by kernel_rfl, rfl⟩) (by assumption) ?_
    try simp only [put_pack]
    refine wpAnyH_take (i := 22) (v := undef) rfl (by kernel_rfl) (by kernel_rfl) (by kernel_rfl) (fun _ _ _ h => h) (Or.inr ⟨by kernel_rfl, rfl⟩) (by assumption) ?_
    try simp only [put_pack]
    refine wpAnyH_take (i := 23) (v := undef) rfl (by kernel_rfl) (by kernel_rfl) (by kernel_rfl) (fun _ _ _ h => h) (Or.inr ⟨by kernel_rfl, rfl⟩) (by assumption) ?_
    try simp only [put_pack]
    refine wpAnyH_take (i := 24) (v := undef) rfl (by kernel_rfl) (by kernel_rfl) (by kernel_rfl) (fun _ _ _ h => h) (Or.inr ⟨by kernel_rfl, rfl⟩) (by assumption) ?_
    try simp only [put_pack]
    refine wpAnyH_take (i := 25) (v := ?_) rfl (by kernel_rfl) (by kernel_rfl) (by kernel_rfl) (fun _ _ _ h => h) (Or.inl ⟨by kernel_rfl, ?_⟩) (by assumption) ?_
    rotate_left
    · (intro w hSw; (try dsimp only at hSw); go_simp; try with_reducible rfl)
    try simp only [put_pack]
    refine wpAnyH_done (by kernel_rfl) ?_ _
    go_simp
    go_wp2_with fail
    refine (alive25 _).mono ?_
    rintro e w7 ⟨rfl, hx7⟩
    have hf := Lib.hid (hX.trans hx7)
    go_wp2_with fail
    go_ret
    exact ⟨rfl, hf.out⟩
  have d4 : decide (8 < N0) = false := by simpa using h4
  obtain ⟨N, rfl⟩ : ∃ N : Nat, N0 = N := ⟨N0.toNat, by omega⟩
  have n1 : 1 ≤ N := by omega
  have n2 : N ≤ 8 := by omega
  have hMay := fun (va : Value) (w : World) (h : WantsAt w va (bwWants N)) => may_r va (bwWants N) alg N mode base loc room w h (by rw [bwWants_len]; omega)
  clear h3 h4
  generalize w.alloc _ = V0 at *
  have hXV := hX
  clear hX c_b1
  have hX := Ext.refl V0.drew
  have hS : ∀ w', Ext V0.drew w' → (∀ i, w'.cell? ⟨w.heap.size, i, none⟩ = (#[.int .i64 alg, .int .i64 N, .int .i64 mode, .int .i64 base, .int .i64 loc, .int .i64 room] : Array Value)[i]?) := fun w' hx => (b1.ext hx).cells
  cases hl : layM (bwWants N) N mode base loc with
  | none =>
    rw [hl] at hMay
    clear hl
    go_region_held2 (fun w' => ∀ i, w'.cell? ⟨w.heap.size, i, none⟩ = (#[.int .i64 alg, .int .i64 N, .int .i64 mode, .int .i64 base, .int .i64 loc, .int .i64 room] : Array Value)[i]?) (exact hS _ hX)
      (first
        | (go_at_call 54
           refine (bwwants_r N _ n1 n2).mono ?_
           rintro e w2 ⟨v2, rfl, hw2, hx⟩
           replace hX := hX.trans hx
           clear hx)
        | (go_at_call 33
           refine (hMay v2 _ (hw2.ext (Ext.refl _))).mono ?_
           rintro e w3 ⟨rfl, hx⟩
           replace hX := hX.trans hx
           clear hx))
    rename_i hh
    clear hh
    clear hw2
    go_wp2_with fail
    refine (alive25 _).mono ?_
    rintro e w7 ⟨rfl, hx7⟩
    have hf := Lib.hid (hXV.trans (hX.trans hx7))
    go_wp2_with fail
    go_ret
    exact ⟨rfl, hf.out⟩
  | some rs =>
    rw [hl] at hMay
    have hlh := Lib.hid hl
    clear hl
    go_region_held2 (fun w' => ∀ i, w'.cell? ⟨w.heap.size, i, none⟩ = (#[.int .i64 alg, .int .i64 N, .int .i64 mode, .int .i64 base, .int .i64 loc, .int .i64 room] : Array Value)[i]?) (exact hS _ hX)
      (first
        | (go_at_call 54
           refine (bwwants_r N _ n1 n2).mono ?_
           rintro e w2 ⟨v2, rfl, hw2, hx⟩
           replace hX := hX.trans hx
           clear hx)
        | (go_at_call 33
           refine (hMay v2 _ (hw2.ext (Ext.refl _))).mono ?_
           rintro e w3 ⟨rfl, hx⟩
           replace hX := hX.trans hx
           clear hx))
    rename_i hh
    clear hh
    clear hw2
    replace b1 := b1.ext hX
    replace hXV := hXV.trans hX
    clear hX hS hMay
    generalize V0.drew = V at *
    have c_b1 := b1.cells
    obtain ⟨m, hm1, hme⟩ := me_at me N n1 n2
    have hmr := fun w => me_r alg mode base loc room me N w n1 n2
    rw [hme] at hmr
    clear hme
    go_wp2_with fail
    refine (hmr _).mono ?_
    rintro e w3 ⟨rfl, hx⟩
    replace b1 := b1.ext hx
    replace hXV := hXV.trans hx
    clear c_b1 hx hmr
    have g2 := Blk.new w3 (.cells #[.int .i64 m] 3)
    replace b1 := b1.alloc (.cells #[.int .i64 m] 3)
    replace hXV := hXV.alloc (.cells #[.int .i64 m] 3)
    go_wp2_with fail
    generalize hz3 : w3.heap.size = bt at *
    generalize w3.alloc _ = W1 at *
    clear hz3
    refine (tame_r _ La 1048576 _ (hA.ext hXV)).mono ?_
    rintro e wA ⟨va, rfl, hra, hxa⟩
    go_wp2_with fail
    refine (tame_r _ Ll 1 _ (hL.ext (hXV.trans hxa))).mono ?_
    rintro e wB ⟨vl, rfl, hrl, hxl⟩
    have hE := hxa.trans hxl
    have hIa := hra.ints.ext hxl
    have hIl := hrl.ints
    have hba : ∀ k, va.ownBlock = some k → k < wB.heap.size := fun k hk => Nat.lt_of_lt_of_le (hra.lt k hk).2 hxl.size
    have la : (tameL La 1048576).length ≤ 1500 := by unfold tameL; simp; omega
    have ll : (tameL Ll 1).length ≤ 1000 := by unfold tameL; simp; omega
    clear hra hrl hxa hxl hL hA
    have hta0 := tameL_bd La
    generalize tameL La 1048576 = a at *
    generalize tameL Ll 1 = l at *
    obtain ⟨Aq, cq, rfl, _, _⟩ := hIa.slice
    obtain ⟨Al', cl', rfl, _, _⟩ := hIl.slice
    have hleft : (TS0 l a).left < a.length + 1 := by unfold TS.left TS0; simp
    have hok := laid_all hlh.out
    have htold := bw_told (m := m) hlh.out
    have hlc := bw_loc hlh.out
    have hta : TameA (TS0 l a) := hta0
    have hPl := play_err 56 #[.pointer (some ⟨w.heap.size, 0, none⟩), .pointer (some ⟨bt, 0, none⟩)] (bwA (a.length + 1) rs (loc + sumL rs) N m) Al' cl' l Aq cq a wB hIl (by omega) hIa (by unfold maxAns; omega) hba (fun _ _ => rfl) (fun W p hxW hP =>
      bwclA _ p N (a.length + 1) _ alg mode base loc room m rs w.heap.size bt W hP n1 n2 hm1 hlh.out hok htold hlc hta hleft rfl ((b1.ext (hE.trans hxW)).cells) ((g2.ext (hE.trans hxW)).cells 0))
    have hIah := Lib.hid hIa
    have hIlh := Lib.hid hIl
    have hokh := Lib.hid hok
    have htoldh := Lib.hid htold
    clear hIa hIl hok htold
    go_wp2_with fail
    refine hPl.mono ?_
    rintro e w7 ⟨v3, rfl, hO, hx7⟩
    generalize hr : (bwA (a.length + 1) rs (loc + sumL rs) N m).run (TS0 l a) = r at hO ⊢
    clear hPl
    generalize hq : r.1.getD 0 = q
    have hOh := Lib.hid hO
    obtain ⟨A3, c3, A3', c3', As3, k3, n3, rfl⟩ := hO.parts
    clear hO
    go_wp2_with fail
    have g3 := Blk.new w7 (.cells #[.bool r.fst.isSome, .slice A3 r.snd.acc.length c3, .slice A3' r.snd.nts.length c3', .slice As3 n3 k3] 36)
    have x2 := hx7.alloc (.cells #[.bool r.fst.isSome, .slice A3 r.snd.acc.length c3, .slice A3' r.snd.nts.length c3', .slice As3 n3 k3] 36)
    have hOh2 := Lib.hid (hOh.out.ext ((Ext.refl w7).alloc (.cells #[.bool r.fst.isSome, .slice A3 r.snd.acc.length c3, .slice A3' r.snd.nts.length c3', .slice As3 n3 k3] 36)))
    clear hOh hx7
    generalize hz7 : w7.heap.size = b3 at *
    clear hz7
    generalize World.alloc w7 _ = W2 at *
    have hN := new_any Al' cl' l Aq cq a W2 (hIlh.out.ext x2) (hIah.out.ext x2) (by omega) (by unfold maxAns; omega) (fun k hk => Nat.lt_of_lt_of_le (hba k hk) x2.size)
    refine hN.mono ?_
    rintro e w8 ⟨pm, rfl, hR, hx8⟩
    have y2 := g2.ext (hE.trans (x2.trans hx8))
    have y3 := b1.ext (hE.trans (x2.trans hx8))
    have c_y2 := y2.cells
    have c_y3 := y3.cells
    clear hN
    go_wp2_with fail
    refine (bwacq_r W2.heap.size pm N (a.length + 1) false (TS0 l a) alg mode base loc room m rs w8 hR n1 n2 hm1 hlh.out hlc hokh.out htoldh.out hta hleft rfl).mono ?_
    rintro e w9 ⟨u, o', S', rfl, hRef, hR9, hK9⟩
    have hx9 : Ext W2 w9 := Below.trans hx8 hK9.below
    clear y2 y3 c_y2 c_y3
    have hrun := hRef.outcome
    rw [hr] at hrun
    have hsome : r.1.isSome = !o' := by rw [hrun]; cases o' <;> rfl
    have hS2 : r.2 = S' := by rw [hrun]
    have hO9 := hOh2.out.ext hx9
    rw [hsome, hS2] at hO9 g3
    clear hrun hRef hsome hS2 hq hr hR hK9 hx8 hOh2
    replace g3 := g3.ext hx9
    have x3 := x2.trans hx9
    clear x2 hx9
    have hOp := Lib.hid hO9
    have hRp := Lib.hid hR9
    clear hO9 hR9
    have y2 := g2.ext (hE.trans x3)
    have y3 := b1.ext (hE.trans x3)
    have y5 := y3
    have hbb : ∀ k, (Value.slice Aq a.length cq).ownBlock = some k → k < w9.heap.size := fun k hk => Nat.lt_of_lt_of_le (hba k hk) x3.size
    have hXf := hXV.trans (hE.trans x3)
    have hPl := play_int 59 #[.pointer (some ⟨w.heap.size, 0, none⟩), .pointer (some ⟨bt, 0, none⟩)] ((bwR rs (loc + sumL rs) N m).bind fun _ => .ret 0) Al' cl' l Aq cq a w9 (hIlh.out.ext x3) (by omega) (hIah.out.ext x3) (by unfold maxAns; omega) hbb (fun _ _ => rfl) (fun W p hxW hP =>
      bwclR _ p N _ alg mode base loc room m rs w.heap.size bt W hP n1 n2 hm1 hlh.out hokh.out hlc rfl ((y3.ext hxW).cells) ((y2.ext hxW).cells 0))
    clear g2 b1 hE hXV
    have hI2 := Lib.hid (hIah.out.ext x3)
    have hI3 := Lib.hid (hIlh.out.ext x3)
    clear hIah hIlh hba x3
    go_wp2_with fail
    refine hPl.mono ?_
    rintro e wa ⟨v6, rfl, hO, hx7⟩
    generalize hr : ((bwR rs (loc + sumL rs) N m).bind fun _ => Prog.ret (0 : Int)).run (TS0 l a) = r2 at hO ⊢
    clear hPl
    generalize hq : r2.1.getD 0 = qq
    have hOh := Lib.hid hO
    obtain ⟨A6, c6, A6', c6', As6, k6, n6, rfl⟩ := hO.parts
    clear hO
    go_wp2_with fail
    have g6 := Blk.new wa (.cells #[.bool r2.fst.isSome, .slice A6 r2.snd.acc.length c6, .slice A6' r2.snd.nts.length c6', .slice As6 n6 k6] 36)
    have x2 := hx7.alloc (.cells #[.bool r2.fst.isSome, .slice A6 r2.snd.acc.length c6, .slice A6' r2.snd.nts.length c6', .slice As6 n6 k6] 36)
    have hOh2 := Lib.hid (hOh.out.ext ((Ext.refl wa).alloc (.cells #[.bool r2.fst.isSome, .slice A6 r2.snd.acc.length c6, .slice A6' r2.snd.nts.length c6', .slice As6 n6 k6] 36)))
    clear hOh hx7
    generalize hza : wa.heap.size = b6 at *
    clear hza
    generalize World.alloc wa _ = W3 at *
    have hN := new_any Al' cl' l Aq cq a W3 (hI3.out.ext x2) (hI2.out.ext x2) (by omega) (by unfold maxAns; omega) (fun k hk => Nat.lt_of_lt_of_le (hbb k hk) x2.size)
    refine hN.mono ?_
    rintro e wb ⟨pn, rfl, hR, hx8⟩
    replace y2 := y2.ext (x2.trans hx8)
    replace y3 := y3.ext (x2.trans hx8)
    have c_y2 := y2.cells
    have c_y3 := y3.cells
    clear hN
    go_wp2_with fail
    refine (bwrel_r W3.heap.size pn N false (TS0 l a) alg mode base loc room m rs wb hR n1 n2 hm1 hlh.out hlc hokh.out rfl).mono ?_
    rintro e wc ⟨u2, o6, S6, rfl, hRef, hR9, hK9⟩
    have hx9 : Ext W3 wc := Below.trans hx8 hK9.below
    have hrun := (Ref.bind (f := fun _ => Prog.ret (0 : Int)) hRef (Ref.ret (0 : Int) o6 S6)).outcome
    rw [hr] at hrun
    have hsome : r2.1.isSome = !o6 := by rw [hrun]; cases o6 <;> rfl
    have hS2 : r2.2 = S6 := by rw [hrun]
    have hO9 := hOh2.out.ext hx9
    rw [hsome, hS2] at hO9 g6
    have y4 := y5.ext (x2.trans hx9)
    clear y5
    clear hrun hRef hsome hS2 hq hr hR hK9 hx8 hOh2 y2 y3 c_y2 c_y3
    replace g6 := g6.ext hx9
    have x3 := x2.trans hx9
    replace g3 := g3.ext x3
    have hOq := Lib.hid hO9
    have hRq := Lib.hid hR9
    have hRp2 := Lib.hid (hRp.out.ext x3)
    have hOp2 := Lib.hid (hOp.out.ext x3)
    have hXg := Lib.hid (hXf.trans x3)
    clear hO9 hR9 hRp hOp hXf x2 x3 hx9 hI2 hI3 hbb hleft
    go_wp2_with fail
    have hX := (Ext.refl wc).drew
    have hS : ∀ w', Ext wc w' → (∀ i, w'.cell? ⟨w.heap.size, i, none⟩ = (#[.int .i64 alg, .int .i64 N, .int .i64 mode, .int .i64 base, .int .i64 loc, .int .i64 room] : Array Value)[i]?) := fun w' hx => (y4.ext hx).cells
    go_region_held2 (fun w' => ∀ i, w'.cell? ⟨w.heap.size, i, none⟩ = (#[.int .i64 alg, .int .i64 N, .int .i64 mode, .int .i64 base, .int .i64 loc, .int .i64 room] : Array Value)[i]?) (exact hS _ hX)
      (first
        | (go_at_call 62
           refine (bwwants_p N _ n1 n2).mono ?_
           rintro e wx ⟨vp, rfl, hwp, hx⟩
           replace hX := hX.trans hx
           clear hx)
        | (go_at_call 54
           refine (bwwants_r N _ n1 n2).mono ?_
           rintro e wy ⟨vr, rfl, hwr, hxr⟩
           replace hX := hX.trans hxr))
    rename_i hh
    clear hh
    replace hwp := hwp.ext hxr
    clear hS hxr y4
    have hlw : (bwWants N).length ≤ 1000 := by rw [bwWants_len]; omega
    generalize bwWants N = lw at *
    obtain ⟨Ap, cp, rfl, u1, u2, hvp⟩ := hwp
    obtain ⟨Ax, cx, rfl, u3, u4, hvr⟩ := hwr
    replace g3 := g3.ext hX
    replace g6 := g6.ext hX
    replace hOq := Lib.hid (hOq.out.ext hX)
    replace hRq := Lib.hid (hRq.out.ext hX)
    replace hRp2 := Lib.hid (hRp2.out.ext hX)
    replace hOp2 := Lib.hid (hOp2.out.ext hX)
    replace hXg := Lib.hid (hXg.out.trans hX)
    clear hX
    go_wp2_with fail
    go_loopw [20] (fun i wr => ∃ j : Nat, i = .int .i64 j ∧ j ≤ lw.length ∧ Ext wy wr) (fun i _ => lw.length - (intOf i).toNat)
    case atStart => exact ⟨0, rfl, by omega, Ext.refl _⟩
    case round =>
      obtain ⟨j, rfl, hj, hX⟩ := hrel
      by_cases hjl : j < lw.length
      · obtain ⟨q, hq⟩ : ∃ q, lw[j]? = some q := ⟨_, List.getElem?_eq_getElem hjl⟩
        obtain ⟨f1, rfl, hf1, e1, e2⟩ := want_at (hvp.ext hX) hq
        obtain ⟨f2, rfl, hf2, e3, e4⟩ := want_at (hvr.ext hX) hq
        clear hq
        go_wp2_with fail
        go_quiet (fail)
        have hx9 := hX.trans ((Ext.refl wr).drewN nq)
        clear e1 e2 e3 e4 hf1 hf2
        go_wp2_with fail
        refine ⟨⟨j + 1, by go_num, by omega, hx9⟩, ?_⟩
        simp [intOf]; omega
      · obtain rfl : j = lw.length := by omega
        replace g3 := g3.ext hX
        replace g6 := g6.ext hX
        have hOp3 := Lib.hid (hOp2.out.ext hX)
        have hOq3 := Lib.hid (hOq.out.ext hX)
        have hRp3 := Lib.hid (hRp2.out.ext hX)
        have hRq3 := Lib.hid (hRq.out.ext hX)
        have hXh := Lib.hid (hXg.out.trans hX)
        clear hOp2 hOq hRp2 hRq hXg hX hvp hvr
        go_wp2_with fail
        have hE := (Ext.refl wr).drew
        have hS : ∀ w', Ext wr w' → (∀ i, w'.cell? ⟨b3, i, none⟩ = (#[.bool (!o'), .slice A3 S'.acc.length c3, .slice A3' S'.nts.length c3', .slice As3 n3 k3] : Array Value)[i]?) ∧ (∀ i, w'.cell? ⟨b6, i, none⟩ = (#[.bool (!o6), .slice A6 S6.acc.length c6, .slice A6' S6.nts.length c6', .slice As6 n6 k6] : Array Value)[i]?) := fun w' hx => ⟨(g3.ext hx).cells, (g6.ext hx).cells⟩
        go_region_held2 (fun w' => (∀ i, w'.cell? ⟨b3, i, none⟩ = (#[.bool (!o'), .slice A3 S'.acc.length c3, .slice A3' S'.nts.length c3', .slice As3 n3 k3] : Array Value)[i]?) ∧ (∀ i, w'.cell? ⟨b6, i, none⟩ = (#[.bool (!o6), .slice A6 S6.acc.length c6, .slice A6' S6.nts.length c6', .slice As6 n6 k6] : Array Value)[i]?)) (exact hS _ hE)
          (first
            | (go_at_call_of 23 (Value.pointer (some (⟨pm, 0, none⟩ : Addr)))
               refine (dout_r _ pm o' S' _ (hRp3.out.ext hE)).mono ?_
               rintro e wd ⟨v9, rfl, hOx, hxd⟩
               replace hE := hE.trans hxd)
            | (go_at_call_of 23 (Value.pointer (some (⟨pn, 0, none⟩ : Addr)))
               refine (dout_r _ pn o6 S6 _ (hRq3.out.ext hE)).mono ?_
               rintro e we ⟨v10, rfl, hOy, hxe⟩
               replace hE := hE.trans hxe)
            | (go_at_call_of 22 v9
               refine (same_r _ _ (!o') S' _ (hOp3.out.ext hE) hOx).mono ?_
               rintro e wf ⟨rfl, hxf⟩
               replace hE := hE.trans hxf)
            | (go_at_call_of 22 v10
               refine (same_r _ _ (!o6) S6 _ (hOq3.out.ext hE) hOy).mono ?_
               rintro e wf2 ⟨rfl, hxf⟩
               replace hE := hE.trans hxf)
            | (go_at_call 55
               refine (alive25 _).mono ?_
               rintro e wg ⟨rfl, hxg⟩
               replace hE := hE.trans hxg))
        have hf := Lib.hid (hXh.out.trans hE)
        go_wp2_with fail
        go_ret
        exact ⟨rfl, hf.out⟩
end Go.Proofs.YtpcohbpeglledaaGreat
/-
  BlackwhitePlays: the input opened.
-/
namespace Go.Proofs.YtpcohbpeglledaaGreat.blackwhitePlays
open Go.ChangeShapes Go.WideShapes Go.ChangeAt Go.RowKit Kv
set_option maxRecDepth 100000 in
theorem main (H : Type) (enc : TypeId × Value → H) (W : World) (base : Nat) (args : Array Value) (ds : List (DataW H)) (p : List MemPlace)
    (hval : ∀ (j : Nat) t v, Tryz.f7.params[j]? = some t → args[j]? = some v → Value.okWide Tryz.prog W .any base t v)
    (hA : DataW.TrodAll enc Tryz.prog W 0 (fun _ => true) true Tryz.f7.params.toList args.toList ds p) (_hL : laidMetH Tryz.prog Rows.blackwhitePlaysRow.laid W) :
    Calls Tryz.prog 7 args W fun e w' => e = .returned (.bool true) ∧ Ext W w' := by
  rw [Tryz.params7] at hA hval
  obtain ⟨v0, vs0, d0, ds0, p0, q0, hargs, rfl, rfl, h0, r0⟩ := trodAll_cons hA
  obtain ⟨v1, vs1, d1, ds1, p1, q1, rfl, rfl, rfl, h1, r1⟩ := trodAll_cons r0
  obtain ⟨v2, vs2, d2, ds2, p2, q2, rfl, rfl, rfl, h2, r2⟩ := trodAll_cons r1
  obtain ⟨v3, vs3, d3, ds3, p3, q3, rfl, rfl, rfl, h3, r3⟩ := trodAll_cons r2
  obtain ⟨rfl, rfl, rfl⟩ := trodAll_nil r3
  obtain rfl : args = #[v0, v1, v2, v3] := by cases args; simp_all
  obtain ⟨c0, c1, c2, c3, c4, c5, y0, y1, y2, y3, y4, y5, m, rfl, g0, g1, g2, g3, g4, g5⟩ := open_agg6 Tryz.underlying52 (by kernel_rfl) (by kernel_rfl) (hval 0 52 v0 rfl rfl) h0
  obtain ⟨x0, e0, -, -⟩ := DataW.trod_int Tryz.underlying3 g0
  obtain ⟨x1, e1, -, -⟩ := DataW.trod_int Tryz.underlying3 g1
  obtain ⟨x2, e2, -, -⟩ := DataW.trod_int Tryz.underlying3 g2
  obtain ⟨x3, e3, -, -⟩ := DataW.trod_int Tryz.underlying3 g3
  obtain ⟨x4, e4, -, -⟩ := DataW.trod_int Tryz.underlying3 g4
  obtain ⟨x5, e5, -, -⟩ := DataW.trod_int Tryz.underlying3 g5
  obtain ⟨Ll, hL, -⟩ := ints_arg (hval 2 22 v2 rfl rfl) h2
  obtain ⟨La, hLa, -⟩ := ints_arg (hval 3 22 v3 rfl rfl) h3
  obtain ⟨x6, rfl, rfl, rfl, -⟩ := open_int Tryz.underlying3 (hval 1 3 v1 rfl rfl) h1
  simp at e0 e1 e2 e3 e4 e5
  subst e0 e1 e2 e3 e4 e5
  exact bw_walk x0 x1 x2 x3 x4 x5 x6 v2 v3 Ll La W hL hLa
end Go.Proofs.YtpcohbpeglledaaGreat.blackwhitePlays
/-
  BlackwhitePlays holds: whoever acquires or releases a black-white bakery does what the document says, access by access, whatever it is answered.
-/
namespace Go.Proofs.YtpcohbpeglledaaGreat.blackwhitePlays
open Go.ChangeShapes Go.WideShapes Go.ChangeAt Go.RowKit

theorem laidOut : laidOutB Tryz.prog = true := by kernel_rfl
set_option maxRecDepth 100000 in
theorem contract (H : Type) (enc : TypeId × Value → H) (W : World) (base : Nat) (args : Array Value) (ds gs : List (DataW H)) (before : List MemPlace)
    (hval : ∀ (j : Nat) t v, Tryz.f7.params[j]? = some t → args[j]? = some v → Value.okWide Tryz.prog W .any base t v)
    (hW : DataW.Whole enc Tryz.prog Tryz.f7.params.toList Rows.blackwhitePlaysSpec.vars false W args.toList ds gs before) (hL : laidMetH Tryz.prog Rows.blackwhitePlaysRow.laid W) :
    Calls Tryz.prog 7 args W fun e W' => ∃ v, e = .returned v ∧ Rows.blackwhitePlaysSpec.post enc Tryz.prog Tryz.f7 false true false false W args v W' := by
  refine (main H enc W base args ds before hval (by obtain ⟨p, q, hA, hV, hpq, _, _⟩ := hW; obtain ⟨_, rfl⟩ := trodVars_none hV; rw [List.append_nil] at hpq; subst hpq; exact hA) hL).mono fun e W' ⟨he, hg⟩ => ⟨_, he, ?_⟩
  refine law_post (tb := 4) laidOut ?_ (by kernel_rfl) Tryz.underlying4 rfl ?_ hW hg
  · rw [Tryz.params7]
    intro t ht
    simp only [List.mem_cons, List.not_mem_nil, or_false] at ht
    rcases ht with rfl | rfl | rfl | rfl <;> exact ⟨by kernel_rfl, of_decide_eq_true (by kernel_rfl)⟩
  · intro ds hl
    rw [Tryz.params7] at hl
    match ds, hl with
    | [d0, d1, d2, d3], _ => rfl
set_option maxRecDepth 100000 in
theorem laid_met (os : Os) : laidMet Tryz.prog Rows.blackwhitePlaysRow.laid (((World.holding Tryz.prog os ⟨#[], #[], []⟩)).forCall (fun _ _ => 0) ⟨#[], #[.agg #[.int .i64 0, .int .i64 0, .int .i64 0, .int .i64 0, .int .i64 0, .int .i64 0], .int .i64 0, .slice none 0 0, .slice none 0 0], []⟩).memory :=
  laidMet_of_run' 8 (by kernel_rfl) (by kernel_rfl)
set_option maxRecDepth 100000 in
theorem reads (os : Os) {H : Type} (enc : TypeId × Value → H) : ∃ places, DataW.whole enc Tryz.prog (((World.holding Tryz.prog os ⟨#[], #[], []⟩)).forCall (fun _ _ => 0) ⟨#[], #[.agg #[.int .i64 0, .int .i64 0, .int .i64 0, .int .i64 0, .int .i64 0, .int .i64 0], .int .i64 0, .slice none 0 0, .slice none 0 0], []⟩).memory Tryz.f7.params.toList Rows.blackwhitePlaysSpec.vars false (#[.agg #[.int .i64 0, .int .i64 0, .int .i64 0, .int .i64 0, .int .i64 0, .int .i64 0], .int .i64 0, .slice none 0 0, .slice none 0 0] : Array Value).toList 8 = some ([.agg [.lit (.int .i64 0), .lit (.int .i64 0), .lit (.int .i64 0), .lit (.int .i64 0), .lit (.int .i64 0), .lit (.int .i64 0)], .lit (.int .i64 0), .nil, .nil], [], places) :=
  ⟨[], by kernel_rfl⟩
set_option maxRecDepth 100000 in
theorem lifted (os : Os) (started : os.Started) (H : Type) (enc : TypeId × Value → H) (F : Stop.Interp) :
    ReturnsInHanded {} Tryz.checked os 7 .any ((OpenSpec.ofChange Rows.blackwhitePlaysSpec).preRow enc Tryz.prog Tryz.f7 Rows.blackwhitePlaysRow.domain false Rows.blackwhitePlaysRow.laid) (((OpenSpec.ofChange Rows.blackwhitePlaysSpec).at F).post enc Tryz.prog Tryz.f7 false true false false) := by
  obtain ⟨places, hx⟩ := reads os enc
  refine returnsInHanded_of_row (C := Tryz.checked) (s := (OpenSpec.ofChange Rows.blackwhitePlaysSpec)) own started (by kernel_rfl) Tryz.func7
    (witness_row_at (enc := enc) (C := Tryz.checked) false (World.holding Tryz.prog os ⟨#[], #[], []⟩) #[.agg #[.int .i64 0, .int .i64 0, .int .i64 0, .int .i64 0, .int .i64 0, .int .i64 0], .int .i64 0, .slice none 0 0, .slice none 0 0] rfl (by kernel_rfl) (by kernel_rfl) (by kernel_rfl)
      (OpenSpec.preRow_of_cond 8 hx (by kernel_rfl) (fun k hk => by cases hk) (by kernel_rfl) (laid_met os))) ?_
  intro W base args ds gs before hval hW _ _ _ hL _ _
  exact contract H enc W base args ds gs before hval hW hL
theorem said : Rows.BlackwhitePlaysSaid :=
  OpenClaim.holds_of_cond 7 Tryz.f7 rfl rfl rfl rfl rfl rfl rfl ⟨rfl, rfl, rfl, rfl, rfl⟩ rfl rfl rfl rfl rfl (by kernel_rfl) Tryz.func7 (by kernel_rfl)
    (of_decide_eq_true (by kernel_rfl)) (by unfold Func.isWrapper; first | (rw [if_pos (by decide +kernel)]; kernel_rfl) | (rw [if_neg (by decide +kernel)]; exact ⟨rfl, rfl⟩))
    (fun os started H enc _ F => by rw [OpenClaim.pre_eq_preRow]; exact lifted os started H enc F)

end Go.Proofs.YtpcohbpeglledaaGreat.blackwhitePlays
