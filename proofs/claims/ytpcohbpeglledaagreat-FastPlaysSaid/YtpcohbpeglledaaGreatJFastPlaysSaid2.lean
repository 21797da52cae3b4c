/-
  The fast lock, by the document: one try.
-/
import Derived.Test.YtpcohbpeglledaaGreatJFastPlaysSaid1
/-
  The fast lock, by the document: one try.
-/
namespace Kv
/-- One try of the fast lock: is it in? -/
def fastOnce (N : Nat) (l : List Reg) (n me : Int) : Prog Bool :=
  (regW (regAt l (2 + me)) me 1).bind fun _ => (regW (regAt l 0) me (me + 1)).bind fun _ => (regR (regAt l 1) me).bind fun y =>
    if y = 0 then
      (regW (regAt l 1) me (me + 1)).bind fun _ => (regR (regAt l 0) me).bind fun x =>
        if x = me + 1 then .ret true else
          (regW (regAt l (2 + me)) me 0).bind fun _ => (forP (fun j _ => zeroP (regAt l (2 + j)) me N) (ranksFrom (-1) n.toNat 0) ()).bind fun _ =>
            (regR (regAt l 1) me).bind fun y => if y = me + 1 then .ret true else (zeroP (regAt l 1) me N).bind fun _ => .ret false
    else (regW (regAt l (2 + me)) me 0).bind fun _ => (zeroP (regAt l 1) me N).bind fun _ => .ret false
theorem fastTry_succ (N : Nat) (l : List Reg) (n me : Int) (k : Nat) : fastTry N l n me (k + 1) = (fastOnce N l n me).bind fun b => if b = true then .ret () else fastTry N l n me k := by
  simp only [fastTry, fastOnce, Prog.bind_assoc]
  congr 1; funext _; congr 1; funext _; congr 1; funext y
  by_cases hy : y = 0
  · simp only [if_pos hy, Prog.bind_assoc]
    congr 1; funext _; congr 1; funext x
    by_cases hx : x = me + 1
    · simp only [if_pos hx]; rfl
    · simp only [if_neg hx, Prog.bind_assoc]
      congr 1; funext _; congr 1; funext _; congr 1; funext z
      by_cases hz : z = me + 1
      · simp only [if_pos hz]; rfl
      · simp only [if_neg hz, Prog.bind_assoc]; rfl
  · simp only [if_neg hy, Prog.bind_assoc]; rfl
end Kv
namespace Go.Proofs.YtpcohbpeglledaaGreat
open Go.RowKit Kv
set_option maxRecDepth 100000 in
set_option maxHeartbeats 2000000 in
theorem fasttry_r (B p N D : Nat) (o : Bool) (S : TS) (alg mode base loc room : Int) (m b c : Nat) (rs : List Reg) (w : World) (h : RAt B w p o S) (hreg : RegsAt [3, 4, 5] w p b rs) (h1 : 1 ≤ N) (h2 : N ≤ 8) (hm1 : m < N) (hlen : rs.length = N + 2)
    (hok : ∀ r ∈ rs, r.ok ∧ r.n = N) (htold : ∀ (i : Nat) r, rs[i]? = some r → i ≠ 2 + m → r.told m) (hD : S.left < D)
    (Z : TS → Prop) (hzw : ∀ rm, rs[2 + m]? = some rm → ∀ S S', (regW rm m 0).run S = (some (), S') → Z S')
    (hzk : ∀ (j : Nat) r, rs[j]? = some r → ∀ S S', (zeroP r m D).run S = (some (), S') → Z S → Z S')
    (hzz : ∀ rm, rs[2 + m]? = some rm → ∀ S, Z S → rm.told m ∨ (regR rm m).run S = (some 0, S)) :
    Calls Tryz.prog 118 #[.pointer (some ⟨p, 0, none⟩), .agg #[.int .i64 alg, .int .i64 N, .int .i64 mode, .int .i64 base, .int .i64 loc, .int .i64 room], .slice (some ⟨b, 0, none⟩) rs.length c, .int .i64 m] w (RPost encB B p w (fastOnce D rs N m) o S) := by
  generalize hR : RPost encB B p w (fastOnce D rs N m) o S = R
  have hO : ROwes R encB B p w (fastOnce D rs N m) o S := hR ▸ rowes _ _ _ _ _ _ _
  clear hR
  have hK := Keep.refl [3, 4, 5] B p w
  have hP := h
  have b1 := hP.held (.cells #[.int .i64 alg, .int .i64 N, .int .i64 mode, .int .i64 base, .int .i64 loc, .int .i64 room] 52)
  replace hK := hK.trans (Keep.alloc (.cells #[.int .i64 alg, .int .i64 N, .int .i64 mode, .int .i64 base, .int .i64 loc, .int .i64 room] 52) hP.lt hP.le)
  replace hP := hP.alloc (.cells #[.int .i64 alg, .int .i64 N, .int .i64 mode, .int .i64 base, .int .i64 loc, .int .i64 room] 52)
  have c_b1 := b1.cells
  clear h
  replace hreg := hreg.keep hK
  obtain ⟨r0, hr0⟩ : ∃ r, rs[0]? = some r := ⟨_, List.getElem?_eq_getElem (by omega)⟩
  obtain ⟨r1, hr1⟩ : ∃ r, rs[1]? = some r := ⟨_, List.getElem?_eq_getElem (by omega)⟩
  obtain ⟨rm, hrm⟩ : ∃ r, rs[2 + m]? = some r := ⟨_, List.getElem?_eq_getElem (by omega)⟩
  have hok0 := (hok _ (List.mem_of_getElem? hr0)).1
  have hm0' : (m : Int) < r0.n := by rw [(hok _ (List.mem_of_getElem? hr0)).2]; omega
  have ht0 := htold 0 r0 hr0 (by omega)
  have hok1 := (hok _ (List.mem_of_getElem? hr1)).1
  have hm1' : (m : Int) < r1.n := by rw [(hok _ (List.mem_of_getElem? hr1)).2]; omega
  have ht1 := htold 1 r1 hr1 (by omega)
  have hokm := (hok _ (List.mem_of_getElem? hrm)).1
  have hmm : (m : Int) < rm.n := by rw [(hok _ (List.mem_of_getElem? hrm)).2]; omega
  unfold fastOnce at hO
  rw [regAt_of (show (0 : Int) = ((0 : Nat) : Int) from rfl) hr0, regAt_of (show (1 : Int) = ((1 : Nat) : Int) from rfl) hr1, regAt_of (show (2 : Int) + (m : Int) = ((2 + m : Nat) : Int) from by omega) hrm] at hO
  have hw1 := IntWalk.i64_in ((2 : Int) + (m : Int)) (by omega)
  have hw2 := IntWalk.i64_in ((m : Int) + 1) (by omega)
  have hi2 : (2 : Int) + (m : Int) < (rs.length : Int) := by omega
  have hi0 : 0 ≤ (2 : Int) + (m : Int) := by omega
  have hi1 : ((2 : Int) + (m : Int)).toNat = 2 + m := by omega
  have hj0 : (0 : Nat) < rs.length := by omega
  have hj1 : (0 : Int) < (rs.length : Int) := by omega
  have hj2 : (1 : Nat) < rs.length := by omega
  have hj3 : (1 : Int) < (rs.length : Int) := by omega
  have hrh := Lib.hid (And.intro hr0 (And.intro hr1 hrm))
  have hokh := Lib.hid hok
  have htoldh := Lib.hid htold
  have hlenh := Lib.hid hlen
  have hzwh := Lib.hid (hzw rm hrm)
  have hzkh := Lib.hid hzk
  have hzzh := Lib.hid (hzz rm hrm)
  clear hzw hzk hzz hlen hr0 hr1 hrm hok htold
  go_enter Tryz.func118, Tryz.ntmps118
  obtain ⟨a0, a1, a2, a3, a4, a5, a6⟩ := hreg.nth hrh.out.2.2
  go_wp2_with fail
  clear a0 a1 a2 a3 a4 a5 a6 c_b1
  generalize hzz : w.heap.size = z at *
  clear hzz
  refine rstepL hO hK (fset_r B p o S rm m 1 _ hP hokm ⟨by omega, hmm⟩) ?_
  clear hO hK hP
  intro u o1 S1 w1 hlf _ hP hk hK hO
  replace hD := Nat.lt_of_le_of_lt hlf hD
  replace hreg := hreg.keep hk
  replace b1 := b1.keep hk
  clear hk hlf
  obtain ⟨a0, a1, a2, a3, a4, a5, a6⟩ := hreg.nth hrh.out.1
  go_wp2_with fail
  clear a0 a1 a2 a3 a4 a5 a6
  refine rstepL hO hK (fset_r B p o1 S1 r0 m _ _ hP hok0 ⟨by omega, hm0'⟩) ?_
  clear hO hK hP
  intro u o2 S2 w2 hlf _ hP hk hK hO
  replace hD := Nat.lt_of_le_of_lt hlf hD
  replace hreg := hreg.keep hk
  replace b1 := b1.keep hk
  clear hk hlf
  obtain ⟨_, _, _, _, _, hcc⟩ := hP.cell
  obtain ⟨a0, a1, a2, a3, a4, a5, a6⟩ := hreg.nth hrh.out.2.1
  cases o2 with
  | true =>
    have hf : R (.returned (encB false)) w2 := hO.over false hP hK
    clear hO hP hK a0 a1 a2 a3 a4 a5 a6
    go_wp2_with fail
    first | exact hf | (go_ret; exact hf)
  | false =>
    have hOh := Lib.hid hO
    clear hO
    go_wp2_with fail
    replace hO := hOh.out
    clear a0 a1 a2 a3 a4 a5 a6 hcc hOh
    refine rstepL hO hK (reg_read_r B p false S2 r1 m _ hP hok1 ⟨by omega, hm1'⟩) ?_
    clear hO hK hP
    intro y o3 S3 w3 hlf _ hP hk hK hO
    replace hD := Nat.lt_of_le_of_lt hlf hD
    replace hreg := hreg.keep hk
    replace b1 := b1.keep hk
    clear hk hlf
    by_cases hy : y = 0
    · have dy : (y != 0) = false := by simpa using hy
      rw [if_pos hy] at hO
      clear hy
      have hOh := Lib.hid hO
      clear hO
      obtain ⟨a0, a1, a2, a3, a4, a5, a6⟩ := hreg.nth hrh.out.2.1
      go_wp2_with fail
      replace hO := hOh.out
      clear a0 a1 a2 a3 a4 a5 a6 hOh
      refine rstepL hO hK (fset_r B p o3 S3 r1 m _ _ hP hok1 ⟨by omega, hm1'⟩) ?_
      clear hO hK hP
      intro u o4 S4 w4 hlf _ hP hk hK hO
      replace hD := Nat.lt_of_le_of_lt hlf hD
      replace hreg := hreg.keep hk
      replace b1 := b1.keep hk
      clear hk hlf
      obtain ⟨_, _, _, _, _, hcc⟩ := hP.cell
      obtain ⟨a0, a1, a2, a3, a4, a5, a6⟩ := hreg.nth hrh.out.1
      cases o4 with
      | true =>
        have hf : R (.returned (encB false)) w4 := hO.over false hP hK
        clear hO hP hK a0 a1 a2 a3 a4 a5 a6
        go_wp2_with fail
        first | exact hf | (go_ret; exact hf)
      | false =>
        have hOh := Lib.hid hO
        clear hO
        go_wp2_with fail
        replace hO := hOh.out
        clear a0 a1 a2 a3 a4 a5 a6 hcc hOh
        refine rstepL hO hK (reg_read_r B p false S4 r0 m _ hP hok0 ⟨by omega, hm0'⟩) ?_
        clear hO hK hP
        intro x o5 S5 w5 hlf _ hP hk hK hO
        replace hD := Nat.lt_of_le_of_lt hlf hD
        replace hreg := hreg.keep hk
        replace b1 := b1.keep hk
        clear hk hlf
        by_cases hx : x = (m : Int) + 1
        · have dx : (x == (m : Int) + 1) = true := by simpa using hx
          rw [if_pos hx] at hO
          clear hx
          obtain ⟨_, _, _, _, _, hcc⟩ := hP.cell
          cases o5 with
          | true =>
            have hf : R (.returned (encB false)) w5 := hO.over false hP hK
            clear hO hP hK
            go_wp2_with fail
            first | exact hf | (go_ret; exact hf)
          | false =>
            have hf : R (.returned (encB true)) w5 := hO.ret hP hK
            clear hO hP hK
            go_wp2_with fail
            first | exact hf | (go_ret; exact hf)
        · have dx : (x == (m : Int) + 1) = false := by simpa using hx
          rw [if_neg hx] at hO
          clear hx
          have hOh := Lib.hid hO
          clear hO
          obtain ⟨a0, a1, a2, a3, a4, a5, a6⟩ := hreg.nth hrh.out.2.2
          go_wp2_with fail
          replace hO := hOh.out
          clear a0 a1 a2 a3 a4 a5 a6 hOh
          refine (fset_r B p o5 S5 rm m 0 _ hP hokm ⟨by omega, hmm⟩).mono ?_
          rintro e w6 ⟨u, o6, S6, rfl, hRef, hP6, hk⟩
          replace hO := hO.then hRef
          replace hK := hK.trans hk
          replace hD := Nat.lt_of_le_of_lt (ref_lefts hRef) hD
          have hz : o6 = false → Z S6 := by
            rintro rfl
            cases hRef with
            | done h => exact hzwh.out _ _ h
          replace hreg := hreg.keep hk
          replace b1 := b1.keep hk
          replace hP := hP6
          clear hk hRef hP6
          have hzh := Lib.hid hz
          have hOh := Lib.hid hO
          clear hz hO
          rw [show (N : Int).toNat = N from by omega] at hOh
          go_wp2_with fail
          go_loopw [9] (fun i wr => ∃ (k : Nat) (o7 : Bool) (S7 : TS), i = .int .i64 k ∧ k ≤ N ∧ RAt B wr p o7 S7 ∧ KeepR B p w wr ∧ HeldR wr p z (.cells #[.int .i64 alg, .int .i64 N, .int .i64 mode, .int .i64 base, .int .i64 loc, .int .i64 room] 52) ∧ RegsAt [3, 4, 5] wr p b rs ∧ S7.left < D ∧ Hid (o7 = false → Z S7) ∧ Hid (ROwes R encB B p w ((forP (fun j _ => zeroP (regAt rs (2 + j)) m D) (ranksFrom (-1) (N - k) k) ()).bind fun _ => (regR r1 m).bind fun y => if y = (m : Int) + 1 then Prog.ret true else (zeroP r1 m D).bind fun _ => Prog.ret false) o7 S7)) (fun i _ => N - (intOf i).toNat)
          case atStart => exact ⟨0, o6, S6, rfl, by omega, hP, hK, b1, hreg, hD, hzh, hOh⟩
          case round =>
            clear hP hK hreg b1 hD hzh hOh
            obtain ⟨k, o7, S7, rfl, hk, hP, hK, b1, hreg, hD, hzh, hOh⟩ := hrel
            have c_b1 := b1.cells
            by_cases hlt : k < N
            · have dlt : decide ((k : Int) < (N : Int)) = true := by rw [decide_eq_true_eq]; omega
              obtain ⟨g, hg⟩ : ∃ g, N - k = g + 1 := ⟨N - k - 1, by omega⟩
              obtain ⟨rk, hrk⟩ : ∃ r, rs[2 + k]? = some r := ⟨_, List.getElem?_eq_getElem (by have := hlenh.out; omega)⟩
              replace hO := hOh.out
              rw [hg, ranks_cons _ _ _ (by omega), forP_consB, regAt_of (show (2 : Int) + (k : Int) = ((2 + k : Nat) : Int) from by omega) hrk, show g = N - (k + 1) from by omega] at hO
              have hokk := (hokh.out _ (List.mem_of_getElem? hrk)).1
              have hmk : (m : Int) < rk.n := by rw [(hokh.out _ (List.mem_of_getElem? hrk)).2]; omega
              have hcall : ∀ W, RAt B W p o7 S7 → Calls Tryz.prog 175 #[.pointer (some ⟨p, 0, none⟩), encR rk, .int .i64 m] W (RPost encU B p W (zeroP rk m D) o7 S7) := fun W hW => by
                by_cases hkm : k = m
                · subst hkm
                  obtain rfl : rm = rk := Option.some.inj (hrh.out.2.2.symm.trans hrk)
                  rcases (show rm.told k ∨ (o7 = false → (regR rm k).run S7 = (some 0, S7)) from by
                    cases o7 with
                    | true => exact .inr nofun
                    | false => exact (hzzh.out _ (hzh.out rfl)).imp id fun h _ => h) with ht | hz
                  · exact fzero_r B p D o7 S7 rm k W hW hokk (by omega) hmk ht (fun _ => hD)
                  · obtain ⟨E, rfl⟩ : ∃ E, D = E + 1 := ⟨D - 1, by omega⟩
                    exact fzero_z B p E o7 S7 rm k W hW hokk (by omega) hmk hz
                · exact fzero_r B p D o7 S7 rk m W hW hokk (by omega) hmk (htoldh.out _ _ hrk (by omega)) (fun _ => hD)
              have hch := Lib.hid hcall
              have hrkh := Lib.hid hrk
              have hw3 := IntWalk.i64_in ((2 : Int) + (k : Int)) (by omega)
              have hk2 : (2 : Int) + (k : Int) < (rs.length : Int) := by have := hlenh.out; omega
              have hk0 : 0 ≤ (2 : Int) + (k : Int) := by omega
              have hk1 : ((2 : Int) + (k : Int)).toNat = 2 + k := by omega
              have hkl : 2 + k < rs.length := by have := hlenh.out; omega
              obtain ⟨a0, a1, a2, a3, a4, a5, a6⟩ := hreg.nth hrk
              have hOk := Lib.hid hO
              clear hO hOh hcall hrk hg
              go_wp2_with fail
              replace hO := hOk.out
              clear a0 a1 a2 a3 a4 a5 a6 hOk c_b1
              refine (hch.out _ hP).mono ?_
              rintro e w8 ⟨u, o8, S8, rfl, hRef, hP8, hkk⟩
              replace hO := hO.then hRef
              replace hK := hK.trans hkk
              replace hD := Nat.lt_of_le_of_lt (ref_lefts hRef) hD
              have hz8 : o8 = false → Z S8 := by
                rintro rfl
                cases hRef with
                | done h => exact hzkh.out _ _ hrkh.out _ _ h (hzh.out rfl)
              replace hreg := hreg.keep hkk
              replace b1 := b1.keep hkk
              replace hP := hP8
              clear hkk hRef hP8 hzh hch
              have hzh := Lib.hid hz8
              have hOh := Lib.hid hO
              clear hz8 hO
              go_wp2_with fail
              refine ⟨⟨k + 1, o8, S8, by go_num, by omega, hP, hK, b1, hreg, hD, hzh, hOh⟩, ?_⟩
              simp [intOf]; omega
            · obtain rfl : k = N := by omega
              have dlt : decide ((k : Int) < (k : Int)) = false := by rw [decide_eq_false_iff_not]; omega
              replace hO := hOh.out
              rw [Nat.sub_self, ranks_zero, forP_nilB] at hO
              clear hOh hzh hlt
              obtain ⟨_, _, _, _, _, hcc⟩ := hP.cell
              obtain ⟨a0, a1, a2, a3, a4, a5, a6⟩ := hreg.nth hrh.out.2.1
              cases o7 with
              | true =>
                have hf : R (.returned (encB false)) wr := hO.over false hP hK
                clear hO hP hK a0 a1 a2 a3 a4 a5 a6
                go_wp2_with fail
                first | exact hf | (go_ret; exact hf)
              | false =>
                have hOk := Lib.hid hO
                clear hO
                go_wp2_with fail
                replace hO := hOk.out
                clear a0 a1 a2 a3 a4 a5 a6 hcc hOk c_b1
                refine rstepL hO hK (reg_read_r B p false S7 r1 m _ hP hok1 ⟨by omega, hm1'⟩) ?_
                clear hO hK hP
                intro y o8 S8 w8 hlf _ hP hk hK hO
                replace hD := Nat.lt_of_le_of_lt hlf hD
                replace hreg := hreg.keep hk
                clear hk hlf b1
                by_cases hx : y = (m : Int) + 1
                · have dx : (y == (m : Int) + 1) = true := by simpa using hx
                  rw [if_pos hx] at hO
                  clear hx
                  obtain ⟨_, _, _, _, _, hcc⟩ := hP.cell
                  cases o8 with
                  | true =>
                    have hf : R (.returned (encB false)) w8 := hO.over false hP hK
                    clear hO hP hK
                    go_wp2_with fail
                    first | exact hf | (go_ret; exact hf)
                  | false =>
                    have hf : R (.returned (encB true)) w8 := hO.ret hP hK
                    clear hO hP hK
                    go_wp2_with fail
                    first | exact hf | (go_ret; exact hf)
                · have dx : (y == (m : Int) + 1) = false := by simpa using hx
                  rw [if_neg hx] at hO
                  clear hx
                  have hOk := Lib.hid hO
                  clear hO
                  obtain ⟨a0, a1, a2, a3, a4, a5, a6⟩ := hreg.nth hrh.out.2.1
                  go_wp2_with fail
                  replace hO := hOk.out
                  clear a0 a1 a2 a3 a4 a5 a6 hOk hreg
                  refine rstepL hO hK (fzero_r B p D o8 S8 r1 m _ hP hok1 (by omega) hm1' ht1 (fun _ => hD)) ?_
                  clear hO hK hP
                  intro u o9 S9 w9 _ _ hP _ hK hO
                  have hf : R (.returned (encB false)) w9 := hO.ret hP hK
                  clear hO hP hK
                  go_wp2_with fail
                  first | exact hf | (go_ret; exact hf)
    · have dy : (y != 0) = true := by simpa using hy
      rw [if_neg hy] at hO
      clear hy
      have hOh := Lib.hid hO
      clear hO
      obtain ⟨a0, a1, a2, a3, a4, a5, a6⟩ := hreg.nth hrh.out.2.2
      go_wp2_with fail
      replace hO := hOh.out
      clear a0 a1 a2 a3 a4 a5 a6 hOh
      refine rstepL hO hK (fset_r B p o3 S3 rm m 0 _ hP hokm ⟨by omega, hmm⟩) ?_
      clear hO hK hP
      intro u o4 S4 w4 hlf _ hP hk hK hO
      replace hD := Nat.lt_of_le_of_lt hlf hD
      replace hreg := hreg.keep hk
      clear hk hlf b1
      obtain ⟨a0, a1, a2, a3, a4, a5, a6⟩ := hreg.nth hrh.out.2.1
      go_wp2_with fail
      clear a0 a1 a2 a3 a4 a5 a6 hreg
      refine rstepL hO hK (fzero_r B p D o4 S4 r1 m _ hP hok1 (by omega) hm1' ht1 (fun _ => hD)) ?_
      clear hO hK hP
      intro u o5 S5 w5 _ _ hP _ hK hO
      have hf : R (.returned (encB false)) w5 := hO.ret hP hK
      clear hO hP hK
      go_wp2_with fail
      first | exact hf | (go_ret; exact hf)
end Go.Proofs.YtpcohbpeglledaaGreat
/-
  The fast lock, by the document: acquiring.
-/
namespace Kv
theorem asks_fastOnce (N : Nat) (l : List Reg) (n me : Int) (h : (regAt l 1).told me) : (fastOnce N l n me).Asks :=
  Prog.Asks.then (fun _ => Prog.Asks.then (fun _ => (asks_regR _ _ h).bind _) _) _
theorem notes_fastOnce (N : Nat) (l : List Reg) (n me : Int) : (fastOnce N l n me).Notes 0 := by
  unfold fastOnce
  refine (notes_regW _ _ _).bind0 fun _ => (notes_regW _ _ _).bind0 fun _ => (notes_regR _ _).bind0 fun y => ?_
  by_cases hy : y = 0
  · rw [if_pos hy]
    refine (notes_regW _ _ _).bind0 fun _ => (notes_regR _ _).bind0 fun x => ?_
    by_cases hx : x = me + 1
    · rw [if_pos hx]; exact .ret _ _
    · rw [if_neg hx]
      refine (notes_regW _ _ _).bind0 fun _ => (notes_forP (fun _ _ => notes_zeroP _ _ _) _ _).bind0 fun _ => (notes_regR _ _).bind0 fun z => ?_
      by_cases hz : z = me + 1
      · rw [if_pos hz]; exact .ret _ _
      · rw [if_neg hz]; exact (notes_zeroP _ _ _).bind0 fun _ => .ret _ _
  · rw [if_neg hy]
    exact (notes_regW _ _ _).bind0 fun _ => (notes_zeroP _ _ _).bind0 fun _ => .ret _ _
end Kv
namespace Go.Proofs.YtpcohbpeglledaaGreat
open Go.RowKit Kv
set_option maxRecDepth 100000 in
set_option maxHeartbeats 2000000 in
theorem fastacq_r (B p N D : Nat) (o : Bool) (S : TS) (alg mode base loc room : Int) (m : Nat) (rs : List Reg) (w : World) (h : RAt B w p o S) (h1 : 1 ≤ N) (h2 : N ≤ 8) (hm1 : m < N) (hl : layM (fastWants N) N mode base loc = some rs)
    (hok : ∀ r ∈ rs, r.ok ∧ r.n = N) (htold : ∀ (i : Nat) r, rs[i]? = some r → i ≠ 2 + m → r.told m) (hD : S.left < D) (hn0 : S.nts.length = 0)
    (Z : TS → Prop) (hzw : ∀ rm, rs[2 + m]? = some rm → ∀ S S', (regW rm m 0).run S = (some (), S') → Z S')
    (hzk : ∀ (j : Nat) r, rs[j]? = some r → ∀ S S', (zeroP r m D).run S = (some (), S') → Z S → Z S')
    (hzz : ∀ rm, rs[2 + m]? = some rm → ∀ S, Z S → rm.told m ∨ (regR rm m).run S = (some 0, S)) :
    Calls Tryz.prog 49 #[.pointer (some ⟨p, 0, none⟩), .agg #[.int .i64 alg, .int .i64 N, .int .i64 mode, .int .i64 base, .int .i64 loc, .int .i64 room], .int .i64 m] w (RPost encI B p w (fastA D rs N m) o S) := by
  have hlen := layM_len hl
  rw [fastWants_len] at hlen
  have htold1 : (regAt rs 1).told m := by
    obtain ⟨r1, hr1⟩ : ∃ r, rs[1]? = some r := ⟨_, List.getElem?_eq_getElem (by omega)⟩
    rw [regAt_of (show (1 : Int) = ((1 : Nat) : Int) from rfl) hr1]
    exact htold 1 r1 hr1 (by omega)
  have hasks := asks_fastOnce D rs N m htold1
  clear htold1
  generalize hR : RPost encI B p w (fastA D rs N m) o S = R
  have hO : ROwes R encI B p w (fastA D rs N m) o S := hR ▸ rowes _ _ _ _ _ _ _
  clear hR
  have hK := Keep.refl [3, 4, 5] B p w
  have hP := h
  have b1 := hP.held (.cells #[.int .i64 alg, .int .i64 N, .int .i64 mode, .int .i64 base, .int .i64 loc, .int .i64 room] 52)
  replace hK := hK.trans (Keep.alloc (.cells #[.int .i64 alg, .int .i64 N, .int .i64 mode, .int .i64 base, .int .i64 loc, .int .i64 room] 52) hP.lt hP.le)
  replace hP := hP.alloc (.cells #[.int .i64 alg, .int .i64 N, .int .i64 mode, .int .i64 base, .int .i64 loc, .int .i64 room] 52)
  have c_b1 := b1.cells
  clear h
  unfold fastA at hO
  have htryh := Lib.hid (fun o S b c W (hP : RAt B W p o S) (hreg : RegsAt [3, 4, 5] W p b rs) (hD : S.left < D) => fasttry_r B p N D o S alg mode base loc room m b c rs W hP hreg h1 h2 hm1 hlen hok htold hD Z hzw hzk hzz)
  have hah := Lib.hid hasks
  clear hzw hzk hzz hok htold hasks
  go_enter Tryz.func49, Tryz.ntmps49
  go_wp2_with fail
  refine (fastregs_r alg mode base loc room N rs _ h1 h2 hl).mono ?_
  rintro e w1 ⟨b, c, rfl, hge, hb, hcells, q1, q2, hx⟩
  have hreg : RegsAt [3, 4, 5] w1 p b rs := ⟨hb, hP.fresh hx hge, hcells⟩
  replace hK := hK.trans (Keep.of_ext hx hP.lt hP.le)
  replace b1 := b1.ext hx hP.lt
  replace hP := hP.ext hx
  clear hx hcells hge hb c_b1 hlen hl
  generalize w.heap.size = z at *
  go_wp2_with fail
  refine rstepN (notes_nt 1) hO hK (note_r B p o S 1 _ hP (by unfold maxAns; omega)) ?_
  clear hO hK hP
  intro u o1 S1 w2 hlf _ hnn hP hk hK hO
  replace hD := Nat.lt_of_le_of_lt hlf hD
  replace hn0 : S1.nts.length ≤ 1 := by omega
  replace hreg := hreg.keep hk
  replace b1 := b1.keep hk
  clear hk hlf hnn
  have hOh := Lib.hid hO
  clear hO
  go_wp2_with fail
  go_loopw [8] (fun i wr => ∃ (bb : Bool) (k : Nat) (o2 : Bool) (S2 : TS), i = .bool bb ∧ RAt B wr p o2 S2 ∧ KeepR B p w wr ∧ HeldR wr p z (.cells #[.int .i64 alg, .int .i64 N, .int .i64 mode, .int .i64 base, .int .i64 loc, .int .i64 room] 52) ∧ RegsAt [3, 4, 5] wr p b rs ∧ S2.left < D ∧ S2.nts.length ≤ 1 ∧ (bb = false → o2 = false → S2.left < k) ∧ Hid (ROwes R encI B p w ((if bb = true then Prog.ret () else fastTry D rs N m k).bind fun _ => (nt 3).bind fun _ => .ret 0) o2 S2)) (fun i wr => leftR wr p + match i with | .bool true => 0 | _ => 1)
  case atStart => exact ⟨false, D, o1, S1, rfl, hP, hK, b1, hreg, hD, hn0, fun _ _ => hD, hOh⟩
  case round =>
    clear hP hK hreg b1 hD hn0 hOh
    obtain ⟨bb, k, o2, S2, rfl, hP, hK, b1, hreg, hD, hn0, hkk, hO⟩ := hrel
    replace hO := hO.out
    have hlw := Lib.hid hP.leftR
    obtain ⟨_, _, _, _, _, hcc⟩ := hP.cell
    have c_b1 := b1.cells
    by_cases hin : bb = false ∧ o2 = false
    · obtain ⟨rfl, rfl⟩ := hin
      have hk := hkk rfl rfl
      clear hkk
      cases k with
      | zero => omega
      | succ k =>
        rw [if_neg (by simp), fastTry_succ, Prog.bind_assoc] at hO
        have hOh := Lib.hid hO
        clear hO
        go_wp2_with fail
        replace hO := hOh.out
        clear hcc c_b1 hOh
        refine rstepN (notes_fastOnce _ _ _ _) hO hK (htryh.out _ _ _ _ _ hP hreg hD) ?_
        clear hO hK hP
        intro bb o3 S3 w3 hlf hlt hnn hP hk1 hK hO
        have hlw2 := Lib.hid hP.leftR
        replace hD := Nat.lt_of_le_of_lt hlf hD
        replace hn0 : S3.nts.length ≤ 1 := by omega
        replace hreg := hreg.keep hk1
        replace b1 := b1.keep hk1
        have hOh := Lib.hid hO
        clear hO hk1
        go_wp2_with fail
        refine ⟨⟨bb, k, o3, S3, rfl, hP, hK, b1, hreg, hD, hn0, fun _ ho => ?_, hOh⟩, ?_⟩
        · have := (hlt ho).2 hah.out
          omega
        · rw [hlw.out, hlw2.out]
          cases o3 with
          | true => cases bb <;> simp <;> omega
          | false =>
            have := (hlt rfl).2 hah.out
            cases bb <;> simp <;> omega
    · replace hO : ROwes R encI B p w ((nt 3).bind fun _ => .ret 0) o2 S2 := by
        cases bb with
        | true => exact hO
        | false =>
          cases o2 with
          | true => exact hO.any _
          | false => exact absurd ⟨rfl, rfl⟩ hin
      have hOh := Lib.hid hO
      clear hO
      have dno : ((!bb) && (!o2)) = false := by cases bb <;> cases o2 <;> simp_all
      cases bb with
      | true =>
        go_wp2_with fail
        replace hO := hOh.out
        clear hcc c_b1
        refine rstepN (notes_nt 3) hO hK (note_r B p o2 S2 3 _ hP (by unfold maxAns; omega)) ?_
        clear hO hK hP
        intro u o3 S3 w3 _ _ _ hP _ hK hO
        have hf : R (.returned (encI 0)) w3 := hO.ret hP hK
        clear hO hP hK hOh
        go_wp2_with fail
        first | exact hf | (go_ret; exact hf)
      | false =>
        cases o2 with
        | false => exact absurd ⟨rfl, rfl⟩ hin
        | true =>
          go_wp2_with fail
          replace hO := hOh.out
          clear hcc c_b1
          refine rstepN (notes_nt 3) hO hK (note_r B p true S2 3 _ hP (by unfold maxAns; omega)) ?_
          clear hO hK hP
          intro u o3 S3 w3 _ _ _ hP _ hK hO
          have hf : R (.returned (encI 0)) w3 := hO.ret hP hK
          clear hO hP hK hOh
          go_wp2_with fail
          first | exact hf | (go_ret; exact hf)
end Go.Proofs.YtpcohbpeglledaaGreat
/-
  Plain mathematics: which locals an operation sets.
-/
namespace Kv
/-- An operation that sets locals from lo on, below hi, alone. -/
inductive Prog.Sets {α : Type} (lo hi : Int) : Prog α → Prop
  | ret (a : α) : Sets lo hi (.ret a)
  | read (c : Int) {k : Int → Prog α} : (∀ x, Sets lo hi (k x)) → Sets lo hi (.read c k)
  | write (c v : Int) {k : Unit → Prog α} : Sets lo hi (k ()) → Sets lo hi (.write c v k)
  | get (i : Int) {k : Int → Prog α} : (∀ x, Sets lo hi (k x)) → Sets lo hi (.get i k)
  | set (i v : Int) {k : Unit → Prog α} : lo ≤ i → i < hi → Sets lo hi (k ()) → Sets lo hi (.set i v k)
  | note (m : Int) {k : Unit → Prog α} : Sets lo hi (k ()) → Sets lo hi (.note m k)
theorem Prog.Sets.bind {α β : Type} {lo hi : Int} {p : Prog α} {f : α → Prog β} (h : p.Sets lo hi) (hf : ∀ a, (f a).Sets lo hi) : (p.bind f).Sets lo hi := by
  induction h with
  | ret a => exact hf a
  | read c _ ih => exact .read c fun x => ih x
  | write c v _ ih => exact .write c v ih
  | get c _ ih => exact .get c fun x => ih x
  | set c v h1 h2 _ ih => exact .set c v h1 h2 ih
  | note m _ ih => exact .note m ih
theorem Prog.Sets.mono {α : Type} {lo hi lo' hi' : Int} {p : Prog α} (h : p.Sets lo hi) (h1 : lo' ≤ lo) (h2 : hi ≤ hi') : p.Sets lo' hi' := by
  induction h with
  | ret a => exact .ret a
  | read c _ ih => exact .read c fun x => ih x
  | write c v _ ih => exact .write c v ih
  | get c _ ih => exact .get c fun x => ih x
  | set c v h3 h4 _ ih => exact .set c v (by omega) (by omega) ih
  | note m _ ih => exact .note m ih
/-- All other locals stay. -/
theorem Prog.Sets.got {α : Type} {lo hi i : Int} {p : Prog α} (h : p.Sets lo hi) (hi2 : i < lo ∨ hi ≤ i) : ∀ S : TS, (p.run S).2.got i = S.got i := by
  induction h with
  | ret a => intro S; rfl
  | read c _ ih =>
    intro S
    simp only [Prog.run]
    cases S.next with
    | none => rfl
    | some v => exact (ih v _).trans rfl
  | write c v _ ih =>
    intro S
    simp only [Prog.run]
    cases S.next with
    | none => rfl
    | some _ => exact (ih _).trans rfl
  | get c _ ih => intro S; exact ih _ _
  | set j v h1 h2 _ ih =>
    intro S
    refine (ih (S.upd j v)).trans ?_
    unfold TS.got TS.upd
    split
    · rfl
    · split
      · simp only
        rw [if_neg (by omega)]
      · rfl
  | note m _ ih => intro S; exact (ih _).trans rfl
theorem sets_rd (lo hi c : Int) : (rd c).Sets lo hi := .read c fun x => .ret x
theorem sets_wr (lo hi c v : Int) : (wr c v).Sets lo hi := .write c v (.ret ())
theorem sets_gt (lo hi c : Int) : (gt c).Sets lo hi := .get c fun x => .ret x
theorem sets_st {lo hi c : Int} (v : Int) (h1 : lo ≤ c) (h2 : c < hi) : (st c v).Sets lo hi := .set c v h1 h2 (.ret ())
theorem sets_forP {σ : Type} {lo hi : Int} {T : Int → σ → Prog σ} : ∀ (l : List Int), (∀ a ∈ l, ∀ x, (T a x).Sets lo hi) → ∀ x : σ, (forP T l x).Sets lo hi
  | [], _, x => .ret x
  | a :: l, h, x => (h a (List.mem_cons_self ..) x).bind fun y => sets_forP l (fun b hb => h b (List.mem_cons_of_mem _ hb)) y
theorem ranks_mem {but : Int} : ∀ (n : Nat) (i : Int) {a : Int}, a ∈ ranksFrom but n i → i ≤ a ∧ a < i + n ∧ a ≠ but
  | 0, i, a, h => by cases h
  | n + 1, i, a, h => by
    unfold ranksFrom at h
    split at h
    · have := ranks_mem n (i + 1) h
      omega
    · rcases List.mem_cons.1 h with rfl | h
      · omega
      · have := ranks_mem n (i + 1) h
        omega
theorem otherM_bd (v : Int) : 0 ≤ otherM v ∧ otherM v ≤ 1 := by unfold otherM; split <;> omega
theorem bitM_bd (v : Int) : 0 ≤ bitM v ∧ bitM v ≤ 1 := by unfold bitM; split <;> omega
theorem sets_trompW (b l v : Int) : (trompW b l v).Sets l (l + 4) := by
  refine (sets_gt _ _ _).bind fun x => ?_
  split
  · exact .ret _
  · refine (sets_wr _ _ _ _).bind fun _ => (sets_st _ (by omega) (by omega)).bind fun _ => (sets_gt _ _ _).bind fun _ => (sets_rd _ _ _).bind fun _ => ?_
    split
    · exact (sets_wr _ _ _ _).bind fun _ => sets_st _ (by omega) (by omega)
    · exact .ret _
theorem sets_trompR3 (b l x : Int) : (trompR3 b l x).Sets l (l + 4) := by
  refine (sets_rd _ _ _).bind fun _ => (sets_st _ (by omega) (by omega)).bind fun _ => (sets_rd _ _ _).bind fun _ => (sets_gt _ _ _).bind fun _ => ?_
  split
  · exact sets_gt _ _ _
  · exact (sets_rd _ _ _).bind fun _ => (sets_st _ (by omega) (by omega)).bind fun _ => .ret _
theorem sets_trompR2 (b l x : Int) : (trompR2 b l x).Sets l (l + 4) := by
  refine (sets_rd _ _ _).bind fun _ => (sets_gt _ _ _).bind fun _ => ?_
  split
  · exact sets_trompR3 _ _ _
  · exact (sets_gt _ _ _).bind fun _ => (sets_wr _ _ _ _).bind fun _ => (sets_st _ (by omega) (by omega)).bind fun _ => sets_trompR3 _ _ _
theorem sets_trompR (b l : Int) : (trompR b l).Sets l (l + 4) := by
  refine (sets_rd _ _ _).bind fun _ => (sets_gt _ _ _).bind fun _ => ?_
  split
  · exact sets_gt _ _ _
  · exact (sets_rd _ _ _).bind fun _ => sets_trompR2 _ _ _
theorem sets_slotsW (b l v : Int) : (slotsW b l v).Sets l (l + 18) := by
  refine ((sets_trompR _ _).mono (by omega) (by omega)).bind fun y => (sets_gt _ _ _).bind fun z => (sets_wr _ _ _ _).bind fun _ => ?_
  have := otherM_bd y
  refine (sets_st _ (by omega) (by omega)).bind fun _ => ((sets_trompW _ _ _).mono (by omega) (by omega)).bind fun _ => (sets_trompW _ _ _).mono (by omega) (by omega)
theorem sets_slotsR (b l : Int) : (slotsR b l).Sets l (l + 18) := by
  refine ((sets_trompR _ _).mono (by omega) (by omega)).bind fun y => ((sets_trompW _ _ _).mono (by omega) (by omega)).bind fun _ => ?_
  have := bitM_bd y
  exact ((sets_trompR _ _).mono (by omega) (by omega)).bind fun _ => sets_rd _ _ _
/-- The numbers of a table's slots. -/
theorem tells_bd {k a b : Int} (ha : 0 ≤ a) (ha2 : a < k) (hb : 0 ≤ b) (hb2 : b < k) (hab : a ≠ b) : 0 ≤ tellsM k a b ∧ tellsM k a b < k * k := by
  unfold tellsM
  have h1 : a * (k - 1) ≤ (k - 1) * (k - 1) := Int.mul_le_mul_of_nonneg_right (by omega) (by omega)
  have h0 : 0 ≤ a * (k - 1) := Int.mul_nonneg ha (by omega)
  have h2 : (k - 1) * (k - 1) = k * k - 2 * k + 1 := by
    rw [Int.sub_mul, Int.mul_sub, Int.mul_one, Int.one_mul]; omega
  split
  · omega
  · rename_i h
    by_cases e : a = k - 1
    · omega
    · have h3 : a * (k - 1) ≤ (k - 2) * (k - 1) := Int.mul_le_mul_of_nonneg_right (by omega) (by omega)
      have h4 : (k - 2) * (k - 1) = k * k - 3 * k + 2 := by
        rw [Int.sub_mul, Int.mul_sub, Int.mul_one]; omega
      omega
theorem rankM_bd {n w me : Int} (hw : 0 ≤ w) (hw2 : w < n) (hm : 0 ≤ me) (hm2 : me < n) (h : me ≠ w) : 0 ≤ rankM w me ∧ rankM w me < n - 1 := by
  unfold rankM
  split <;> omega
theorem sets_tableR {b l n w top me : Int} (hw : 0 ≤ w) (hw2 : w < n) (hm : 0 ≤ me) (hm2 : me < n) : (tableR b l n w top me).Sets l (l + (2 + 18 * ((n - 1) * (n - 1)))) := by
  unfold tableR
  split
  · exact sets_gt _ _ _
  · rename_i h
    obtain ⟨r1, r2⟩ := rankM_bd hw hw2 hm hm2 h
    have hk : n - 1 ≤ (n - 1) * (n - 1) := by
      have := Int.mul_le_mul_of_nonneg_right (show 1 ≤ n - 1 by omega) (show 0 ≤ n - 1 by omega)
      omega
    refine ((sets_slotsR _ _).mono (by omega) (by omega)).bind fun x => (sets_forP _ (fun i hi y => ?_) _).bind fun x => (sets_forP _ (fun i hi y => ?_) _).bind fun _ => .ret _
    · obtain ⟨i1, i2, i3⟩ := ranks_mem _ _ hi
      obtain ⟨t1, t2⟩ := tells_bd (k := n - 1) (a := i) (b := rankM w me) i1 (by omega) r1 r2 i3
      exact ((sets_slotsR _ _).mono (by omega) (by omega)).bind fun _ => .ret _
    · obtain ⟨i1, i2, i3⟩ := ranks_mem _ _ hi
      obtain ⟨t1, t2⟩ := tells_bd (k := n - 1) (a := rankM w me) (b := i) r1 r2 i1 (by omega) (fun e => i3 e.symm)
      exact (sets_slotsW _ _ _).mono (by omega) (by omega)
end Kv
/-
  What the laws of locks share: whether registers can be laid, and a thread by any number.
-/
namespace Go.Proofs.YtpcohbpeglledaaGreat
open Go.RowKit Kv
theorem may_r (va : Value) (l : List Want) (alg n mode base loc room : Int) (w : World) (h : WantsAt w va l) (hlen : l.length ≤ 1000) :
    Calls Tryz.prog 33 #[va, .agg #[.int .i64 alg, .int .i64 n, .int .i64 mode, .int .i64 base, .int .i64 loc, .int .i64 room]] w fun e w' => e = .returned (.bool (layM l n mode base loc).isSome) ∧ Ext w w' := by
  have hX := Ext.refl w
  have b1 := Blk.new w (.cells #[.int .i64 alg, .int .i64 n, .int .i64 mode, .int .i64 base, .int .i64 loc, .int .i64 room] 52)
  replace hX := hX.alloc (.cells #[.int .i64 alg, .int .i64 n, .int .i64 mode, .int .i64 base, .int .i64 loc, .int .i64 room] 52)
  have c_b1 := b1.cells
  have hL := lay_r va l n mode base loc _ (h.ext hX) hlen
  obtain ⟨A, c, rfl, _, _, _⟩ := h
  generalize hr : layM l n mode base loc = r at *
  go_enter Tryz.func33, Tryz.ntmps33
  go_wp2_with fail
  cases r with
  | none =>
    refine hL.mono ?_
    rintro e w1 ⟨hx, x, hx0, rfl⟩
    have dx : (x == 0) = false := by rw [beq_eq_false_iff_ne]; exact hx0
    have hf := Lib.hid (hX.trans hx)
    clear hL hx hr hx0
    go_wp2_with fail
    go_ret
    exact ⟨rfl, hf.out⟩
  | some rs =>
    refine hL.mono ?_
    rintro e w1 ⟨hx, v, rfl, hrow⟩
    obtain ⟨A', c', rfl, -⟩ := Recs.of_row hrow
    have hf := Lib.hid (hX.trans hx)
    clear hL hx hr hrow
    go_wp2_with fail
    go_ret
    exact ⟨rfl, hf.out⟩
theorem me_r (alg mode base loc room me : Int) (N : Nat) (w : World) (h1 : 1 ≤ N) (h2 : N ≤ 8) :
    Calls Tryz.prog 36 #[.agg #[.int .i64 alg, .int .i64 N, .int .i64 mode, .int .i64 base, .int .i64 loc, .int .i64 room], .int .i64 me] w fun e w' => e = .returned (.int .i64 (wrapI me ((N : Int) - 1))) ∧ Ext w w' := by
  have hN : ∀ w, Calls Tryz.prog 106 #[.agg #[.int .i64 alg, .int .i64 N, .int .i64 mode, .int .i64 base, .int .i64 loc, .int .i64 room]] w fun e w' => e = .returned (.int .i64 N) ∧ Ext w w' := by
    intro w
    have hn : nM (N : Int) = N := nM_id (by omega) (by omega)
    have hX := Ext.refl w
    have b1 := Blk.new w (.cells #[.int .i64 alg, .int .i64 N, .int .i64 mode, .int .i64 base, .int .i64 loc, .int .i64 room] 52)
    replace hX := hX.alloc (.cells #[.int .i64 alg, .int .i64 N, .int .i64 mode, .int .i64 base, .int .i64 loc, .int .i64 room] 52)
    have c_b1 := b1.cells
    go_enter Tryz.func106, Tryz.ntmps106
    go_wp2_with fail
    refine (rn_any ⟨0, 0, 0, N, 0, 0, 0⟩ _).mono ?_
    rintro e w1 ⟨rfl, hx⟩
    simp only
    rw [hn]
    have hf := Lib.hid (hX.trans hx)
    clear hx hn
    go_wp2_with fail
    go_ret
    exact ⟨rfl, hf.out⟩
  have hs := IntWalk.i64_in ((N : Int) - 1) (by omega)
  have hX := Ext.refl w
  have b1 := Blk.new w (.cells #[.int .i64 alg, .int .i64 N, .int .i64 mode, .int .i64 base, .int .i64 loc, .int .i64 room] 52)
  replace hX := hX.alloc (.cells #[.int .i64 alg, .int .i64 N, .int .i64 mode, .int .i64 base, .int .i64 loc, .int .i64 room] 52)
  have c_b1 := b1.cells
  go_enter Tryz.func36, Tryz.ntmps36
  go_wp2_with fail
  refine (hN _).mono ?_
  rintro e w1 ⟨rfl, hx⟩
  have hf := Lib.hid (hX.trans hx)
  clear hx hN
  go_wp2_with fail
  refine (wrap_r me ((N : Int) - 1) _).mono ?_
  rintro e w' ⟨rfl, rfl⟩
  go_wp2_with fail
  go_ret
  exact ⟨rfl, hf.out⟩
theorem me_at (me : Int) (N : Nat) (h1 : 1 ≤ N) (h2 : N ≤ 8) : ∃ m : Nat, m < N ∧ wrapI me ((N : Int) - 1) = m := by
  have ht := wrapI_bd me ((N : Int) - 1)
  rw [show clamp ((N : Int) - 1) 1099511627776 = (N : Int) - 1 from by unfold clamp within; omega] at ht
  exact ⟨(wrapI me ((N : Int) - 1)).toNat, by omega, by omega⟩
theorem laid_all {l : List Want} {n mode b c : Int} {rs : List Reg} (h : layM l n mode b c = some rs) : ∀ r ∈ rs, r.ok ∧ r.n = n := by
  intro r hr
  obtain ⟨i, hi⟩ := List.getElem?_of_mem hr
  obtain ⟨⟨_, _, n1, n2, _, _⟩, hw, _⟩ := layM_args h
  have hil := (List.getElem?_eq_some_iff.1 hi).1
  rw [layM_len h] at hil
  obtain ⟨r', hr', hL⟩ := layM_at h (List.getElem?_eq_getElem hil)
  obtain rfl : r = r' := by rw [hi] at hr'; simpa using hr'
  obtain ⟨h1, h2, _⟩ := hL.ok ⟨n1, n2⟩ (hw _ (List.getElem_mem hil))
  exact ⟨h1, h2⟩
theorem laid_want {f : Nat → Want} {k : Nat} {n mode b c : Int} {rs : List Reg} (h : layM ((List.range k).map f) n mode b c = some rs) {i : Nat} {r : Reg} (hi : rs[i]? = some r) : Laid n mode (f i) r := by
  have hil := (List.getElem?_eq_some_iff.1 hi).1
  rw [layM_len h, List.length_map, List.length_range] at hil
  obtain ⟨r', hr', hL⟩ := layM_at h (i := i) (q := f i) (by rw [List.getElem?_map, List.getElem?_range hil]; rfl)
  obtain rfl : r = r' := by rw [hi] at hr'; simpa using hr'
  exact hL
/-- Told by accesses, but for its own writer. -/
theorem laid_told {n mode : Int} {q : Want} {r : Reg} (h : Laid n mode q r) (_hm : 1 ≤ mode ∧ mode ≤ 2) (hn : 2 ≤ n) (_hq : -1 ≤ q.wr) {me : Int} (hme : q.wr ≠ me) : r.told me := by
  obtain ⟨⟨b, c, rfl, _, _⟩, _⟩ := h
  by_cases h2 : mode = 2
  · by_cases h3 : 0 ≤ q.wr
    · refine .inr (.inl ⟨?_, fun h => hme h.symm⟩)
      show kindM mode q.wr = 6
      unfold kindM
      rw [if_pos h2, if_pos h3]
    · refine .inr (.inr ⟨?_, hn⟩)
      show kindM mode q.wr = 7
      unfold kindM
      rw [if_pos h2, if_neg h3]
  · refine .inl ?_
    show kindM mode q.wr = 1
    unfold kindM
    rw [if_neg h2]
theorem fil_told {N : Nat} {mode b c : Int} {rs : List Reg} {m : Nat} (h : layM (filWants N) N mode b c = some rs) : ∀ (i : Nat) r, rs[i]? = some r → i ≠ m → 2 ≤ N → r.told m := by
  intro i r hi hm hN
  obtain ⟨⟨h1, h2, _⟩, _⟩ := layM_args h
  refine laid_told (laid_want h hi) ⟨h1, h2⟩ (by omega) ?_ ?_
  · unfold filWant; split <;> simp <;> omega
  · unfold filWant; split <;> simp <;> omega
end Go.Proofs.YtpcohbpeglledaaGreat
/-
  Plain mathematics: which locals reads of registers set; what a thread reads of its own register behind a write of 0.
-/
namespace Kv
theorem sets_manyRs {b l n top me : Int} (hn : 1 ≤ n) (hm : 0 ≤ me) (hm2 : me < n) : ∀ (k : Nat) (j s v : Int), 0 ≤ j → j + k ≤ n → (manyRs b l n top me k j s v).Sets l (l + n * (2 + 18 * ((n - 1) * (n - 1))))
  | 0, j, s, v, _, _ => .ret _
  | k + 1, j, s, v, hj, hk => by
    have hq : 0 ≤ (n - 1) * (n - 1) := Int.mul_nonneg (by omega) (by omega)
    have hX : 0 ≤ 2 + 18 * ((n - 1) * (n - 1)) := by omega
    have e1 : manyL l n j = l + j * (2 + 18 * ((n - 1) * (n - 1))) := by unfold manyL; rw [Int.mul_assoc 18]
    have e2 : 0 ≤ j * (2 + 18 * ((n - 1) * (n - 1))) := Int.mul_nonneg hj hX
    have e3 : (j + 1) * (2 + 18 * ((n - 1) * (n - 1))) ≤ n * (2 + 18 * ((n - 1) * (n - 1))) := Int.mul_le_mul_of_nonneg_right (by omega) hX
    rw [Int.add_mul, Int.one_mul] at e3
    unfold manyRs
    refine ((sets_tableR hj (by omega) hm hm2).mono ?_ ?_).bind fun y => ?_
    · rw [e1]; omega
    · rw [e1]; omega
    · split <;> exact sets_manyRs hn hm hm2 k _ _ _ (by omega) (by omega)
theorem localsM_eq (r : Reg) : localsM r = if r.kind = 1 then 0 else if r.kind = 6 then 2 + 18 * ((r.n - 1) * (r.n - 1)) else r.n * (2 + 18 * ((r.n - 1) * (r.n - 1))) := by
  unfold localsM
  rw [Int.mul_assoc 18]
theorem sets_regR {r : Reg} (h : r.ok) {me : Int} (hm : 0 ≤ me) (hm2 : me < r.n) : (regR r me).Sets r.loc (r.loc + localsM r) := by
  rw [localsM_eq]
  unfold regR
  split
  · exact sets_rd _ _ _
  · split
    · rename_i h6
      exact sets_tableR (h.wr h6).1 (h.wr h6).2 hm hm2
    · unfold manyR
      exact (sets_manyRs h.n.1 hm hm2 _ _ _ _ (by omega) (by have := h.n.1; omega)).bind fun p => .ret _
theorem sets_zeroP {r : Reg} (h : r.ok) {me : Int} (hm : 0 ≤ me) (hm2 : me < r.n) : ∀ n : Nat, (zeroP r me n).Sets r.loc (r.loc + localsM r)
  | 0 => .ret _
  | n + 1 => (sets_regR h hm hm2).bind fun x => by
    split
    · exact .ret _
    · exact sets_zeroP h hm hm2 n
theorem Prog.bind_some {α β : Type} {p : Prog α} {f : α → Prog β} {S S' : TS} {b : β} (h : (p.bind f).run S = (some b, S')) : ∃ a S1, p.run S = (some a, S1) ∧ (f a).run S1 = (some b, S') := by
  rw [Prog.run_bind] at h
  rcases hr : p.run S with ⟨o, S1⟩
  rw [hr] at h
  cases o with
  | none => simp [thenR] at h
  | some a => exact ⟨a, S1, rfl, h⟩
theorem layFrom_from {n mode : Int} (hn : 1 ≤ n ∧ n ≤ 8) : ∀ (l : List Want) (b c : Int) (rs : List Reg), layFrom n mode l b c = some rs → ∀ (i : Nat) r, rs[i]? = some r → c ≤ r.loc
  | [], b, c, rs, h, i, r, hi => by
    obtain rfl : [] = rs := by simpa [layFrom] using h
    simp at hi
  | q :: l, b, c, rs, h, i, r, hi => by
    unfold layFrom at h
    split at h
    · have hz := cells_nat (regOf n mode b c q) hn
      cases hr : layFrom n mode l (b + cellsM (regOf n mode b c q)) (c + localsM (regOf n mode b c q)) with
      | none => rw [hr] at h; cases h
      | some rs' =>
        rw [hr] at h
        obtain rfl : regOf n mode b c q :: rs' = rs := by simpa using h
        cases i with
        | zero =>
          obtain rfl : regOf n mode b c q = r := by simpa using hi
          exact Int.le_refl _
        | succ i =>
          have := layFrom_from hn l _ _ rs' hr i r (by simpa using hi)
          omega
    · cases h
/-- Registers laid in a row have locals of their own. -/
theorem layFrom_apart {n mode : Int} (hn : 1 ≤ n ∧ n ≤ 8) : ∀ (l : List Want) (b c : Int) (rs : List Reg), layFrom n mode l b c = some rs → ∀ (i j : Nat) r s, i < j → rs[i]? = some r → rs[j]? = some s → r.loc + localsM r ≤ s.loc
  | [], b, c, rs, h, i, j, r, s, _, hi, _ => by
    obtain rfl : [] = rs := by simpa [layFrom] using h
    simp at hi
  | q :: l, b, c, rs, h, i, j, r, s, hij, hi, hj => by
    unfold layFrom at h
    split at h
    · cases hr : layFrom n mode l (b + cellsM (regOf n mode b c q)) (c + localsM (regOf n mode b c q)) with
      | none => rw [hr] at h; cases h
      | some rs' =>
        rw [hr] at h
        obtain rfl : regOf n mode b c q :: rs' = rs := by simpa using h
        cases j with
        | zero => omega
        | succ j =>
          have hj' : rs'[j]? = some s := by simpa using hj
          cases i with
          | zero =>
            obtain rfl : regOf n mode b c q = r := by simpa using hi
            exact layFrom_from hn l _ _ rs' hr j s hj'
          | succ i => exact layFrom_apart hn l _ _ rs' hr i j r s (by omega) (by simpa using hi) hj'
    · cases h
theorem layM_apart {l : List Want} {n mode b c : Int} {rs : List Reg} (h : layM l n mode b c = some rs) {i j : Nat} {r s : Reg} (hij : i < j) (hi : rs[i]? = some r) (hj : rs[j]? = some s) : r.loc + localsM r ≤ s.loc := by
  obtain ⟨⟨_, _, n1, n2, _, _⟩, _, hf⟩ := layM_args h
  exact layFrom_apart ⟨n1, n2⟩ l b c rs hf i j r s hij hi hj
theorem TS.got_upd {S : TS} {i v : Int} (h1 : 0 ≤ i) (h2 : i < 32768) : (S.upd i v).got i = v := by
  unfold TS.upd
  rw [if_pos ⟨h1, h2⟩]
  unfold TS.got
  rw [if_neg (by omega)]
  simp
/-- What a thread's own register of a fast lock tells it: 0. -/
def ownZ (r : Reg) (S : TS) : Prop := r.kind = 6 → S.got (r.loc + 1) = 0
theorem ownZ_wrote {r : Reg} {m : Int} (h0 : 0 ≤ r.loc) (hf : r.loc + localsM r ≤ 32768) (hn : 1 ≤ r.n) (hw : r.kind = 6 → r.wr = m) {S S' : TS} (h : (regW r m 0).run S = (some (), S')) : ownZ r S' := by
  intro h6
  rw [localsM_eq, if_neg (by omega), if_pos h6] at hf
  have hq : 0 ≤ (r.n - 1) * (r.n - 1) := Int.mul_nonneg (by omega) (by omega)
  unfold regW at h
  rw [if_neg (by omega), if_pos h6] at h
  unfold tableW at h
  rw [if_neg (by rw [hw h6]; simp)] at h
  obtain ⟨a1, S1, -, h⟩ := Prog.bind_some h
  obtain ⟨a2, S2, -, h⟩ := Prog.bind_some h
  obtain ⟨a3, S3, -, h⟩ := Prog.bind_some h
  have e : S3.upd (r.loc + 1) (clamp 0 (clamp r.top 1048576)) = S' := by
    have := h
    simp only [st, Prog.run, Prod.mk.injEq, true_and] at this
    exact this
  have hc : clamp 0 (clamp r.top 1048576) = 0 := by unfold clamp within; omega
  rw [← e, hc]
  exact TS.got_upd (by omega) (by omega)
theorem ownZ_kept {r s : Reg} {m : Int} (_h0 : 0 ≤ r.loc) (hn : 1 ≤ r.n) (hs : s.ok) (hm : 0 ≤ m) (hm2 : m < s.n) (ha : r.loc + localsM r ≤ s.loc ∨ s.loc + localsM s ≤ r.loc) {D : Nat} {S S' : TS} (h : (zeroP s m D).run S = (some (), S')) (hz : ownZ r S) : ownZ r S' := by
  intro h6
  have hq : 0 ≤ (r.n - 1) * (r.n - 1) := Int.mul_nonneg (by omega) (by omega)
  rw [localsM_eq r, if_neg (by omega), if_pos h6] at ha
  have e := (sets_zeroP hs hm hm2 D).got (i := r.loc + 1) (by omega) S
  rw [h] at e
  rw [← hz h6]
  exact e
theorem zeroP_own {r : Reg} {m : Int} (hk : r.kind = 6) (hw : r.wr = m) : ∀ (D : Nat) (S S' : TS), (zeroP r m D).run S = (some (), S') → S = S'
  | 0, S, S', h => by
    have := h
    simp only [zeroP, Prog.run, Prod.mk.injEq, true_and] at this
    exact this
  | D + 1, S, S', h => by
    rw [show zeroP r m (D + 1) = (regR r m).bind fun x => if x = 0 then .ret () else zeroP r m D from rfl] at h
    have e : regR r m = gt (r.loc + 1) := by
      unfold regR tableR
      rw [if_neg (by omega), if_pos hk, if_pos hw.symm]
    rw [e] at h
    have h : (if S.got (r.loc + 1) = 0 then Prog.ret () else zeroP r m D).run S = (some (), S') := h
    split at h
    · simp only [Prog.run, Prod.mk.injEq, true_and] at h
      exact h
    · exact zeroP_own hk hw D S S' h
theorem ownZ_read {r : Reg} {m : Int} (hk : r.kind = 6) (hw : r.wr = m) {S : TS} (hz : ownZ r S) : (regR r m).run S = (some 0, S) := by
  unfold regR tableR
  rw [if_neg (by omega), if_pos hk, if_pos hw.symm]
  show (some (S.got (r.loc + 1)), S) = _
  rw [hz hk]
end Kv
namespace Go.Proofs.YtpcohbpeglledaaGreat
open Kv
theorem fast_told {N : Nat} {mode b c : Int} {rs : List Reg} {m : Nat} (h : layM (fastWants N) N mode b c = some rs) (hN : ¬(N = 1 ∧ mode = 2)) : ∀ (i : Nat) r, rs[i]? = some r → i ≠ 2 + m → r.told m := by
  intro i r hi hm
  obtain ⟨⟨h1, h2, n1, _⟩, _⟩ := layM_args h
  have hL := laid_want h hi
  by_cases hm2 : mode = 2
  · refine laid_told hL ⟨h1, h2⟩ (by omega) ?_ ?_
    · unfold fastWant; split <;> simp <;> omega
    · unfold fastWant; split <;> simp <;> omega
  · obtain ⟨⟨b, c, rfl, _, _⟩, _⟩ := hL
    refine .inl ?_
    show kindM mode _ = 1
    unfold kindM
    rw [if_neg hm2]
/-- The own register of a fast lock: told by accesses, or by a local. -/
theorem fast_own {N : Nat} {mode b c : Int} {rs : List Reg} {m : Nat} {rm : Reg} (h : layM (fastWants N) N mode b c = some rs) (hr : rs[2 + m]? = some rm) : rm.kind = 1 ∨ rm.kind = 6 ∧ rm.wr = m := by
  obtain ⟨⟨h1, h2, n1, _⟩, _⟩ := layM_args h
  obtain ⟨⟨b, c, rfl, _, _⟩, _⟩ := laid_want h hr
  have e : (fastWant N (2 + m)).wr = m := by unfold fastWant; rw [if_neg (by omega)]; simp; omega
  show kindM mode _ = 1 ∨ kindM mode _ = 6 ∧ _ = _
  unfold kindM
  split
  · rw [e, if_pos (by omega)]
    exact .inr ⟨rfl, e⟩
  · exact .inl rfl
theorem laid_fine {l : List Want} {n mode b c : Int} {rs : List Reg} (h : layM l n mode b c = some rs) : ∀ r ∈ rs, fineM r = true := by
  intro r hr
  obtain ⟨i, hi⟩ := List.getElem?_of_mem hr
  have hil := (List.getElem?_eq_some_iff.1 hi).1
  rw [layM_len h] at hil
  obtain ⟨r', hr', hL⟩ := layM_at h (List.getElem?_eq_getElem hil)
  obtain rfl : r = r' := by rw [hi] at hr'; simpa using hr'
  exact hL.fine
theorem fast_hz {N : Nat} {mode b c : Int} {rs : List Reg} {m D : Nat} (h : layM (fastWants N) N mode b c = some rs) (hm : m < N) :
    ∃ Z : TS → Prop, (∀ rm, rs[2 + m]? = some rm → ∀ S S', (regW rm m 0).run S = (some (), S') → Z S') ∧
      (∀ (j : Nat) r, rs[j]? = some r → ∀ S S', (zeroP r m D).run S = (some (), S') → Z S → Z S') ∧
      (∀ rm, rs[2 + m]? = some rm → ∀ S, Z S → rm.told m ∨ (regR rm m).run S = (some 0, S)) := by
  have hlen := layM_len h
  rw [fastWants_len] at hlen
  obtain ⟨rm, hrm⟩ : ∃ r, rs[2 + m]? = some r := ⟨_, List.getElem?_eq_getElem (by omega)⟩
  obtain ⟨okm, nm⟩ := laid_all h rm (List.mem_of_getElem? hrm)
  have hown := fast_own h hrm
  refine ⟨ownZ rm, ?_, ?_, ?_⟩
  · intro r hr S S' hS
    obtain rfl : rm = r := by rw [hrm] at hr; simpa using hr
    refine ownZ_wrote okm.loc.1 ?_ (by have := okm.n; omega) (fun h6 => ?_) hS
    · have := laid_fine h rm (List.mem_of_getElem? hrm)
      unfold fineM at this
      simp only [Bool.and_eq_true, decide_eq_true_eq] at this
      exact this.2
    · rcases hown with h1 | h1
      · omega
      · exact h1.2
  · intro j r hr S S' hS hz
    obtain ⟨okr, nr⟩ := laid_all h r (List.mem_of_getElem? hr)
    by_cases hj : j = 2 + m
    · subst hj
      obtain rfl : rm = r := by rw [hrm] at hr; simpa using hr
      rcases hown with h1 | h1
      · intro h6; omega
      · rw [← zeroP_own h1.1 h1.2 D S S' hS]; exact hz
    · refine ownZ_kept okm.loc.1 (by have := okm.n; omega) okr (by omega) (by rw [nr]; omega) ?_ hS hz
      by_cases hlt : j < 2 + m
      · exact .inr (layM_apart h hlt hr hrm)
      · exact .inl (layM_apart h (by omega) hrm hr)
  · intro r hr S hz
    obtain rfl : rm = r := by rw [hrm] at hr; simpa using hr
    rcases hown with h1 | h1
    · exact .inl (.inl h1)
    · exact .inr (ownZ_read h1.1 h1.2 hz)
end Go.Proofs.YtpcohbpeglledaaGreat
/-
  The fast lock: the chapter's example.
-/
namespace Kv
def fb0 : Reg := ⟨1, 0, 0, 1, -1, -1, 1⟩
def fb1 : Reg := ⟨1, 1, 0, 1, -1, -1, 1⟩
def fb2 : Reg := ⟨1, 2, 0, 1, 0, -1, 1⟩
end Kv
namespace Go.Proofs.YtpcohbpeglledaaGreat
open Go.RowKit Kv
theorem fb_ok : ∀ r ∈ [fb0, fb1, fb2], r.ok ∧ r.n = 1 := by
  intro r hr
  simp only [List.mem_cons, List.not_mem_nil, or_false] at hr
  rcases hr with rfl | rfl | rfl <;> exact ⟨⟨.inl rfl, by decide, by decide, by decide, fun h => by cases h⟩, rfl⟩
theorem sal1 (B p : Nat) (S : TS) (bk : Nat) (w : World) (h : Plays B w p S) (hD : S.left < 6) (hn0 : S.nts.length = 0)
    (c1 : ∀ i, w.cell? ⟨bk, i, none⟩ = (#[.int .i64 5, .int .i64 1, .int .i64 1, .int .i64 0, .int .i64 0, .int .i64 0] : Array Value)[i]?) :
    Calls Tryz.prog 113 #[.pointer (some ⟨p, 0, none⟩), .pointer (some ⟨bk, 0, none⟩)] w (Post encI B p w ((fastA 6 [fb0, fb1, fb2] 1 0).run S)) := by
  have hl : layM (fastWants 1) 1 1 0 0 = some [fb0, fb1, fb2] := by rfl
  obtain ⟨Z, z1, z2, z3⟩ := fast_hz (m := 0) (D := 6) hl (by decide)
  have hq : Calls Tryz.prog 48 #[.pointer (some ⟨p, 0, none⟩), .agg #[.int .i64 5, .int .i64 1, .int .i64 1, .int .i64 0, .int .i64 0, .int .i64 0], .int .i64 0] w (Post encI B p w ((fastA 6 [fb0, fb1, fb2] 1 0).run S)) :=
    fastacq_p B p 1 6 S 5 1 0 0 0 0 [fb0, fb1, fb2] w h (by decide) (by decide) (by decide) hl fb_ok (fast_told hl (by decide)) hD hn0 Z z1 z2 z3
  generalize hR : Post encI B p w ((fastA 6 [fb0, fb1, fb2] 1 0).run S) = R
  have hO : Owes R encI B p w ((fastA 6 [fb0, fb1, fb2] 1 0).run S) := hR ▸ owes _ _ _ _ _
  clear hR
  have hK := Keep.refl [2, 3, 4] B p w
  clear z1 z2 z3 hl
  go_enter Tryz.func113, Tryz.ntmps113
  go_wp2_with fail
  clear c1
  refine tlast hO hK hq (fun _ h => ⟨rfl, h⟩) ?_
  intro v S1 w1 hr hP1 hk1 hK1 hO1
  have hf := hO1.done hP1 hK1
  clear hO1 hP1 hK1 hr hk1 hO h hK hq
  go_wp2_with fail
  first | exact hf | (go_ret; exact hf)
theorem sal2 (B p : Nat) (S : TS) (bk : Nat) (w : World) (h : Plays B w p S) (hn0 : S.nts.length = 0)
    (c1 : ∀ i, w.cell? ⟨bk, i, none⟩ = (#[.int .i64 5, .int .i64 1, .int .i64 1, .int .i64 0, .int .i64 0, .int .i64 0] : Array Value)[i]?) :
    Calls Tryz.prog 114 #[.pointer (some ⟨p, 0, none⟩), .pointer (some ⟨bk, 0, none⟩)] w (Post encI B p w (((fastR [fb0, fb1, fb2] 0).bind fun _ => .ret 0).run S)) := by
  have hq : Calls Tryz.prog 51 #[.pointer (some ⟨p, 0, none⟩), .agg #[.int .i64 5, .int .i64 1, .int .i64 1, .int .i64 0, .int .i64 0, .int .i64 0], .int .i64 0] w (Post encU B p w ((fastR [fb0, fb1, fb2] 0).run S)) :=
    fastrel_p B p 1 S 5 1 0 0 0 0 [fb0, fb1, fb2] w h (by decide) (by decide) (by decide) rfl fb_ok hn0
  generalize hR : Post encI B p w (((fastR [fb0, fb1, fb2] 0).bind fun _ => .ret 0).run S) = R
  have hO : Owes R encI B p w (((fastR [fb0, fb1, fb2] 0).bind fun _ => .ret 0).run S) := hR ▸ owes _ _ _ _ _
  clear hR
  have hK := Keep.refl [2, 3, 4] B p w
  go_enter Tryz.func114, Tryz.ntmps114
  go_wp2_with fail
  clear c1
  refine tstep hO hK hq (fun _ h => ⟨rfl, h⟩) ?_
  intro v S1 w1 hr hP1 hk1 hK1 hO1
  have hf := hO1.done (v := (0 : Int)) hP1 hK1
  clear hO1 hP1 hK1 hr hk1 hO h hK hq
  go_wp2_with fail
  first | exact hf | (go_ret; exact hf)
@[go_sem] theorem build_lock3 (a b c : Int) (w : World) : (Instr.build 52 #[(0, .int .i64 a), (1, .int .i64 b), (2, .int .i64 c)]).run Tryz.prog w = .ok (.agg #[.int .i64 a, .int .i64 b, .int .i64 c, .int .i64 0, .int .i64 0, .int .i64 0]) w := run_build w 52 _ _ (by kernel_rfl)
@[go_sem] theorem build_acc3 (a b c : Int) (w : World) : (Instr.build 92 #[(0, .int .i64 a), (1, .int .i64 b), (2, .int .i64 c)]).run Tryz.prog w = .ok (.agg #[.int .i64 a, .int .i64 b, .int .i64 c]) w := run_build w 92 _ _ (by kernel_rfl)
set_option maxRecDepth 100000 in
set_option maxHeartbeats 1000000 in
theorem alive27 (w : World) : Calls Tryz.prog 46 #[] w fun e w' => e = .returned (.bool true) ∧ Ext w w' := by
  have hmf : ∀ (fn : Fn) (first cap : Array Value) (w : World), (Instr.makeFunc fn first cap).run Tryz.prog w = .ok (.func fn first cap) w := fun _ _ _ _ => rfl
  go_enter Tryz.func46, Tryz.ntmps46
  go_wp2_with fail
  have b1 := Blk.new w (.cells #[.int .i64 5, .int .i64 1, .int .i64 1, .int .i64 0, .int .i64 0, .int .i64 0] 52)
  have hX := (Ext.refl w).alloc (.cells #[.int .i64 5, .int .i64 1, .int .i64 1, .int .i64 0, .int .i64 0, .int .i64 0] 52)
  have hA := ints_new (w.alloc (.cells #[.int .i64 5, .int .i64 1, .int .i64 1, .int .i64 0, .int .i64 0, .int .i64 0] 52)) [0, 0, 0, 0, 1] (by simp)
  replace b1 := b1.alloc (.cells (([0, 0, 0, 0, 1] : List Int).map (Value.int .i64)).toArray 3)
  replace hX := hX.alloc (.cells (([0, 0, 0, 0, 1] : List Int).map (Value.int .i64)).toArray 3)
  simp only [World.size_alloc, List.map_cons, List.map_nil, List.length_cons, List.length_nil] at b1 hA hX
  have hsz : w.heap.size + 1 < (World.alloc (World.alloc w (.cells #[.int .i64 5, .int .i64 1, .int .i64 1, .int .i64 0, .int .i64 0, .int .i64 0] 52)) (.cells #[.int .i64 0, .int .i64 0, .int .i64 0, .int .i64 0, .int .i64 1] 3)).heap.size := by simp
  generalize World.alloc (World.alloc w _) _ = V1 at *
  refine (play_err 113 #[.pointer (some ⟨w.heap.size, 0, none⟩)] (fastA 6 [fb0, fb1, fb2] 1 0) none 0 [] (some ⟨w.heap.size + 1, 0, none⟩) 5 [0, 0, 0, 0, 1] V1 (Ints.nil _) (by simp) hA (by decide) (fun k hk => by simp only [Value.ownBlock, Option.some.injEq] at hk; omega) (fun _ _ => rfl) (fun W p hxW hP => sal1 _ p _ w.heap.size W hP (by decide) rfl (b1.ext hxW).cells)).mono ?_
  rintro e y1 ⟨v1, rfl, hO, hx1⟩
  have e1 : ((fastA 6 [fb0, fb1, fb2] 1 0).run (TS0 [] [0, 0, 0, 0, 1])).1 = some 0 := by rfl
  have e2 : ((fastA 6 [fb0, fb1, fb2] 1 0).run (TS0 [] [0, 0, 0, 0, 1])).2.acc.length = 5 := by rfl
  have e3 : ((fastA 6 [fb0, fb1, fb2] 1 0).run (TS0 [] [0, 0, 0, 0, 1])).2.acc[3]? = some ⟨2, 1, 1⟩ := by rfl
  rw [e1] at hO ⊢
  generalize ((fastA 6 [fb0, fb1, fb2] 1 0).run (TS0 [] [0, 0, 0, 0, 1])).2 = S1 at *
  obtain ⟨A1, c1, A1', c1', vs1, L1, rfl, hO⟩ := hO
  obtain ⟨As1, k1, hvs1, _, _⟩ := hO.locs.slice
  subst hvs1
  obtain ⟨u2, rfl, hu2, z20, z21, z22⟩ := hO.accs.at_ e3
  simp only [Nat.reduceMul, Nat.reduceAdd] at z20 z21 z22
  unfold outV
  rw [e2] at *
  simp only [Option.getD_some, Option.isSome_some]
  replace hX := hX.trans hx1
  replace b1 := b1.ext hx1
  clear e1 e2 e3 hO hx1 hA hsz
  go_wp2_with fail
  have s2 := (Ext.refl y1).alloc (.cells #[.bool true, .slice (some ⟨u2, 0, none⟩) 5 c1, .slice A1' S1.nts.length c1', .slice As1 (shortL L1).length k1] 36)
  have n1 := Blk.new y1 (.cells #[.bool true, .slice (some ⟨u2, 0, none⟩) 5 c1, .slice A1' S1.nts.length c1', .slice As1 (shortL L1).length k1] 36)
  replace b1 := b1.alloc (.cells #[.bool true, .slice (some ⟨u2, 0, none⟩) 5 c1, .slice A1' S1.nts.length c1', .slice As1 (shortL L1).length k1] 36)
  replace hX := hX.alloc (.cells #[.bool true, .slice (some ⟨u2, 0, none⟩) 5 c1, .slice A1' S1.nts.length c1', .slice As1 (shortL L1).length k1] 36)
  replace z20 := (s2.cell (p := ⟨u2, 9, none⟩) hu2).trans z20
  replace z21 := (s2.cell (p := ⟨u2, 10, none⟩) hu2).trans z21
  replace z22 := (s2.cell (p := ⟨u2, 11, none⟩) hu2).trans z22
  replace hu2 := Nat.lt_of_lt_of_le hu2 s2.size
  clear s2
  have s3 := (Ext.refl (y1.alloc (.cells #[.bool true, .slice (some ⟨u2, 0, none⟩) 5 c1, .slice A1' S1.nts.length c1', .slice As1 (shortL L1).length k1] 36))).alloc (.cells (([0, 0] : List Int).map (Value.int .i64)).toArray 3)
  have hA := ints_new (y1.alloc (.cells #[.bool true, .slice (some ⟨u2, 0, none⟩) 5 c1, .slice A1' S1.nts.length c1', .slice As1 (shortL L1).length k1] 36)) [0, 0] (by simp)
  replace n1 := n1.alloc (.cells (([0, 0] : List Int).map (Value.int .i64)).toArray 3)
  replace b1 := b1.alloc (.cells (([0, 0] : List Int).map (Value.int .i64)).toArray 3)
  replace hX := hX.alloc (.cells (([0, 0] : List Int).map (Value.int .i64)).toArray 3)
  replace z20 := (s3.cell (p := ⟨u2, 9, none⟩) hu2).trans z20
  replace z21 := (s3.cell (p := ⟨u2, 10, none⟩) hu2).trans z21
  replace z22 := (s3.cell (p := ⟨u2, 11, none⟩) hu2).trans z22
  replace hu2 := Nat.lt_of_lt_of_le hu2 s3.size
  clear s3
  simp only [World.size_alloc, List.map_cons, List.map_nil, List.length_cons, List.length_nil] at b1 hA n1 hX z20 z21 z22
  simp only [List.map_cons, List.map_nil] at hu2
  have hsz : y1.heap.size + 1 < (World.alloc (World.alloc y1 (.cells #[.bool true, .slice (some ⟨u2, 0, none⟩) 5 c1, .slice A1' S1.nts.length c1', .slice As1 (shortL L1).length k1] 36)) (.cells #[.int .i64 0, .int .i64 0] 3)).heap.size := by simp
  generalize World.alloc (World.alloc y1 _) _ = V2 at *
  refine (play_int 114 #[.pointer (some ⟨w.heap.size, 0, none⟩)] ((fastR [fb0, fb1, fb2] 0).bind fun _ => .ret 0) none 0 [] (some ⟨y1.heap.size + 1, 0, none⟩) 2 [0, 0] V2 (Ints.nil _) (by simp) hA (by decide) (fun k hk => by simp only [Value.ownBlock, Option.some.injEq] at hk; omega) (fun _ _ => rfl) (fun W p hxW hP => sal2 _ p _ w.heap.size W hP rfl (b1.ext hxW).cells)).mono ?_
  rintro e y2 ⟨v2, rfl, hO, hx2⟩
  have e1 : (((fastR [fb0, fb1, fb2] 0).bind fun _ => Prog.ret (0 : Int)).run (TS0 [] [0, 0])).1 = some 0 := by rfl
  have e2 : (((fastR [fb0, fb1, fb2] 0).bind fun _ => Prog.ret (0 : Int)).run (TS0 [] [0, 0])).2.acc.length = 2 := by rfl
  have e3 : (((fastR [fb0, fb1, fb2] 0).bind fun _ => Prog.ret (0 : Int)).run (TS0 [] [0, 0])).2.acc[0]? = some ⟨2, 1, 0⟩ := by rfl
  rw [e1] at hO ⊢
  generalize (((fastR [fb0, fb1, fb2] 0).bind fun _ => Prog.ret (0 : Int)).run (TS0 [] [0, 0])).2 = S2 at *
  obtain ⟨A2, c2, A2', c2', vs2, L2, rfl, hO⟩ := hO
  obtain ⟨As2, k2, hvs2, _, _⟩ := hO.locs.slice
  subst hvs2
  obtain ⟨u3, rfl, hu3, y30, y31, y32⟩ := hO.accs.at_ e3
  simp only [Nat.reduceMul, Nat.reduceAdd] at y30 y31 y32
  unfold outV
  rw [e2] at *
  simp only [Option.getD_some, Option.isSome_some]
  replace z20 := (hx2.cell (p := ⟨u2, 9, none⟩) hu2).trans z20
  replace z21 := (hx2.cell (p := ⟨u2, 10, none⟩) hu2).trans z21
  replace z22 := (hx2.cell (p := ⟨u2, 11, none⟩) hu2).trans z22
  replace hu2 := Nat.lt_of_lt_of_le hu2 hx2.size
  replace hX := hX.trans hx2
  replace n1 := n1.ext hx2
  have s4 := (Ext.refl y2).alloc (.cells #[.bool true, .slice (some ⟨u3, 0, none⟩) 2 c2, .slice A2' S2.nts.length c2', .slice As2 (shortL L2).length k2] 36)
  have n2 := Blk.new y2 (.cells #[.bool true, .slice (some ⟨u3, 0, none⟩) 2 c2, .slice A2' S2.nts.length c2', .slice As2 (shortL L2).length k2] 36)
  replace n1 := n1.alloc (.cells #[.bool true, .slice (some ⟨u3, 0, none⟩) 2 c2, .slice A2' S2.nts.length c2', .slice As2 (shortL L2).length k2] 36)
  replace hX := hX.alloc (.cells #[.bool true, .slice (some ⟨u3, 0, none⟩) 2 c2, .slice A2' S2.nts.length c2', .slice As2 (shortL L2).length k2] 36)
  replace z20 := (s4.cell (p := ⟨u2, 9, none⟩) hu2).trans z20
  replace z21 := (s4.cell (p := ⟨u2, 10, none⟩) hu2).trans z21
  replace z22 := (s4.cell (p := ⟨u2, 11, none⟩) hu2).trans z22
  replace y31 := (s4.cell (p := ⟨u3, 1, none⟩) hu3).trans y31
  clear e1 e2 e3 hO hx2 hA hsz s4 b1 y30 y32
  have c_n1 := n1.cells
  have c_n2 := n2.cells
  have hXh := Lib.hid hX
  clear n1 n2 hX
  go_wp2_with fail
  refine (fastwants_p 2 _ (by decide) (by decide)).mono ?_
  rintro e w3 ⟨v3, rfl, hw, hx⟩
  have hf := Lib.hid (hXh.out.trans hx)
  obtain ⟨A3, c3, rfl, -, -, -⟩ := hw
  rw [fastWants_len]
  clear hx hmf
  go_wp2_with fail
  go_ret
  exact ⟨rfl, hf.out⟩
end Go.Proofs.YtpcohbpeglledaaGreat
