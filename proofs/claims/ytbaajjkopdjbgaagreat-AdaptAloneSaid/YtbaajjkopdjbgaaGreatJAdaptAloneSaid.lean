/-
  AdaptAlone holds: whoever is alone is in by four accesses for its name and three for each level, and once more by those of the levels alone.
-/
import Derived.Test.YtbaajjkopdjbgaaGreatJAdaptAloneSaid5
import Derived.BigQuiet
import Derived.Deep.DeepCutAuto
import Derived.Deep.QuietTactic
import Derived.Deep.RegionHeld2
/-
  Trees of locks of two sides: none for what is no tree; what their registers tell.
-/
namespace Go.Proofs.YtbaajjkopdjbgaaGreat
open Go.RowKit Kv
theorem tree_all {E N : Nat} {mode b c : Int} {rs : List Reg} {m : Nat} (h : layM (treeWants E N) N mode b c = some rs) (hm : m < N) : ∀ r ∈ rs, r.ok ∧ (m : Int) < r.n ∧ r.told m := by
  intro r hr
  obtain ⟨h1, h2⟩ := laid_all h r hr
  refine ⟨h1, by omega, ?_⟩
  obtain ⟨⟨m1, m2, _⟩, _⟩ := layM_args h
  obtain ⟨i, hi⟩ := List.getElem?_of_mem hr
  have hil := (List.getElem?_eq_some_iff.1 hi).1
  have hlen := layM_len h
  have hwi : (treeWants E N)[i]? = some ⟨-1, 1⟩ := by
    unfold treeWants at *
    rw [List.length_replicate] at hlen
    rw [List.getElem?_replicate, if_pos (by omega)]
  obtain ⟨r', hr', hL⟩ := layM_at h hwi
  obtain rfl : r = r' := by rw [hi] at hr'; simpa using hr'
  by_cases hN : N = 1
  · subst hN
    unfold treeWants at hlen
    rw [List.length_replicate, show levels ((1 : Nat) : Int) = 0 from by decide] at hlen
    omega
  · exact laid_told hL ⟨m1, m2⟩ (by omega) (by decide) (by show (-1 : Int) ≠ m; omega)
theorem path_none_p (m place : Int) (w : World) (h : m < 1 ∨ 64 < m ∨ place < 0 ∨ m ≤ place) : Calls Tryz.prog 172 #[.int .i64 m, .int .i64 place] w fun e w' => e = .returned (.slice none 0 0) ∧ w = w' := by
  by_cases h1 : m < 1
  · have d1 : decide (m < 1) = true := by rw [decide_eq_true_eq]; exact h1
    clear h h1
    go_enter Tryz.func172, Tryz.ntmps172
    go_wp2_with fail
    go_ret
    exact ⟨rfl, rfl⟩
  · have d1 : decide (m < 1) = false := by rw [decide_eq_false_iff_not]; exact h1
    by_cases h2 : 64 < m
    · have d2 : decide (64 < m) = true := by rw [decide_eq_true_eq]; exact h2
      clear h h1 h2
      go_enter Tryz.func172, Tryz.ntmps172
      go_wp2_with fail
      go_ret
      exact ⟨rfl, rfl⟩
    · have d2 : decide (64 < m) = false := by rw [decide_eq_false_iff_not]; exact h2
      by_cases h3 : place < 0
      · have d3 : decide (place < 0) = true := by rw [decide_eq_true_eq]; exact h3
        clear h h1 h2 h3
        go_enter Tryz.func172, Tryz.ntmps172
        go_wp2_with fail
        go_ret
        exact ⟨rfl, rfl⟩
      · have d3 : decide (place < 0) = false := by rw [decide_eq_false_iff_not]; exact h3
        have d4 : decide (m ≤ place) = true := by rw [decide_eq_true_eq]; omega
        clear h h1 h2 h3
        go_enter Tryz.func172, Tryz.ntmps172
        go_wp2_with fail
        go_ret
        exact ⟨rfl, rfl⟩
theorem twants_none_p (kind m : Int) (w : World) (h : m < 1 ∨ 64 < m) : Calls Tryz.prog 175 #[.int .i64 kind, .int .i64 m] w fun e w' => e = .returned (.slice none 0 0) ∧ w = w' := by
  by_cases h1 : m < 1
  · have d1 : decide (m < 1) = true := by rw [decide_eq_true_eq]; exact h1
    clear h h1
    go_enter Tryz.func175, Tryz.ntmps175
    go_wp2_with fail
    go_ret
    exact ⟨rfl, rfl⟩
  · have d1 : decide (m < 1) = false := by rw [decide_eq_false_iff_not]; exact h1
    have d2 : decide (64 < m) = true := by rw [decide_eq_true_eq]; omega
    clear h h1
    go_enter Tryz.func175, Tryz.ntmps175
    go_wp2_with fail
    go_ret
    exact ⟨rfl, rfl⟩
end Go.Proofs.YtbaajjkopdjbgaaGreat
/-
  A lock that adapts, by the program: acquired and released.
-/
namespace Go.Proofs.YtbaajjkopdjbgaaGreat
open Go.RowKit Kv
theorem RegsAt.part {ix : List Nat} {p b : Nat} {w : World} {rs : List Reg} (h : RegsAt ix w p b rs) (n : Nat) : RegsAt ix w p b (rs.take n) := by
  refine ⟨h.1, h.2, fun i u hu => h.3 i u ?_⟩
  have : rs.flatMap regVals = (rs.take n).flatMap regVals ++ (rs.drop n).flatMap regVals := by rw [← List.flatMap_append, List.take_append_drop]
  rw [this, List.getElem?_append_left (List.getElem?_eq_some_iff.1 hu).1]
  exact hu
theorem climb_bad_p (p n c : Nat) (A : Option Addr) (m place me : Int) (w : World) (h : m < 1 ∨ 64 < m ∨ place < 0 ∨ m ≤ place) :
    Calls Tryz.prog 91 #[.pointer (some ⟨p, 0, none⟩), .slice A n c, .int .i64 6, .int .i64 m, .int .i64 place, .int .i64 me] w fun e w' => e = .returned (.tuple #[]) ∧ Ext w w' := by
  have hPth := fun w => path_none_p m place w h
  have hN := fun w => nodeOf_p 6 w
  rw [show nodeV 6 = .agg #[.func (.func 235) #[] #[], .func (.func 236) #[] #[], .func (.func 237) #[] #[]] from by unfold nodeV; rw [if_neg (by decide)]; rfl] at hN
  go_enter Tryz.func91, Tryz.ntmps91
  go_wp2_with fail
  refine (hN _).mono ?_
  rintro e w2 ⟨rfl, hx2⟩
  have hx3 := hx2.alloc (.cells #[.func (.func 235) #[] #[], .func (.func 236) #[] #[], .func (.func 237) #[] #[]] 147)
  clear hx2
  go_wp2_with fail
  generalize w2.alloc _ = W at *
  refine (hPth _).mono ?_
  rintro e w' ⟨rfl, rfl⟩
  go_wp2_with fail
  go_loopw [21] (fun i wr => i = .int .i64 0 ∧ Ext w wr) (fun _ _ => 0)
  case atStart => exact ⟨rfl, hx3⟩
  case round =>
    obtain ⟨rfl, hX⟩ := hrel
    clear hx3
    have hf := Lib.hid hX
    clear hX
    go_wp2_with fail
    first | go_end0 | refine bodyPost_ret (results_none rfl _ _ _) rfl ?_
    exact ⟨rfl, hf.out⟩
theorem down_bad_p (p n c : Nat) (A : Option Addr) (m place me : Int) (w : World) (h : m < 1 ∨ 64 < m ∨ place < 0 ∨ m ≤ place) :
    Calls Tryz.prog 94 #[.pointer (some ⟨p, 0, none⟩), .slice A n c, .int .i64 6, .int .i64 m, .int .i64 place, .int .i64 me] w fun e w' => e = .returned (.tuple #[]) ∧ Ext w w' := by
  have hPth := fun w => path_none_p m place w h
  have hN := fun w => nodeOf_p 6 w
  rw [show nodeV 6 = .agg #[.func (.func 235) #[] #[], .func (.func 236) #[] #[], .func (.func 237) #[] #[]] from by unfold nodeV; rw [if_neg (by decide)]; rfl] at hN
  go_enter Tryz.func94, Tryz.ntmps94
  go_wp2_with fail
  refine (hN _).mono ?_
  rintro e w2 ⟨rfl, hx2⟩
  have hx3 := hx2.alloc (.cells #[.func (.func 235) #[] #[], .func (.func 236) #[] #[], .func (.func 237) #[] #[]] 147)
  clear hx2
  go_wp2_with fail
  generalize w2.alloc _ = W at *
  refine (hPth _).mono ?_
  rintro e w' ⟨rfl, rfl⟩
  go_wp2_with fail
  refine (reverse_p (Ext.refl W) (IntRow.nil _ _) (by simp)).mono ?_
  rintro e w4 ⟨rfl, hx4, _⟩
  replace hx3 := hx3.trans hx4
  clear hx4
  go_wp2_with fail
  go_loopw [25] (fun i wr => i = .int .i64 0 ∧ Ext w wr) (fun _ _ => 0)
  case atStart => exact ⟨rfl, hx3⟩
  case round =>
    obtain ⟨rfl, hX⟩ := hrel
    clear hx3
    have hf := Lib.hid hX
    clear hX
    go_wp2_with fail
    first | go_end0 | refine bodyPost_ret (results_none rfl _ _ _) rfl ?_
    exact ⟨rfl, hf.out⟩
theorem adclimb_p (B p D : Nat) (S : TS) (M : Nat) (name me : Int) (rs : List Reg) (o : Nat) (A : Option Addr) (c : Nat) (w : World) (h : Plays B w p S) (h1 : 1 ≤ M) (h2 : M ≤ 64) (hlen : (rs.drop o).length = 3 * (2 ^ levels M - 1)) (hc1 : (rs.drop o).length ≤ c) (hc2 : c ≤ 9223372036854775807)
    (hreg : rs.drop o ≠ [] → ∃ b, A = some ⟨b, o * 7, none⟩ ∧ RegsAt [2, 3, 4] w p b rs) (hall : ∀ r ∈ rs.drop o, r.ok ∧ me < r.n ∧ r.told me) (hm0 : 0 ≤ me) (hD : S.left < D) :
    Calls Tryz.prog 91 #[.pointer (some ⟨p, 0, none⟩), .slice A (rs.drop o).length c, .int .i64 6, .int .i64 M, .int .i64 name, .int .i64 me] w (Post encU B p w ((adClimb D (rs.drop o) M me name).run S)) := by
  generalize hR : Post encU B p w ((adClimb D (rs.drop o) M me name).run S) = R
  have hO : Owes R encU B p w ((adClimb D (rs.drop o) M me name).run S) := hR ▸ owes _ _ _ _ _
  clear hR
  unfold adClimb at hO
  by_cases hv : 0 ≤ name ∧ name < M
  · rw [if_pos hv] at hO
    obtain ⟨k, rfl⟩ := Int.eq_ofNat_of_zero_le hv.1
    rw [Int.toNat_natCast] at hO
    refine tlast hO (Keep.refl [2, 3, 4] B p w) (climb_o3 B p D S 6 M k me rs (rs.drop o) o rfl A c w h (by decide) h1 h2 (by omega) hlen hc1 hc2 hreg hall hm0 hD) (fun _ h => h) ?_
    intro u S1 w1 _ hP _ hK hO
    exact hO.done hP hK
  · rw [if_neg hv] at hO
    refine (climb_bad_p p _ c A M name me w (by omega)).mono ?_
    rintro e w1 ⟨rfl, hx⟩
    exact hO.done (v := ()) (h.ext hx) (Keep.of_ext hx h.lt h.le)
theorem addown_p (B p : Nat) (S : TS) (M : Nat) (name me : Int) (rs : List Reg) (o : Nat) (A : Option Addr) (c : Nat) (w : World) (h : Plays B w p S) (h1 : 1 ≤ M) (h2 : M ≤ 64) (hlen : (rs.drop o).length = 3 * (2 ^ levels M - 1)) (hc1 : (rs.drop o).length ≤ c) (hc2 : c ≤ 9223372036854775807)
    (hreg : rs.drop o ≠ [] → ∃ b, A = some ⟨b, o * 7, none⟩ ∧ RegsAt [2, 3, 4] w p b rs) (hall : ∀ r ∈ rs.drop o, r.ok ∧ me < r.n ∧ r.told me) (hm0 : 0 ≤ me) :
    Calls Tryz.prog 94 #[.pointer (some ⟨p, 0, none⟩), .slice A (rs.drop o).length c, .int .i64 6, .int .i64 M, .int .i64 name, .int .i64 me] w (Post encU B p w ((adDown (rs.drop o) M me name).run S)) := by
  generalize hR : Post encU B p w ((adDown (rs.drop o) M me name).run S) = R
  have hO : Owes R encU B p w ((adDown (rs.drop o) M me name).run S) := hR ▸ owes _ _ _ _ _
  clear hR
  unfold adDown at hO
  by_cases hv : 0 ≤ name ∧ name < M
  · rw [if_pos hv] at hO
    obtain ⟨k, rfl⟩ := Int.eq_ofNat_of_zero_le hv.1
    rw [Int.toNat_natCast] at hO
    refine tlast hO (Keep.refl [2, 3, 4] B p w) (down_o3 B p S 6 M k me rs (rs.drop o) o rfl A c w h (by decide) h1 h2 (by omega) hlen hc1 hc2 hreg hall hm0) (fun _ h => h) ?_
    intro u S1 w1 _ hP _ hK hO
    exact hO.done hP hK
  · rw [if_neg hv] at hO
    refine (down_bad_p p _ c A M name me w (by omega)).mono ?_
    rintro e w1 ⟨rfl, hx⟩
    exact hO.done (v := ()) (h.ext hx) (Keep.of_ext hx h.lt h.le)
set_option maxRecDepth 100000 in
set_option maxHeartbeats 1000000 in
theorem adacq_p (B p N D : Nat) (S : TS) (alg mode base loc room : Int) (m : Nat) (rs : List Reg) (w : World) (h : Plays B w p S) (h1 : 1 ≤ N) (h2 : N ≤ 8) (hm1 : m < N) (hl : layM (adWants N) N mode base loc = some rs) (hlc : 0 ≤ loc ∧ loc ≤ 32768)
    (hall : ∀ r ∈ rs, r.ok ∧ r.n = N) (htold : ∀ r ∈ rs.drop (2 * triN N), r.told m) (hD : S.left < D) (hn0 : S.nts.length ≤ 100000) :
    Calls Tryz.prog 15 #[.pointer (some ⟨p, 0, none⟩), .agg #[.int .i64 alg, .int .i64 N, .int .i64 mode, .int .i64 base, .int .i64 loc, .int .i64 room], .int .i64 m] w (Post encI B p w ((adA D rs (loc + sumL rs) N m).run S)) := by
  have hlen := layM_len hl
  rw [adWants_len] at hlen
  obtain ⟨q1, q2⟩ := triN_le h1 h2
  have ht := adTree_le h1 h2
  generalize hR : Post encI B p w ((adA D rs (loc + sumL rs) N m).run S) = R
  have hO : Owes R encI B p w ((adA D rs (loc + sumL rs) N m).run S) := hR ▸ owes _ _ _ _ _
  clear hR
  have hK := Keep.refl [2, 3, 4] B p w
  have hP := h
  have b1 := hP.held (.cells #[.int .i64 alg, .int .i64 N, .int .i64 mode, .int .i64 base, .int .i64 loc, .int .i64 room] 23)
  replace hK := hK.trans (Keep.alloc (.cells #[.int .i64 alg, .int .i64 N, .int .i64 mode, .int .i64 base, .int .i64 loc, .int .i64 room] 23) hP.lt hP.le)
  replace hP := hP.alloc (.cells #[.int .i64 alg, .int .i64 N, .int .i64 mode, .int .i64 base, .int .i64 loc, .int .i64 room] 23)
  have c_b1 := b1.cells
  clear h
  unfold adA at hO
  have hlay := fun w => adlay_p alg mode base loc room m N rs w h1 h2 hl hlc (by omega) (by omega)
  have hS := fun w => gsize_p N (by omega) w
  have hdl : (rs.drop (2 * triN N)).length = 3 * (2 ^ levels (triN N : Nat) - 1) := by rw [List.length_drop]; omega
  have hdl2 : rs.length - 2 * triN N = (rs.drop (2 * triN N)).length := by rw [List.length_drop]
  have htk : (rs.take (2 * triN N)).length = 2 * triN N := by rw [List.length_take]; omega
  have hdall : ∀ r ∈ rs.drop (2 * triN N), r.ok ∧ (m : Int) < r.n ∧ r.told m := fun r hr => by
    have q := hall r (List.mem_of_mem_drop hr)
    refine ⟨q.1, by rw [q.2]; omega, htold r hr⟩
  have htall : ∀ r ∈ rs.take (2 * triN N), r.ok ∧ r.n = N := fun r hr => hall r (List.mem_of_mem_take hr)
  have hdlh := Lib.hid (And.intro hdl (And.intro hdl2 (And.intro htk (And.intro hdall htall))))
  clear hlen ht hdl hdl2 htk hdall htall hl hall htold
  have hOh := Lib.hid hO
  clear hO
  go_enter Tryz.func15, Tryz.ntmps15
  go_wp2_with fail
  refine (hlay _).mono ?_
  rintro e w1 ⟨b, A, c2, rfl, hA, qc1, qc2, hge, hb, hcells, hx⟩
  have hreg : RegsAt [2, 3, 4] w1 p b rs := ⟨hb, hP.fresh hx hge, hcells⟩
  replace hK := hK.trans (Keep.of_ext hx hP.lt hP.le)
  replace b1 := b1.ext hx hP.lt
  replace hP := hP.ext hx
  clear hx hcells hge hb c_b1 hlay
  have hqch := Lib.hid (And.intro hA (And.intro qc1 qc2))
  clear hA qc1 qc2
  generalize w.heap.size = z at *
  have c_b1 := b1.cells
  go_wp2_with fail
  have hreg2 := hreg.extL ((Ext.refl w1).alloc (.cells #[.slice (some ⟨b, 0, none⟩) (2 * triN N) (2 * triN N), .slice A (rs.length - 2 * triN N) c2, .int .i64 (loc + sumL rs)] 96)) hP.lt
  clear hreg
  have hreg := hreg2
  clear hreg2
  have b2 := hP.held (.cells #[.slice (some ⟨b, 0, none⟩) (2 * triN N) (2 * triN N), .slice A (rs.length - 2 * triN N) c2, .int .i64 (loc + sumL rs)] 96)
  clear c_b1
  replace b1 := b1.alloc (.cells #[.slice (some ⟨b, 0, none⟩) (2 * triN N) (2 * triN N), .slice A (rs.length - 2 * triN N) c2, .int .i64 (loc + sumL rs)] 96) hP.lt
  replace hK := hK.trans (Keep.alloc (.cells #[.slice (some ⟨b, 0, none⟩) (2 * triN N) (2 * triN N), .slice A (rs.length - 2 * triN N) c2, .int .i64 (loc + sumL rs)] 96) hP.lt hP.le)
  replace hP := hP.alloc (.cells #[.slice (some ⟨b, 0, none⟩) (2 * triN N) (2 * triN N), .slice A (rs.length - 2 * triN N) c2, .int .i64 (loc + sumL rs)] 96)
  have c_b1 := b1.cells
  have c_b2 := b2.cells
  generalize w1.heap.size = y at *
  generalize w1.alloc _ = W1 at *
  go_wp2_with fail
  refine tstepN (notes_nt 1) hOh.out hK (noteO hP (by unfold maxAns; omega)) (fun _ h => ⟨rfl, h⟩) ?_
  clear hOh hK hP
  intro u S1 wn hlf _ hnn hP hk hK hO
  replace hD := Nat.lt_of_le_of_lt hlf hD
  replace hn0 : S1.nts.length ≤ 100001 := by omega
  replace b1 := b1.keep hk
  replace b2 := b2.keep hk
  replace hreg := hreg.keep hk
  clear hk hnn hlf c_b1 c_b2
  have hOh := Lib.hid hO
  clear hO
  have c_b1 := b1.cells
  have c_b2 := b2.cells
  go_wp2_with fail
  clear c_b1 c_b2
  have hgn := getname_p B p N S1 (rs.take (2 * triN N)) (loc + sumL rs) m b 0 _ hP (hreg.part _) hdlh.out.2.2.1 hdlh.out.2.2.2.2 h1 h2 hm1 (by omega)
  rw [hdlh.out.2.2.1, Nat.zero_add] at hgn
  refine tstepN (notes_getM _ _ _ _) hOh.out hK hgn (fun _ h => ⟨rfl, h⟩) ?_
  clear hOh hK hP hgn
  intro name S2 wn hlf _ hnn hP hk hK hO
  replace hD := Nat.lt_of_le_of_lt hlf hD
  replace hn0 : S2.nts.length ≤ 100001 := by omega
  replace b1 := b1.keep hk
  replace b2 := b2.keep hk
  replace hreg := hreg.keep hk
  clear hk hnn hlf
  go_wp2_with fail
  replace hP := hP.drew
  replace hK := hK.drew
  replace b1 := b1.drew
  replace b2 := b2.drew
  replace hreg := hreg.extL (Ext.refl _).drew hP.lt
  have c_b1 := b1.cells
  have c_b2 := b2.cells
  go_region_held2 (fun w' => (∀ i : Nat, w'.cell? ⟨z, i, none⟩ = (#[.int .i64 alg, .int .i64 N, .int .i64 mode, .int .i64 base, .int .i64 loc, .int .i64 room] : Array Value)[i]?) ∧ (∀ i : Nat, w'.cell? ⟨y, i, none⟩ = (#[.slice (some ⟨b, 0, none⟩) (2 * triN N) (2 * triN N), .slice A (rs.length - 2 * triN N) c2, .int .i64 (loc + sumL rs)] : Array Value)[i]?)) (first | with_reducible exact ⟨c_b1, c_b2⟩ | go_keep)
    (first
      | (go_at_call 92
         refine (hS _).mono ?_
         rintro e w' ⟨rfl, rfl⟩)
      | (go_at_call 91
         rw [hdlh.out.2.1]
         refine tstepN (notes_adClimb _ _ _ _ _) hO hK (adclimb_p B p D S2 (triN N) name m rs (2 * triN N) A c2 _ hP q1 (by omega) hdlh.out.1 (by rw [← hdlh.out.2.1]; exact hqch.out.2.1) hqch.out.2.2 (fun hne => ⟨b, hqch.out.1 (fun he => hne (List.eq_nil_of_length_eq_zero (by rw [← hdlh.out.2.1, he]; omega))), hreg⟩) hdlh.out.2.2.2.1 (by omega) hD) (fun _ h => ⟨rfl, h⟩) ?_
         clear hO hK hP c_b1 c_b2
         intro u S3 w3 hlf _ hnn hP hk hK hO
         replace hn0 : S3.nts.length ≤ 100001 := by omega
         replace b1 := b1.keep hk
         replace b2 := b2.keep hk
         have c_b1 := b1.cells
         have c_b2 := b2.cells
         clear hk hnn hlf hreg))
  have hOh := Lib.hid hO
  clear hO c_b1 c_b2
  go_wp2_with fail
  refine tstepN (notes_nt 3) hOh.out hK (noteO hP (by unfold maxAns; omega)) (fun _ h => ⟨rfl, h⟩) ?_
  clear hOh hK hP
  intro u S9 w9 _ _ _ hP _ hK hO
  have hf := hO.done (v := (0 : Int)) hP hK
  clear hO hP hK
  go_wp2_with fail
  first | exact hf | (go_ret; exact hf)
set_option maxRecDepth 100000 in
set_option maxHeartbeats 1000000 in
theorem adrel_p (B p N : Nat) (S : TS) (alg mode base loc room : Int) (m : Nat) (rs : List Reg) (w : World) (h : Plays B w p S) (h1 : 1 ≤ N) (h2 : N ≤ 8) (hm1 : m < N) (hl : layM (adWants N) N mode base loc = some rs) (hlc : 0 ≤ loc ∧ loc ≤ 32768)
    (hall : ∀ r ∈ rs, r.ok ∧ r.n = N) (htold : ∀ r ∈ rs.drop (2 * triN N), r.told m) (hn0 : S.nts.length ≤ 100000) :
    Calls Tryz.prog 19 #[.pointer (some ⟨p, 0, none⟩), .agg #[.int .i64 alg, .int .i64 N, .int .i64 mode, .int .i64 base, .int .i64 loc, .int .i64 room], .int .i64 m] w (Post encU B p w ((adR rs (loc + sumL rs) N m).run S)) := by
  have hlen := layM_len hl
  rw [adWants_len] at hlen
  obtain ⟨q1, q2⟩ := triN_le h1 h2
  have ht := adTree_le h1 h2
  generalize hR : Post encU B p w ((adR rs (loc + sumL rs) N m).run S) = R
  have hO : Owes R encU B p w ((adR rs (loc + sumL rs) N m).run S) := hR ▸ owes _ _ _ _ _
  clear hR
  have hK := Keep.refl [2, 3, 4] B p w
  have hP := h
  have b1 := hP.held (.cells #[.int .i64 alg, .int .i64 N, .int .i64 mode, .int .i64 base, .int .i64 loc, .int .i64 room] 23)
  replace hK := hK.trans (Keep.alloc (.cells #[.int .i64 alg, .int .i64 N, .int .i64 mode, .int .i64 base, .int .i64 loc, .int .i64 room] 23) hP.lt hP.le)
  replace hP := hP.alloc (.cells #[.int .i64 alg, .int .i64 N, .int .i64 mode, .int .i64 base, .int .i64 loc, .int .i64 room] 23)
  have c_b1 := b1.cells
  clear h
  unfold adR at hO
  have hlay := fun w => adlay_p alg mode base loc room m N rs w h1 h2 hl hlc (by omega) (by omega)
  have hS := fun w => gsize_p N (by omega) w
  have hdl : (rs.drop (2 * triN N)).length = 3 * (2 ^ levels (triN N : Nat) - 1) := by rw [List.length_drop]; omega
  have hdl2 : rs.length - 2 * triN N = (rs.drop (2 * triN N)).length := by rw [List.length_drop]
  have htk : (rs.take (2 * triN N)).length = 2 * triN N := by rw [List.length_take]; omega
  have hdall : ∀ r ∈ rs.drop (2 * triN N), r.ok ∧ (m : Int) < r.n ∧ r.told m := fun r hr => by
    have q := hall r (List.mem_of_mem_drop hr)
    refine ⟨q.1, by rw [q.2]; omega, htold r hr⟩
  have htall : ∀ r ∈ rs.take (2 * triN N), r.ok ∧ r.n = N := fun r hr => hall r (List.mem_of_mem_take hr)
  have hdlh := Lib.hid (And.intro hdl (And.intro hdl2 (And.intro htk (And.intro hdall htall))))
  clear hlen ht hdl hdl2 htk hdall htall hl hall htold
  have hOh := Lib.hid hO
  clear hO
  go_enter Tryz.func19, Tryz.ntmps19
  go_wp2_with fail
  refine (hlay _).mono ?_
  rintro e w1 ⟨b, A, c2, rfl, hA, qc1, qc2, hge, hb, hcells, hx⟩
  have hreg : RegsAt [2, 3, 4] w1 p b rs := ⟨hb, hP.fresh hx hge, hcells⟩
  replace hK := hK.trans (Keep.of_ext hx hP.lt hP.le)
  replace b1 := b1.ext hx hP.lt
  replace hP := hP.ext hx
  clear hx hcells hge hb c_b1 hlay
  have hqch := Lib.hid (And.intro hA (And.intro qc1 qc2))
  clear hA qc1 qc2
  generalize w.heap.size = z at *
  have c_b1 := b1.cells
  go_wp2_with fail
  have hreg2 := hreg.extL ((Ext.refl w1).alloc (.cells #[.slice (some ⟨b, 0, none⟩) (2 * triN N) (2 * triN N), .slice A (rs.length - 2 * triN N) c2, .int .i64 (loc + sumL rs)] 96)) hP.lt
  clear hreg
  have hreg := hreg2
  clear hreg2
  have b2 := hP.held (.cells #[.slice (some ⟨b, 0, none⟩) (2 * triN N) (2 * triN N), .slice A (rs.length - 2 * triN N) c2, .int .i64 (loc + sumL rs)] 96)
  clear c_b1
  replace b1 := b1.alloc (.cells #[.slice (some ⟨b, 0, none⟩) (2 * triN N) (2 * triN N), .slice A (rs.length - 2 * triN N) c2, .int .i64 (loc + sumL rs)] 96) hP.lt
  replace hK := hK.trans (Keep.alloc (.cells #[.slice (some ⟨b, 0, none⟩) (2 * triN N) (2 * triN N), .slice A (rs.length - 2 * triN N) c2, .int .i64 (loc + sumL rs)] 96) hP.lt hP.le)
  replace hP := hP.alloc (.cells #[.slice (some ⟨b, 0, none⟩) (2 * triN N) (2 * triN N), .slice A (rs.length - 2 * triN N) c2, .int .i64 (loc + sumL rs)] 96)
  have c_b1 := b1.cells
  have c_b2 := b2.cells
  generalize w1.heap.size = y at *
  generalize w1.alloc _ = W1 at *
  go_wp2_with fail
  refine tstepN (notes_nt 5) hOh.out hK (noteO hP (by unfold maxAns; omega)) (fun _ h => ⟨rfl, h⟩) ?_
  clear hOh hK hP
  intro u S1 wn _ _ _ hP hk hK hO
  replace b1 := b1.keep hk
  replace b2 := b2.keep hk
  replace hreg := hreg.keep hk
  clear hk c_b1 c_b2
  rw [run_gt] at hO
  obtain ⟨had, hhad⟩ : ∃ x, S1.got (loc + sumL rs) = x := ⟨_, rfl⟩
  rw [hhad] at hO
  obtain ⟨name, hname⟩ : ∃ x, wrap64 (had - 1) = x := ⟨_, rfl⟩
  rw [hname] at hO
  go_wp2_with fail
  replace hP := hP.drew
  replace hK := hK.drew
  replace b1 := b1.drew
  replace b2 := b2.drew
  replace hreg := hreg.extL (Ext.refl _).drew hP.lt
  have c_b1 := b1.cells
  have c_b2 := b2.cells
  have hw1 : IntKind.i64.wrap (had - 1) = name := by rw [← hname, IntKind.wrap_i64]; first | rfl | (unfold wrap64; omega)
  go_region_held2 (fun w' => (∀ i : Nat, w'.cell? ⟨z, i, none⟩ = (#[.int .i64 alg, .int .i64 N, .int .i64 mode, .int .i64 base, .int .i64 loc, .int .i64 room] : Array Value)[i]?) ∧ (∀ i : Nat, w'.cell? ⟨y, i, none⟩ = (#[.slice (some ⟨b, 0, none⟩) (2 * triN N) (2 * triN N), .slice A (rs.length - 2 * triN N) c2, .int .i64 (loc + sumL rs)] : Array Value)[i]?)) (first | with_reducible exact ⟨c_b1, c_b2⟩ | go_keep)
    (first
      | (go_at_call 92
         refine (hS _).mono ?_
         rintro e w' ⟨rfl, rfl⟩)
      | (go_at_call 95
         refine (get_p B p S1 (loc + sumL rs) _ hP).mono ?_
         rintro e w' ⟨rfl, rfl⟩
         rw [hhad])
      | (go_at_call 94
         rw [hdlh.out.2.1]
         refine tlast hO hK (addown_p B p S1 (triN N) name m rs (2 * triN N) A c2 _ hP q1 (by omega) hdlh.out.1 (by rw [← hdlh.out.2.1]; exact hqch.out.2.1) hqch.out.2.2 (fun hne => ⟨b, hqch.out.1 (fun he => hne (List.eq_nil_of_length_eq_zero (by rw [← hdlh.out.2.1, he]; omega))), hreg⟩) hdlh.out.2.2.2.1 (by omega)) (fun _ h => ⟨rfl, h⟩) ?_
         clear hO hK hP c_b1 c_b2
         intro u S3 w3 hr hP hk hK hO
         replace b1 := b1.keep hk
         replace b2 := b2.keep hk
         have c_b1 := b1.cells
         have c_b2 := b2.cells
         clear hk hr hreg))
  have hf := hO.done hP hK
  clear hO hP hK c_b1 c_b2
  go_wp2_with fail
  first | exact hf | go_end0 | (refine bodyPost_ret (results_none rfl _ _ _) rfl ?_)
  all_goals exact hf
end Go.Proofs.YtbaajjkopdjbgaaGreat
/-
  AdaptAlone: what it plays, and the chapter's example.
-/
namespace Go.Proofs.YtbaajjkopdjbgaaGreat
open Go.RowKit Kv
/-- Noughts appended behind a row that was just laid, as the walk lays them. -/
theorem ints_zeros (W : World) (l : List Int) (m need cap n : Nat) (e : Array Value) (he : e = (l.map (Value.int .i64)).toArray) (hn : W.heap.size = n) (hl : l.length + m = need) (hc : need ≤ cap) (hc2 : cap ≤ 9223372036854775807) :
    Ints ((W.alloc (.cells (e ++ (Builtin.zeroCells #[.int .i64 0] m ++ Builtin.zeroCells #[.int .i64 0] (cap - need))) 3)).drew) (.slice (some ⟨n, 0, none⟩) need cap) (l ++ zeros m) := by
  subst he hn hl
  have hz : (zeros m).length = m := by simp [zeros]
  refine ⟨_, cap, by rw [List.length_append, hz], by rw [List.length_append, hz]; exact hc, hc2, fun _ => ⟨W.heap.size, 0, rfl, by simp [World.drew], fun i x hi => ?_⟩⟩
  have hc := cell_of_heap (heap_alloc_new W (.cells ((l.map (Value.int .i64)).toArray ++ (Builtin.zeroCells #[.int .i64 0] m ++ Builtin.zeroCells #[.int .i64 0] (cap - (l.length + m)))) 3)) i
  rw [Nat.zero_add]
  refine hc.trans ?_
  rw [zeroCells_one, ← Array.append_assoc, show (l.map (Value.int .i64)).toArray ++ (List.replicate m (Value.int .i64 0)).toArray = ((l ++ zeros m).map (Value.int .i64)).toArray from by simp [zeros]]
  have hil := (List.getElem?_eq_some_iff.1 hi).1
  rw [Array.getElem?_append_left (by simpa using hil), List.getElem?_toArray, List.getElem?_map, hi]
  rfl
theorem Ints.drop {w : World} {A : Nat} {n c k : Nat} {l : List Int} (h : Ints w (.slice (some ⟨A, 0, none⟩) n c) l) (hk : k < n) : Ints w (.slice (some ⟨A, k, none⟩) (n - k) (c - k)) (l.drop k) := by
  obtain ⟨A', c', he, h1, h2, h3⟩ := h
  injection he with e1 e2 e3
  subst e1 e2 e3
  refine ⟨some ⟨A, k, none⟩, c - k, by rw [List.length_drop], by rw [List.length_drop]; omega, by omega, fun _ => ?_⟩
  obtain ⟨b, off, he, hb, hc⟩ := h3 (by rintro rfl; simp at hk)
  injection he with he
  injection he with e1 e2
  subst e1 e2
  refine ⟨A, k, rfl, hb, fun i x hi => ?_⟩
  rw [List.getElem?_drop] at hi
  have := hc (k + i) x hi
  rwa [Nat.zero_add] at this
theorem natA_tm (N : Nat) (me : Int) : ∀ r ∈ (natA N).drop (2 * triN N), r.told me := by
  intro r hr
  exact .inl (natA_kind r (List.mem_of_mem_drop hr))
theorem adal1 (B p : Nat) (S : TS) (N m : Nat) (bk bt : Nat) (w : World) (h : Plays B w p S) (h1 : 1 ≤ N) (h2 : N ≤ 8) (hm : m < N) (hD : S.left < 65) (hn0 : S.nts.length ≤ 100000)
    (c1 : ∀ i, w.cell? ⟨bk, i, none⟩ = (#[.int .i64 8, .int .i64 N, .int .i64 1, .int .i64 0, .int .i64 0, .int .i64 0] : Array Value)[i]?) (c2 : w.cell? ⟨bt, 0, none⟩ = some (.int .i64 m)) :
    Calls Tryz.prog 14 #[.pointer (some ⟨p, 0, none⟩), .pointer (some ⟨bk, 0, none⟩), .pointer (some ⟨bt, 0, none⟩)] w (Post encI B p w ((adA 65 (natA N) 0 N m).run S)) := by
  have hl := natA_lay (N := N) h1 h2
  have hq : Calls Tryz.prog 15 #[.pointer (some ⟨p, 0, none⟩), .agg #[.int .i64 8, .int .i64 N, .int .i64 1, .int .i64 0, .int .i64 0, .int .i64 0], .int .i64 m] w (Post encI B p w ((adA 65 (natA N) 0 N m).run S)) := by
    have := adacq_p B p N 65 S 8 1 0 0 0 m (natA N) w h h1 h2 hm hl (by decide) (laid_all hl) (natA_tm _ _) hD hn0
    rw [natA_sum] at this
    exact this
  generalize hR : Post encI B p w ((adA 65 (natA N) 0 N m).run S) = R
  have hO : Owes R encI B p w ((adA 65 (natA N) 0 N m).run S) := hR ▸ owes _ _ _ _ _
  clear hR
  have hK := Keep.refl [2, 3, 4] B p w
  clear hl
  go_enter Tryz.func14, Tryz.ntmps14
  go_wp2_with fail
  clear c1 c2
  refine tlast hO hK hq (fun _ h => ⟨rfl, h⟩) ?_
  intro v S1 w1 hr hP1 hk1 hK1 hO1
  have hf := hO1.done hP1 hK1
  clear hO1 hP1 hK1 hr hk1 hO h hK hq
  go_wp2_with fail
  first | exact hf | (go_ret; exact hf)
theorem adal2 (B p : Nat) (S : TS) (N m : Nat) (bk bt : Nat) (w : World) (h : Plays B w p S) (h1 : 1 ≤ N) (h2 : N ≤ 8) (hm : m < N) (hD : S.left < 65) (hn0 : S.nts.length ≤ 100000)
    (c1 : ∀ i, w.cell? ⟨bk, i, none⟩ = (#[.int .i64 8, .int .i64 N, .int .i64 1, .int .i64 0, .int .i64 0, .int .i64 0] : Array Value)[i]?) (c2 : w.cell? ⟨bt, 0, none⟩ = some (.int .i64 m)) :
    Calls Tryz.prog 16 #[.pointer (some ⟨p, 0, none⟩), .pointer (some ⟨bk, 0, none⟩), .pointer (some ⟨bt, 0, none⟩)] w (Post encI B p w ((adA 65 (natA N) 0 N m).run S)) := by
  have hl := natA_lay (N := N) h1 h2
  have hq : Calls Tryz.prog 15 #[.pointer (some ⟨p, 0, none⟩), .agg #[.int .i64 8, .int .i64 N, .int .i64 1, .int .i64 0, .int .i64 0, .int .i64 0], .int .i64 m] w (Post encI B p w ((adA 65 (natA N) 0 N m).run S)) := by
    have := adacq_p B p N 65 S 8 1 0 0 0 m (natA N) w h h1 h2 hm hl (by decide) (laid_all hl) (natA_tm _ _) hD hn0
    rw [natA_sum] at this
    exact this
  generalize hR : Post encI B p w ((adA 65 (natA N) 0 N m).run S) = R
  have hO : Owes R encI B p w ((adA 65 (natA N) 0 N m).run S) := hR ▸ owes _ _ _ _ _
  clear hR
  have hK := Keep.refl [2, 3, 4] B p w
  clear hl
  go_enter Tryz.func16, Tryz.ntmps16
  go_wp2_with fail
  clear c1 c2
  refine tlast hO hK hq (fun _ h => ⟨rfl, h⟩) ?_
  intro v S1 w1 hr hP1 hk1 hK1 hO1
  have hf := hO1.done hP1 hK1
  clear hO1 hP1 hK1 hr hk1 hO h hK hq
  go_wp2_with fail
  first | exact hf | (go_ret; exact hf)
theorem adal3 (B p : Nat) (S : TS) (N m : Nat) (bk bt : Nat) (w : World) (h : Plays B w p S) (h1 : 1 ≤ N) (h2 : N ≤ 8) (hm : m < N) (hn0 : S.nts.length ≤ 100000)
    (c1 : ∀ i, w.cell? ⟨bk, i, none⟩ = (#[.int .i64 8, .int .i64 N, .int .i64 1, .int .i64 0, .int .i64 0, .int .i64 0] : Array Value)[i]?) (c2 : w.cell? ⟨bt, 0, none⟩ = some (.int .i64 m)) :
    Calls Tryz.prog 18 #[.pointer (some ⟨p, 0, none⟩), .pointer (some ⟨bk, 0, none⟩), .pointer (some ⟨bt, 0, none⟩)] w (Post encI B p w (((adR (natA N) 0 N m).bind fun _ => .ret 0).run S)) := by
  have hl := natA_lay (N := N) h1 h2
  have hq : Calls Tryz.prog 19 #[.pointer (some ⟨p, 0, none⟩), .agg #[.int .i64 8, .int .i64 N, .int .i64 1, .int .i64 0, .int .i64 0, .int .i64 0], .int .i64 m] w (Post encU B p w ((adR (natA N) 0 N m).run S)) := by
    have := adrel_p B p N S 8 1 0 0 0 m (natA N) w h h1 h2 hm hl (by decide) (laid_all hl) (natA_tm _ _) hn0
    rw [natA_sum] at this
    exact this
  generalize hR : Post encI B p w (((adR (natA N) 0 N m).bind fun _ => .ret 0).run S) = R
  have hO : Owes R encI B p w (((adR (natA N) 0 N m).bind fun _ => .ret 0).run S) := hR ▸ owes _ _ _ _ _
  clear hR
  have hK := Keep.refl [2, 3, 4] B p w
  clear hl
  go_enter Tryz.func18, Tryz.ntmps18
  go_wp2_with fail
  clear c1 c2
  refine tstep hO hK hq (fun _ h => ⟨rfl, h⟩) ?_
  intro v S1 w1 hr hP1 hk1 hK1 hO1
  have hf := hO1.done (v := (0 : Int)) hP1 hK1
  clear hO1 hP1 hK1 hr hk1 hO h hK hq
  go_wp2_with fail
  first | exact hf | (go_ret; exact hf)
theorem adv1 (B p : Nat) (S : TS) (bk : Nat) (w : World) (h : Plays B w p S) (hD : S.left < 65) (hn0 : S.nts.length ≤ 100000)
    (c1 : ∀ i, w.cell? ⟨bk, i, none⟩ = (#[.int .i64 8, .int .i64 1, .int .i64 1, .int .i64 0, .int .i64 0, .int .i64 0] : Array Value)[i]?) :
    Calls Tryz.prog 96 #[.pointer (some ⟨p, 0, none⟩), .pointer (some ⟨bk, 0, none⟩)] w (Post encI B p w ((adA 65 (natA 1) 0 1 0).run S)) := by
  have hl := natA_lay (N := 1) (by decide) (by decide)
  have hq : Calls Tryz.prog 15 #[.pointer (some ⟨p, 0, none⟩), .agg #[.int .i64 8, .int .i64 1, .int .i64 1, .int .i64 0, .int .i64 0, .int .i64 0], .int .i64 0] w (Post encI B p w ((adA 65 (natA 1) 0 1 0).run S)) := by
    have := adacq_p B p 1 65 S 8 1 0 0 0 0 (natA 1) w h (by decide) (by decide) (by decide) hl (by decide) (laid_all hl) (natA_tm _ _) hD hn0
    rw [natA_sum] at this
    exact this
  generalize hR : Post encI B p w ((adA 65 (natA 1) 0 1 0).run S) = R
  have hO : Owes R encI B p w ((adA 65 (natA 1) 0 1 0).run S) := hR ▸ owes _ _ _ _ _
  clear hR
  have hK := Keep.refl [2, 3, 4] B p w
  clear hl
  go_enter Tryz.func96, Tryz.ntmps96
  go_wp2_with fail
  clear c1
  refine tlast hO hK hq (fun _ h => ⟨rfl, h⟩) ?_
  intro v S1 w1 hr hP1 hk1 hK1 hO1
  have hf := hO1.done hP1 hK1
  clear hO1 hP1 hK1 hr hk1 hO h hK hq
  go_wp2_with fail
  first | exact hf | (go_ret; exact hf)
theorem adv2 (B p : Nat) (S : TS) (bk : Nat) (w : World) (h : Plays B w p S) (hD : S.left < 65) (hn0 : S.nts.length ≤ 100000)
    (c1 : ∀ i, w.cell? ⟨bk, i, none⟩ = (#[.int .i64 8, .int .i64 2, .int .i64 1, .int .i64 0, .int .i64 0, .int .i64 0] : Array Value)[i]?) :
    Calls Tryz.prog 97 #[.pointer (some ⟨p, 0, none⟩), .pointer (some ⟨bk, 0, none⟩)] w (Post encI B p w ((adA 65 (natA 2) 0 2 1).run S)) := by
  have hl := natA_lay (N := 2) (by decide) (by decide)
  have hq : Calls Tryz.prog 15 #[.pointer (some ⟨p, 0, none⟩), .agg #[.int .i64 8, .int .i64 2, .int .i64 1, .int .i64 0, .int .i64 0, .int .i64 0], .int .i64 1] w (Post encI B p w ((adA 65 (natA 2) 0 2 1).run S)) := by
    have := adacq_p B p 2 65 S 8 1 0 0 0 1 (natA 2) w h (by decide) (by decide) (by decide) hl (by decide) (laid_all hl) (natA_tm _ _) hD hn0
    rw [natA_sum] at this
    exact this
  generalize hR : Post encI B p w ((adA 65 (natA 2) 0 2 1).run S) = R
  have hO : Owes R encI B p w ((adA 65 (natA 2) 0 2 1).run S) := hR ▸ owes _ _ _ _ _
  clear hR
  have hK := Keep.refl [2, 3, 4] B p w
  clear hl
  go_enter Tryz.func97, Tryz.ntmps97
  go_wp2_with fail
  clear c1
  refine tlast hO hK hq (fun _ h => ⟨rfl, h⟩) ?_
  intro v S1 w1 hr hP1 hk1 hK1 hO1
  have hf := hO1.done hP1 hK1
  clear hO1 hP1 hK1 hr hk1 hO h hK hq
  go_wp2_with fail
  first | exact hf | (go_ret; exact hf)
def av1 : Option Int × TS := (adA 65 (natA 1) 0 1 0).run (TS0 [] [0, 0, 0, 1])
def av2 : Option Int × TS := (adA 65 (natA 2) 0 2 1).run (TS0 [] ([0, 0, 0, 2] ++ zeros 6))
theorem av_is : av1.1 = some 0 ∧ av1.2.acc.length = 4 ∧ av1.2.nts.length = 2 ∧ av2.1 = some 0 ∧ av2.2.acc.length = 10 := by decide +kernel
@[go_sem] theorem build_locka (a b c : Int) (w : World) : (Instr.build 23 #[(0, .int .i64 a), (1, .int .i64 b), (2, .int .i64 c)]).run Tryz.prog w = .ok (.agg #[.int .i64 a, .int .i64 b, .int .i64 c, .int .i64 0, .int .i64 0, .int .i64 0]) w := run_build w 23 _ _ (by kernel_rfl)
theorem adwants2 : (adWants 2).length = 15 := by decide +kernel
set_option maxRecDepth 100000 in
set_option maxHeartbeats 2000000 in
theorem alive33 (w : World) : Calls Tryz.prog 20 #[] w fun e w' => e = .returned (.bool true) ∧ Ext w w' := by
  have hmf : ∀ (fn : Fn) (first cap : Array Value) (w : World), (Instr.makeFunc fn first cap).run Tryz.prog w = .ok (.func fn first cap) w := fun _ _ _ _ => rfl
  go_enter Tryz.func20, Tryz.ntmps20
  go_wp2_with fail
  have b1 := Blk.new w (.cells #[.int .i64 8, .int .i64 1, .int .i64 1, .int .i64 0, .int .i64 0, .int .i64 0] 23)
  have hX := (Ext.refl w).alloc (.cells #[.int .i64 8, .int .i64 1, .int .i64 1, .int .i64 0, .int .i64 0, .int .i64 0] 23)
  have hA := ints_new (w.alloc (.cells #[.int .i64 8, .int .i64 1, .int .i64 1, .int .i64 0, .int .i64 0, .int .i64 0] 23)) [0, 0, 0, 1] (by simp)
  replace b1 := b1.alloc (.cells (([0, 0, 0, 1] : List Int).map (Value.int .i64)).toArray 3)
  replace hX := hX.alloc (.cells (([0, 0, 0, 1] : List Int).map (Value.int .i64)).toArray 3)
  simp only [World.size_alloc, List.map_cons, List.map_nil, List.length_cons, List.length_nil] at b1 hA hX
  have hsz : w.heap.size + 1 < (World.alloc (World.alloc w (.cells #[.int .i64 8, .int .i64 1, .int .i64 1, .int .i64 0, .int .i64 0, .int .i64 0] 23)) (.cells #[.int .i64 0, .int .i64 0, .int .i64 0, .int .i64 1] 3)).heap.size := by simp
  generalize World.alloc (World.alloc w _) _ = V1 at *
  have hPl := play_err 96 #[.pointer (some ⟨w.heap.size, 0, none⟩)] (adA 65 (natA 1) 0 1 0) none 0 [] (some ⟨w.heap.size + 1, 0, none⟩) 4 [0, 0, 0, 1] V1 (Ints.nil _) (by simp) hA (by decide) (fun k hk => by simp only [Value.ownBlock, Option.some.injEq] at hk; omega) (fun _ _ => rfl) (fun W p hxW hP => adv1 _ p _ w.heap.size W hP (by decide) (by decide) (b1.ext hxW).cells)
  obtain ⟨e1, e2, e3, e4, e5⟩ := av_is
  rw [show (adA 65 (natA 1) 0 1 0).run (TS0 [] [0, 0, 0, 1]) = av1 from rfl, e1] at hPl
  have e2h := Lib.hid (And.intro e2 e3)
  have e4h := Lib.hid (And.intro e4 e5)
  clear e1 e2 e3 e4 e5
  generalize av1.2 = S1 at *
  simp only [Option.getD_some, Option.isSome_some] at hPl
  refine hPl.mono ?_
  clear hPl
  rintro e y1 ⟨v1, rfl, hO, hx1⟩
  obtain ⟨A1, c1, A1', c1', vs1, L1, rfl, hO⟩ := hO
  obtain ⟨As1, k1, hvs1, _, _⟩ := hO.locs.slice
  subst hvs1
  unfold outV
  rw [e2h.out.1, e2h.out.2]
  replace hX := hX.trans hx1
  clear hO hx1 hA hsz b1
  clear e2h
  go_wp2_with fail
  have n1 := Blk.new y1 (.cells #[.bool true, .slice A1 4 c1, .slice A1' 2 c1', .slice As1 (shortL L1).length k1] 30)
  have b2 := Blk.new (y1.alloc (.cells #[.bool true, .slice A1 4 c1, .slice A1' 2 c1', .slice As1 (shortL L1).length k1] 30)) (.cells #[.int .i64 8, .int .i64 2, .int .i64 1, .int .i64 0, .int .i64 0, .int .i64 0] 23)
  replace n1 := n1.alloc (.cells #[.int .i64 8, .int .i64 2, .int .i64 1, .int .i64 0, .int .i64 0, .int .i64 0] 23)
  replace hX := (hX.alloc (.cells #[.bool true, .slice A1 4 c1, .slice A1' 2 c1', .slice As1 (shortL L1).length k1] 30)).alloc (.cells #[.int .i64 8, .int .i64 2, .int .i64 1, .int .i64 0, .int .i64 0, .int .i64 0] 23)
  simp only [World.size_alloc] at n1 b2 hX
  have hsz : (World.alloc (World.alloc y1 (.cells #[.bool true, .slice A1 4 c1, .slice A1' 2 c1', .slice As1 (shortL L1).length k1] 30)) (.cells #[.int .i64 8, .int .i64 2, .int .i64 1, .int .i64 0, .int .i64 0, .int .i64 0] 23)).heap.size = y1.heap.size + 2 := by simp
  generalize World.alloc (World.alloc y1 _) _ = V2 at *
  have hc1 := grownCap_ge y1 10 4 3
  have hc2 := grownCap_le_maxLen y1 10 4 3 (by unfold maxLen; decide)
  unfold grownCap at hc1 hc2
  unfold maxLen at hc2
  generalize (Question.appendCap 10 4 3).cut (y1.tape y1.drawn (Question.appendCap 10 4 3)) = cap at *
  obtain ⟨F, hF⟩ : ∃ F, F = [0, 0, 0, 2] ++ zeros 6 := ⟨_, rfl⟩
  have hFl : F.length = 10 := by rw [hF]; rfl
  have hI := ints_zeros (V2.alloc (.cells #[.int .i64 0, .int .i64 0, .int .i64 0, .int .i64 2] 3)) [0, 0, 0, 2] 6 10 cap (y1.heap.size + 1 + 1 + 1) #[.int .i64 0, .int .i64 0, .int .i64 0, .int .i64 2] rfl (by simp [hsz]) rfl hc1 hc2
  rw [← hF] at hI
  have hx2 := (((Ext.refl V2).alloc (.cells #[.int .i64 0, .int .i64 0, .int .i64 0, .int .i64 2] 3)).alloc (.cells (#[.int .i64 0, .int .i64 0, .int .i64 0, .int .i64 2] ++ (Builtin.zeroCells #[.int .i64 0] 6 ++ Builtin.zeroCells #[.int .i64 0] (cap - 10))) 3)).drew
  have hg2 : y1.heap.size + 1 + 1 + 1 < (((V2.alloc (.cells #[.int .i64 0, .int .i64 0, .int .i64 0, .int .i64 2] 3)).alloc (.cells (#[.int .i64 0, .int .i64 0, .int .i64 0, .int .i64 2] ++ (Builtin.zeroCells #[.int .i64 0] 6 ++ Builtin.zeroCells #[.int .i64 0] (cap - 10))) 3)).drew).heap.size := by
    show _ < (World.alloc _ _).heap.size
    simp [hsz]
  generalize World.drew (World.alloc (World.alloc V2 _) _) = w2 at *
  replace n1 := n1.ext hx2
  replace b2 := b2.ext hx2
  replace hX := hX.trans hx2
  clear hx2 hsz
  have hPl := play_err 97 #[.pointer (some ⟨y1.heap.size + 1, 0, none⟩)] (adA 65 (natA 2) 0 2 1) none 0 [] (some ⟨y1.heap.size + 1 + 1 + 1, 0, none⟩) cap F w2 (Ints.nil _) (by simp) (by rw [hFl]; exact hI) (by rw [hFl]; decide) (fun k hk => by simp only [Value.ownBlock, Option.some.injEq] at hk; omega) (fun _ _ => rfl) (fun W p hxW hP => adv2 _ p _ (y1.heap.size + 1) W hP (by rw [hF]; decide) (show 0 ≤ 100000 by decide) (b2.ext hxW).cells)
  rw [show (adA 65 (natA 2) 0 2 1).run (TS0 [] F) = av2 from by rw [hF]; rfl, e4h.out.1, hFl] at hPl
  have e5h := Lib.hid e4h.out.2
  clear hI hF hFl e4h b2
  generalize av2.2 = S2 at *
  simp only [Option.getD_some, Option.isSome_some] at hPl
  refine hPl.mono ?_
  clear hPl
  rintro e y2 ⟨v2, rfl, hO, hx2⟩
  obtain ⟨A2, c2, A2', c2', vs2, L2, rfl, hO⟩ := hO
  obtain ⟨As2, k2, hvs2, _, _⟩ := hO.locs.slice
  subst hvs2
  unfold outV
  rw [e5h.out]
  replace hX := hX.trans hx2
  replace n1 := n1.ext hx2
  clear hO hx2 e5h
  have n2 := Blk.new y2 (.cells #[.bool true, .slice A2 10 c2, .slice A2' S2.nts.length c2', .slice As2 (shortL L2).length k2] 30)
  replace n1 := n1.alloc (.cells #[.bool true, .slice A2 10 c2, .slice A2' S2.nts.length c2', .slice As2 (shortL L2).length k2] 30)
  replace hX := hX.alloc (.cells #[.bool true, .slice A2 10 c2, .slice A2' S2.nts.length c2', .slice As2 (shortL L2).length k2] 30)
  have c_n1 := n1.cells
  have c_n2 := n2.cells
  have hXh := Lib.hid hX
  clear hX n1 n2 hg2
  go_wp2_with fail
  refine (adwants_p 2 _ (by decide) (by decide)).mono ?_
  rintro e w5 ⟨v5, rfl, hw5, hx5⟩
  obtain ⟨A5, c5, rfl, -, -, -⟩ := hw5
  rw [adwants2]
  have hf := Lib.hid (hXh.out.trans hx5)
  clear hx5 hmf c_n1 c_n2
  go_wp2_with fail
  go_ret
  exact ⟨rfl, hf.out⟩
end Go.Proofs.YtbaajjkopdjbgaaGreat
/-
  AdaptAlone, walked.
-/
namespace Go.Proofs.YtbaajjkopdjbgaaGreat
open Go.RowKit Kv
set_option maxRecDepth 100000 in
set_option maxHeartbeats 4000000 in
theorem adalone_walk (n me : Nat) (w : World) (hn : n < 256) (hme : me < 256) : Calls Tryz.prog 3 #[.int .u8 n, .int .u8 me] w fun e w' => e = .returned (.bool true) ∧ Ext w w' := by
  have hmf : ∀ (fn : Fn) (first cap : Array Value) (w : World), (Instr.makeFunc fn first cap).run Tryz.prog w = .ok (.func fn first cap) w := fun _ _ _ _ => rfl
  obtain ⟨N, hN⟩ : ∃ N : Nat, 1 + (n : Int) % 8 = N := ⟨1 + n % 8, by omega⟩
  have h1 : 1 ≤ N := by omega
  have h2 : N ≤ 8 := by omega
  obtain ⟨m, hm⟩ : ∃ m : Nat, (me : Int) % (N : Int) = m := ⟨me % N, by omega⟩
  have hm1 : m < N := by
    have := Int.emod_lt_of_pos (me : Int) (show (0 : Int) < N by omega)
    omega
  obtain ⟨T, hT⟩ : ∃ T, triN N = T := ⟨_, rfl⟩
  obtain ⟨q1, q2⟩ := triN_le h1 h2
  obtain ⟨L, hL⟩ : ∃ L : Nat, levels (T : Int) = L := ⟨_, rfl⟩
  have hlv := fun w => levels_r (T : Int) (by omega) w
  rw [hL] at hlv
  have hLe := lev_le (show T ≤ 64 by omega)
  rw [hL] at hLe
  have hmul : N * (N + 1) ≤ 8 * 9 := Nat.mul_le_mul h2 (by omega)
  have f1 : IntKind.i64.wrap ((N : Int) * ((N : Int) + 1)) = ((N * (N + 1) : Nat) : Int) := by
    rw [IntWalk.i64_in _ (by have : (N : Int) * ((N : Int) + 1) = ((N * (N + 1) : Nat) : Int) := by simp
                             rw [this]; omega)]
    simp
  have f2 : IntKind.i64.wrap (((N * (N + 1) : Nat) : Int) / 2) = (T : Int) := by
    rw [← hT]
    unfold triN
    rw [IntWalk.i64_in _ (by omega)]
    omega
  have f3 := IntWalk.i64_in ((N : Int) + 1) (by omega)
  have f4 := IntWalk.i64_in ((m : Int) + 1) (by omega)
  obtain ⟨r1, r2, r3, r4, r5, r6, r7⟩ := ada_is h1 h2 hm1
  rw [hT, hL] at r2 r5 r7
  have hr := Lib.hid (And.intro r1 (And.intro r2 (And.intro r3 (And.intro r4 (And.intro r5 (And.intro r6 r7))))))
  have hTh := Lib.hid hT
  clear r1 r2 r3 r4 r5 r6 r7 hT hL hmul
  generalize N * (N + 1) = NN at *
  go_enter Tryz.func3, Tryz.ntmps3
  go_wp2_with fail
  refine (hlv _).mono ?_
  rintro e w' ⟨rfl, rfl⟩
  clear hlv f1 f2 f3
  go_wp2_with fail
  have hsz : (World.alloc (World.alloc w (.cells #[.int .i64 8, .int .i64 N, .int .i64 1, .int .i64 0, .int .i64 0, .int .i64 0] 23)) (.cells #[.int .i64 m] 3)).heap.size = w.heap.size + 2 := by simp
  have b1 := Blk.new w (.cells #[.int .i64 8, .int .i64 N, .int .i64 1, .int .i64 0, .int .i64 0, .int .i64 0] 23)
  have b2 := Blk.new (w.alloc (.cells #[.int .i64 8, .int .i64 N, .int .i64 1, .int .i64 0, .int .i64 0, .int .i64 0] 23)) (.cells #[.int .i64 m] 3)
  replace b1 := b1.alloc (.cells #[.int .i64 m] 3)
  have hX := ((Ext.refl w).alloc (.cells #[.int .i64 8, .int .i64 N, .int .i64 1, .int .i64 0, .int .i64 0, .int .i64 0] 23)).alloc (.cells #[.int .i64 m] 3)
  simp only [World.size_alloc] at b1 b2 hX
  generalize World.alloc (World.alloc w _) _ = V2 at *
  have hc1 := grownCap_ge w 64 4 3
  have hc2 := grownCap_le_maxLen w 64 4 3 (by unfold maxLen; decide)
  unfold grownCap at hc1 hc2
  unfold maxLen at hc2
  generalize (Question.appendCap 64 4 3).cut (w.tape w.drawn (Question.appendCap 64 4 3)) = cap at *
  obtain ⟨F, hF⟩ : ∃ F, F = [0, 0, 0, (m : Int) + 1] ++ zeros 60 := ⟨_, rfl⟩
  have hFl : F.length = 64 := by rw [hF]; rfl
  have hFd : F.drop 4 = zeros 60 := by rw [hF]; rfl
  have hI := ints_zeros (V2.alloc (.cells #[.int .i64 0, .int .i64 0, .int .i64 0, .int .i64 ((m : Int) + 1)] 3)) [0, 0, 0, (m : Int) + 1] 60 64 cap (w.heap.size + 1 + 1 + 1) #[.int .i64 0, .int .i64 0, .int .i64 0, .int .i64 ((m : Int) + 1)] rfl (by simp [hsz]) rfl hc1 hc2
  rw [← hF] at hI
  have hx2 := (((Ext.refl V2).alloc (.cells #[.int .i64 0, .int .i64 0, .int .i64 0, .int .i64 ((m : Int) + 1)] 3)).alloc (.cells (#[.int .i64 0, .int .i64 0, .int .i64 0, .int .i64 ((m : Int) + 1)] ++ (Builtin.zeroCells #[.int .i64 0] 60 ++ Builtin.zeroCells #[.int .i64 0] (cap - 64))) 3)).drew
  have hg2 : w.heap.size + 1 + 1 + 1 < (((V2.alloc (.cells #[.int .i64 0, .int .i64 0, .int .i64 0, .int .i64 ((m : Int) + 1)] 3)).alloc (.cells (#[.int .i64 0, .int .i64 0, .int .i64 0, .int .i64 ((m : Int) + 1)] ++ (Builtin.zeroCells #[.int .i64 0] 60 ++ Builtin.zeroCells #[.int .i64 0] (cap - 64))) 3)).drew).heap.size := by
    show _ < (World.alloc _ _).heap.size
    simp [hsz]
  generalize World.drew (World.alloc (World.alloc V2 _) _) = w2 at *
  replace b1 := b1.ext hx2
  replace b2 := b2.ext hx2
  replace hX := hX.trans hx2
  clear hx2 hsz
  generalize hbk : w.heap.size = bk at *
  have hPl := play_err 14 #[.pointer (some ⟨bk, 0, none⟩), .pointer (some ⟨bk + 1, 0, none⟩)] (adA 65 (natA N) 0 N m) none 0 [] (some ⟨bk + 1 + 1 + 1, 0, none⟩) cap F w2 (Ints.nil _) (by simp) (by rw [hFl]; exact hI) (by rw [hFl]; decide) (fun k hk => by simp only [Value.ownBlock, Option.some.injEq] at hk; omega) (fun _ _ => rfl)
    (fun W p hxW hP => adal1 _ p _ N m bk (bk + 1) W hP h1 h2 hm1 (show F.length - 0 < 65 by rw [hFl]; decide) (show 0 ≤ 100000 by decide) (b1.ext hxW).cells ((b2.ext hxW).cells 0))
  rw [show (adA 65 (natA N) 0 N m).run (TS0 [] F) = adaA N m from by rw [hF]; rfl, hr.out.1, hFl] at hPl
  have hlen : (adaA N m).2.acc.length = 4 + 3 * L := hr.out.2.1
  have hsh := fun (L1 : List Int) (h : LocIs L1 (adaA N m).2.loc) => ada_short hr.out.2.2.1 h
  generalize (adaA N m).2 = S1 at *
  simp only [Option.getD_some, Option.isSome_some] at hPl
  refine hPl.mono ?_
  clear hPl
  rintro e y1 ⟨v1, rfl, hO, hx1⟩
  obtain ⟨A1, c1, A1', c1', vs1, L1, rfl, hO⟩ := hO
  have hloc := hO.locs
  rw [hsh L1 hO.is] at hloc
  obtain ⟨As1, k1, hvs1, k2, k3⟩ := hloc.slice
  subst hvs1
  unfold outV
  rw [hlen]
  replace hX := hX.trans hx1
  replace hI := hI.ext hx1
  replace b1 := b1.ext hx1
  replace b2 := b2.ext hx1
  replace hg2 := Nat.lt_of_lt_of_le hg2 hx1.size
  clear hO hlen hsh hx1
  go_wp2_with fail
  have n1 := (Blk.new y1 (.cells #[.bool true, .slice A1 (4 + 3 * L) c1, .slice A1' S1.nts.length c1', .slice As1 1 k1] 30))
  have hx2 := (Ext.refl y1).alloc (.cells #[.bool true, .slice A1 (4 + 3 * L) c1, .slice A1' S1.nts.length c1', .slice As1 1 k1] 30)
  replace hX := hX.trans hx2
  replace hI := hI.ext hx2
  replace hloc := hloc.ext hx2
  replace b1 := b1.ext hx2
  replace b2 := b2.ext hx2
  replace hg2 := Nat.lt_of_lt_of_le hg2 hx2.size
  clear hx2
  obtain ⟨c9, rfl⟩ : ∃ c9, cap = c9 + 4 + 1 := ⟨cap - 5, by omega⟩
  have hI4 := Ints.drop hI (show 4 < 64 by omega)
  rw [hFd] at hI4
  clear hI hF hFl hFd hc1 hc2
  generalize hbo : y1.heap.size = bo at *
  generalize y1.alloc (.cells #[.bool true, .slice A1 (4 + 3 * L) c1, .slice A1' S1.nts.length c1', .slice As1 1 k1] 30) = W0 at *
  have lift := (Ext.refl W0).drew
  replace hX := hX.trans lift
  replace hI4 := hI4.ext lift
  replace hloc := hloc.ext lift
  replace b1 := b1.ext lift
  replace b2 := b2.ext lift
  replace n1 := n1.ext lift
  replace hg2 := Nat.lt_of_lt_of_le hg2 lift.size
  clear lift
  obtain ⟨V, hV⟩ : ∃ V, V = World.drew W0 := ⟨_, rfl⟩
  rw [← hV] at n1 hX hloc b1 b2 hg2 hI4
  have hPl : ∀ W, Ext V W → Calls Tryz.prog 13 #[.func (.func 16) #[] #[.pointer (some ⟨bk, 0, none⟩), .pointer (some ⟨bk + 1, 0, none⟩)], .slice As1 1 k1, .slice (some ⟨bk + 1 + 1 + 1, 4, none⟩) 60 (c9 + 1)] W fun e w' => ∃ A2 c2 A2' n2 c2' A3 n3 c3, e = .returned (.tuple #[.int .i64 0, .agg #[.bool true, .slice A2 (3 * L) c2, .slice A2' n2 c2', .slice A3 n3 c3]]) ∧ Ext W w' := by
    intro W hW
    have h := play_err 16 #[.pointer (some ⟨bk, 0, none⟩), .pointer (some ⟨bk + 1, 0, none⟩)] (adA 65 (natA N) 0 N m) As1 k1 [1] (some ⟨bk + 1 + 1 + 1, 4, none⟩) (c9 + 1) (zeros 60) W (hloc.ext hW) (by simp) (by rw [show (zeros 60).length = 60 from by simp [zeros]]; exact hI4.ext hW) (by simp [zeros, maxAns]) (fun k hk => by have := hW.size; simp only [Value.ownBlock, Option.some.injEq] at hk; omega) (fun _ _ => rfl)
      (fun W' p hxW hP => adal2 _ p _ N m bk (bk + 1) W' hP h1 h2 hm1 (show (zeros 60).length - 0 < 65 by simp [zeros]) (show 0 ≤ 100000 by decide) (b1.ext (hW.trans hxW)).cells ((b2.ext (hW.trans hxW)).cells 0))
    rw [show (adA 65 (natA N) 0 N m).run (TS0 [1] (zeros 60)) = adaB N m from rfl, hr.out.2.2.2.1, show (zeros 60).length = 60 from by simp [zeros]] at h
    have hlen : (adaB N m).2.acc.length = 3 * L := hr.out.2.2.2.2.1
    refine h.mono ?_
    rintro e w' ⟨v, rfl, hO, hx⟩
    obtain ⟨A2, c2, A2', c2', vs2, L2, rfl, hO⟩ := hO
    obtain ⟨As2, k2, hvs2, _, _⟩ := hO.locs.slice
    subst hvs2
    refine ⟨A2, c2, A2', (adaB N m).2.nts.length, c2', As2, (shortL L2).length, k2, ?_, hx⟩
    unfold outV
    rw [hlen]
    rfl
  have hS := fun (w' : World) (hx : Ext V w') => (n1.ext hx).cells
  rw [hV] at hS hPl
  go_cut [12, 13] (fun s12 s13 wx => s12 = .int .i64 0 ∧ ∃ bx A2 c2 A2' n2 c2' A3 n3 c3, s13 = .pointer (some ⟨bx, 0, none⟩) ∧ Blk wx bx (.cells #[.bool true, .slice A2 (3 * L) c2, .slice A2' n2 c2', .slice A3 n3 c3] 30) ∧ Ext V wx)
  case first =>
    refine wp_region_held_drew (S := fun w' => ∀ i : Nat, w'.cell? ⟨bo, i, none⟩ = (#[.bool true, .slice A1 (4 + 3 * L) c1, .slice A1' S1.nts.length c1', .slice As1 1 k1] : Array Value)[i]?) rfl (hS _ (Ext.refl _)) (fun hHeld => ?_)
    refine wpAnyH_take (i := 0) (v := ?_) rfl (by kernel_rfl) (by kernel_rfl) (by kernel_rfl) (fun _ _ _ h => h) (Or.inl ⟨by kernel_rfl, ?_⟩) (by assumption) ?_
    rotate_left
    · (intro w hSw; (try dsimp only at hSw); go_simp; try with_reducible rfl)
    try simp only [put_pack]
    refine wpAnyH_take (i := 1) (v := ?_) rfl (by kernel_rfl) (by kernel_rfl) (by kernel_rfl) (fun _ _ _ h => h) (Or.inl ⟨by kernel_rfl, ?_⟩) (by assumption) ?_
    rotate_left
    · (intro w hSw; (try dsimp only at hSw); go_simp; try with_reducible rfl)
    try simp only [put_pack]
    refine wpAnyH_take (i := 2) (v := ?_) rfl (by kernel_rfl) (by kernel_rfl) (by kernel_rfl) (fun _ _ _ h => h) (Or.inl ⟨by kernel_rfl, ?_⟩) (by assumption) ?_
    rotate_left
    · (intro w hSw; (try dsimp only at hSw); go_simp; try with_reducible rfl)
    try simp only [put_pack]
    refine wpAnyH_take (i := 3) (v := ?_) rfl (by kernel_rfl) (by kernel_rfl) (by kernel_rfl) (fun _ _ _ h => h) (Or.inl ⟨by kernel_rfl, ?_⟩) (by assumption) ?_
    rotate_left
    · (intro w hSw; (try dsimp only at hSw); go_simp; try with_reducible rfl)
    try simp only [put_pack]
    refine wpAnyH_take (i := 4) (v := ?_) rfl (by kernel_rfl) (by kernel_rfl) (by kernel_rfl) (fun _ _ _ h => h) (Or.inl ⟨by kernel_rfl, ?_⟩) (by assumption) ?_
    rotate_left
    · (intro w hSw; (try dsimp only at hSw); go_simp; try with_reducible rfl)
    try simp only [put_pack]
    refine wpAnyH_ready (rs := [5, 9]) (by kernel_rfl) (by simp) ?_
    refine AllReadyH.cons rfl (fun K hKK => ?_) (AllReadyH.cons rfl (fun K hKK => ?_) (AllReadyH.nil))
    · go_simp
      refine (hPl _ (Ext.refl _)).mono ?_
      rintro e y2 ⟨A2, c2, A2', n2, c2', A3, n3, c3, rfl, hx⟩
      refine hKK.out _ _ (hS _ hx) (fun hHeld => ?_)
      clear hKK K
      try dsimp only
      refine wpAnyH_take (i := 6) (v := ?_) rfl (by kernel_rfl) (by kernel_rfl) (by kernel_rfl) (fun _ _ _ h => h) (Or.inl ⟨by kernel_rfl, ?_⟩) (by assumption) ?_
      rotate_left
      · (intro w hSw; (try dsimp only at hSw); go_simp; try with_reducible rfl)
      try simp only [put_pack]
      refine wpAnyH_take (i := 7) (v := ?_) rfl (by kernel_rfl) (by kernel_rfl) (by kernel_rfl) (fun _ _ _ h => h) (Or.inl ⟨by kernel_rfl, ?_⟩) (by assumption) ?_
      rotate_left
      · (intro w hSw; (try dsimp only at hSw); go_simp; try with_reducible rfl)
      try simp only [put_pack]
      refine wpAnyH_take (i := 8) (v := ?_) rfl (by kernel_rfl) (by kernel_rfl) (by kernel_rfl) (fun _ _ _ h => h) (Or.inl ⟨by kernel_rfl, ?_⟩) (by assumption) ?_
      rotate_left
      · (intro w hSw; (try dsimp only at hSw); go_simp; try with_reducible rfl)
      try simp only [put_pack]
      refine wpAnyH_ready (rs := [9]) (by kernel_rfl) (by simp) ?_
      refine AllReadyH.cons rfl (fun K hKK => ?_) (AllReadyH.nil)
      go_simp
      refine hKK.out _ _ (hS _ (hx.alloc _)) (fun hHeld => ?_)
      clear hKK K
      try dsimp only
      refine wpAnyH_take (i := 10) (v := ?_) rfl (by kernel_rfl) (by kernel_rfl) (by kernel_rfl) (fun _ _ _ h => h) (Or.inl ⟨by kernel_rfl, ?_⟩) (by assumption) ?_
      rotate_left
      · (intro w hSw; (try dsimp only at hSw); go_simp; try with_reducible rfl)
      try simp only [put_pack]
      refine wpAnyH_ready (rs := [11]) (by kernel_rfl) (by simp) ?_
      refine AllReadyH.cons rfl (fun K hKK => ?_) (AllReadyH.nil)
      go_simp
      refine hKK.out _ _ (hS _ (hx.alloc _)) (fun hHeld => ?_)
      clear hKK K
      try dsimp only
      refine wpAnyH_done (by kernel_rfl) ?_ _
      go_simp
      go_wp2_with fail
      go_meet
      exact ⟨rfl, y2.heap.size, A2, c2, A2', n2, c2', A3, n3, c3, rfl, Blk.new y2 _, by rw [hV]; exact hx.alloc _⟩
    · go_simp
      refine hKK.out _ _ (hS _ ((Ext.refl _).alloc _)) (fun hHeld => ?_)
      clear hKK K
      try dsimp only
      refine wpAnyH_ready (rs := [5]) (by kernel_rfl) (by simp) ?_
      refine AllReadyH.cons rfl (fun K hKK => ?_) (AllReadyH.nil)
      go_simp
      have bz := Blk.new (World.drew W0) (.cells #[.bool false, .slice none 0 0, .slice none 0 0, .slice none 0 0] 30)
      replace bz : Blk (World.alloc (World.drew W0) (.cells #[.bool false, .slice none 0 0, .slice none 0 0, .slice none 0 0] 30)) W0.heap.size (.cells #[.bool false, .slice none 0 0, .slice none 0 0, .slice none 0 0] 30) := bz
      have hxz := (Ext.refl (World.drew W0)).alloc (.cells #[.bool false, .slice none 0 0, .slice none 0 0, .slice none 0 0] 30)
      refine (hPl _ hxz).mono ?_
      rintro e y2 ⟨A2, c2, A2', n2, c2', A3, n3, c3, rfl, hx⟩
      replace bz := bz.ext hx
      replace hx := hxz.trans hx
      clear hxz
      refine hKK.out _ _ (hS _ hx) (fun hHeld => ?_)
      clear hKK K
      try dsimp only
      refine wpAnyH_take (i := 6) (v := ?_) rfl (by kernel_rfl) (by kernel_rfl) (by kernel_rfl) (fun _ _ _ h => h) (Or.inl ⟨by kernel_rfl, ?_⟩) (by assumption) ?_
      rotate_left
      · (intro w hSw; (try dsimp only at hSw); go_simp; try with_reducible rfl)
      try simp only [put_pack]
      refine wpAnyH_take (i := 7) (v := ?_) rfl (by kernel_rfl) (by kernel_rfl) (by kernel_rfl) (fun _ _ _ h => h) (Or.inl ⟨by kernel_rfl, ?_⟩) (by assumption) ?_
      rotate_left
      · (intro w hSw; (try dsimp only at hSw); go_simp; try with_reducible rfl)
      try simp only [put_pack]
      refine wpAnyH_take (i := 8) (v := ?_) rfl (by kernel_rfl) (by kernel_rfl) (by kernel_rfl) (fun _ _ _ h => h) (Or.inl ⟨by kernel_rfl, ?_⟩) (by assumption) ?_
      rotate_left
      · (intro w hSw; (try dsimp only at hSw); go_simp; try with_reducible rfl)
      try simp only [put_pack]
      refine wpAnyH_take (i := 10) (v := ?_) rfl (by kernel_rfl) (by kernel_rfl) (by kernel_rfl) (fun _ _ _ h => h) (Or.inl ⟨by kernel_rfl, ?_⟩) (by assumption) ?_
      rotate_left
      · (intro w hSw; (try dsimp only at hSw); go_simp; try with_reducible rfl)
      try simp only [put_pack]
      refine wpAnyH_ready (rs := [11]) (by kernel_rfl) (by simp) ?_
      refine AllReadyH.cons rfl (fun K hKK => ?_) (AllReadyH.nil)
      have c_bz := bz.cells
      have hfz : ∀ i, y2.frozen? ⟨W0.heap.size, i, none⟩ = false := fun i => by
        have z6 := bz
        unfold Blk at z6
        simp [World.frozen?, z6]
      go_simp
      have hb3 : (World.drew W0).heap.size ≤ W0.heap.size := Nat.le_refl _
      have hf : Blk ((((y2.setCell ⟨W0.heap.size, 0, none⟩ (.bool true)).setCell ⟨W0.heap.size, 1, none⟩ (.slice A2 (3 * L) c2)).setCell ⟨W0.heap.size, 2, none⟩ (.slice A2' n2 c2')).setCell ⟨W0.heap.size, 3, none⟩ (.slice A3 n3 c3)) (W0.heap.size) (.cells #[.bool true, .slice A2 (3 * L) c2, .slice A2' n2 c2', .slice A3 n3 c3] 30) :=
        heap_setCells_all bz [.bool true, .slice A2 (3 * L) c2, .slice A2' n2 c2', .slice A3 n3 c3] rfl
      have hxf : Ext (World.drew W0) ((((y2.setCell ⟨W0.heap.size, 0, none⟩ (.bool true)).setCell ⟨W0.heap.size, 1, none⟩ (.slice A2 (3 * L) c2)).setCell ⟨W0.heap.size, 2, none⟩ (.slice A2' n2 c2')).setCell ⟨W0.heap.size, 3, none⟩ (.slice A3 n3 c3)) := (((hx.setCell hb3 _).setCell hb3 _).setCell hb3 _).setCell hb3 _
      refine hKK.out _ _ (hS _ hxf) (fun hHeld => ?_)
      clear hKK K
      try dsimp only
      refine wpAnyH_done (by kernel_rfl) ?_ _
      go_simp
      go_wp2_with fail
      go_meet
      exact ⟨rfl, W0.heap.size, A2, c2, A2', n2, c2', A3, n3, c3, rfl, hf, by rw [hV]; exact hxf⟩
  case rest =>
  obtain ⟨rfl, bxx, A2x, c2x, D2x, n2x, d2x, A3x, n3x, c3x, rfl, mx, hXc⟩ := hcut
  replace hX := hX.trans hXc
  replace hI4 := hI4.ext hXc
  replace hloc := hloc.ext hXc
  replace b1 := b1.ext hXc
  replace b2 := b2.ext hXc
  replace n1 := n1.ext hXc
  replace hg2 := Nat.lt_of_lt_of_le hg2 hXc.size
  clear hXc hPl hS hV V W0
  go_wp2_with fail
  generalize wc = W0 at *
  have lift := (Ext.refl W0).drew
  replace hX := hX.trans lift
  replace hI4 := hI4.ext lift
  replace hloc := hloc.ext lift
  replace b1 := b1.ext lift
  replace b2 := b2.ext lift
  replace n1 := n1.ext lift
  replace mx := mx.ext lift
  replace hg2 := Nat.lt_of_lt_of_le hg2 lift.size
  clear lift
  obtain ⟨V, hV⟩ : ∃ V, V = World.drew W0 := ⟨_, rfl⟩
  rw [← hV] at n1 mx hX hloc b1 b2 hg2 hI4
  have hPl : ∀ W, Ext V W → Calls Tryz.prog 17 #[.func (.func 18) #[] #[.pointer (some ⟨bk, 0, none⟩), .pointer (some ⟨bk + 1, 0, none⟩)], .slice As1 1 k1, .slice (some ⟨bk + 1 + 1 + 1, 4, none⟩) 60 (c9 + 1)] W fun e w' => ∃ A2 c2 A2' n2 c2' A3 n3 c3, e = .returned (.tuple #[.int .i64 0, .agg #[.bool true, .slice A2 (L) c2, .slice A2' n2 c2', .slice A3 n3 c3]]) ∧ Ext W w' := by
    intro W hW
    have h := play_int 18 #[.pointer (some ⟨bk, 0, none⟩), .pointer (some ⟨bk + 1, 0, none⟩)] ((adR (natA N) 0 N m).bind fun _ => .ret 0) As1 k1 [1] (some ⟨bk + 1 + 1 + 1, 4, none⟩) (c9 + 1) (zeros 60) W (hloc.ext hW) (by simp) (by rw [show (zeros 60).length = 60 from by simp [zeros]]; exact hI4.ext hW) (by simp [zeros, maxAns]) (fun k hk => by have := hW.size; simp only [Value.ownBlock, Option.some.injEq] at hk; omega) (fun _ _ => rfl)
      (fun W' p hxW hP => adal3 _ p _ N m bk (bk + 1) W' hP h1 h2 hm1 (show 0 ≤ 100000 by decide) (b1.ext (hW.trans hxW)).cells ((b2.ext (hW.trans hxW)).cells 0))
    rw [show ((adR (natA N) 0 N m).bind fun _ => .ret 0).run (TS0 [1] (zeros 60)) = adaR N m from rfl, hr.out.2.2.2.2.2.1, show (zeros 60).length = 60 from by simp [zeros]] at h
    have hlen : (adaR N m).2.acc.length = L := hr.out.2.2.2.2.2.2
    refine h.mono ?_
    rintro e w' ⟨v, rfl, hO, hx⟩
    obtain ⟨A2, c2, A2', c2', vs2, L2, rfl, hO⟩ := hO
    obtain ⟨As2, k2, hvs2, _, _⟩ := hO.locs.slice
    subst hvs2
    refine ⟨A2, c2, A2', (adaR N m).2.nts.length, c2', As2, (shortL L2).length, k2, ?_, hx⟩
    unfold outV
    rw [hlen]
    rfl
  have hS := fun (w' : World) (hx : Ext V w') => (n1.ext hx).cells
  rw [hV] at hS hPl
  go_cut [14, 15] (fun s12 s13 wx => s12 = .int .i64 0 ∧ ∃ bx A2 c2 A2' n2 c2' A3 n3 c3, s13 = .pointer (some ⟨bx, 0, none⟩) ∧ Blk wx bx (.cells #[.bool true, .slice A2 (L) c2, .slice A2' n2 c2', .slice A3 n3 c3] 30) ∧ Ext V wx)
  case first =>
    refine wp_region_held_drew (S := fun w' => ∀ i : Nat, w'.cell? ⟨bo, i, none⟩ = (#[.bool true, .slice A1 (4 + 3 * L) c1, .slice A1' S1.nts.length c1', .slice As1 1 k1] : Array Value)[i]?) rfl (hS _ (Ext.refl _)) (fun hHeld => ?_)
    refine wpAnyH_take (i := 0) (v := ?_) rfl (by kernel_rfl) (by kernel_rfl) (by kernel_rfl) (fun _ _ _ h => h) (Or.inl ⟨by kernel_rfl, ?_⟩) (by assumption) ?_
    rotate_left
    · (intro w hSw; (try dsimp only at hSw); go_simp; try with_reducible rfl)
    try simp only [put_pack]
    refine wpAnyH_take (i := 1) (v := ?_) rfl (by kernel_rfl) (by kernel_rfl) (by kernel_rfl) (fun _ _ _ h => h) (Or.inl ⟨by kernel_rfl, ?_⟩) (by assumption) ?_
    rotate_left
    · (intro w hSw; (try dsimp only at hSw); go_simp; try with_reducible rfl)
    try simp only [put_pack]
    refine wpAnyH_take (i := 2) (v := ?_) rfl (by kernel_rfl) (by kernel_rfl) (by kernel_rfl) (fun _ _ _ h => h) (Or.inl ⟨by kernel_rfl, ?_⟩) (by assumption) ?_
    rotate_left
    · (intro w hSw; (try dsimp only at hSw); go_simp; try with_reducible rfl)
    try simp only [put_pack]
    refine wpAnyH_take (i := 3) (v := ?_) rfl (by kernel_rfl) (by kernel_rfl) (by kernel_rfl) (fun _ _ _ h => h) (Or.inl ⟨by kernel_rfl, ?_⟩) (by assumption) ?_
    rotate_left
    · (intro w hSw; (try dsimp only at hSw); go_simp; try with_reducible rfl)
    try simp only [put_pack]
    refine wpAnyH_take (i := 4) (v := ?_) rfl (by kernel_rfl) (by kernel_rfl) (by kernel_rfl) (fun _ _ _ h => h) (Or.inl ⟨by kernel_rfl, ?_⟩) (by assumption) ?_
    rotate_left
    · (intro w hSw; (try dsimp only at hSw); go_simp; try with_reducible rfl)
    try simp only [put_pack]
    refine wpAnyH_ready (rs := [5, 9]) (by kernel_rfl) (by simp) ?_
    refine AllReadyH.cons rfl (fun K hKK => ?_) (AllReadyH.cons rfl (fun K hKK => ?_) (AllReadyH.nil))
    · go_simp
      refine (hPl _ (Ext.refl _)).mono ?_
      rintro e y2 ⟨A2, c2, A2', n2, c2', A3, n3, c3, rfl, hx⟩
      refine hKK.out _ _ (hS _ hx) (fun hHeld => ?_)
      clear hKK K
      try dsimp only
      refine wpAnyH_take (i := 6) (v := ?_) rfl (by kernel_rfl) (by kernel_rfl) (by kernel_rfl) (fun _ _ _ h => h) (Or.inl ⟨by kernel_rfl, ?_⟩) (by assumption) ?_
      rotate_left
      · (intro w hSw; (try dsimp only at hSw); go_simp; try with_reducible rfl)
      try simp only [put_pack]
      refine wpAnyH_take (i := 7) (v := ?_) rfl (by kernel_rfl) (by kernel_rfl) (by kernel_rfl) (fun _ _ _ h => h) (Or.inl ⟨by kernel_rfl, ?_⟩) (by assumption) ?_
      rotate_left
      · (intro w hSw; (try dsimp only at hSw); go_simp; try with_reducible rfl)
      try simp only [put_pack]
      refine wpAnyH_take (i := 8) (v := ?_) rfl (by kernel_rfl) (by kernel_rfl) (by kernel_rfl) (fun _ _ _ h => h) (Or.inl ⟨by kernel_rfl, ?_⟩) (by assumption) ?_
      rotate_left
      · (intro w hSw; (try dsimp only at hSw); go_simp; try with_reducible rfl)
      try simp only [put_pack]
      refine wpAnyH_ready (rs := [9]) (by kernel_rfl) (by simp) ?_
      refine AllReadyH.cons rfl (fun K hKK => ?_) (AllReadyH.nil)
      go_simp
      refine hKK.out _ _ (hS _ (hx.alloc _)) (fun hHeld => ?_)
      clear hKK K
      try dsimp only
      refine wpAnyH_take (i := 10) (v := ?_) rfl (by kernel_rfl) (by kernel_rfl) (by kernel_rfl) (fun _ _ _ h => h) (Or.inl ⟨by kernel_rfl, ?_⟩) (by assumption) ?_
      rotate_left
      · (intro w hSw; (try dsimp only at hSw); go_simp; try with_reducible rfl)
      try simp only [put_pack]
      refine wpAnyH_ready (rs := [11]) (by kernel_rfl) (by simp) ?_
      refine AllReadyH.cons rfl (fun K hKK => ?_) (AllReadyH.nil)
      go_simp
      refine hKK.out _ _ (hS _ (hx.alloc _)) (fun hHeld => ?_)
      clear hKK K
      try dsimp only
      refine wpAnyH_done (by kernel_rfl) ?_ _
      go_simp
      go_wp2_with fail
      go_meet
      exact ⟨rfl, y2.heap.size, A2, c2, A2', n2, c2', A3, n3, c3, rfl, Blk.new y2 _, by rw [hV]; exact hx.alloc _⟩
    · go_simp
      refine hKK.out _ _ (hS _ ((Ext.refl _).alloc _)) (fun hHeld => ?_)
      clear hKK K
      try dsimp only
      refine wpAnyH_ready (rs := [5]) (by kernel_rfl) (by simp) ?_
      refine AllReadyH.cons rfl (fun K hKK => ?_) (AllReadyH.nil)
      go_simp
      have bz := Blk.new (World.drew W0) (.cells #[.bool false, .slice none 0 0, .slice none 0 0, .slice none 0 0] 30)
      replace bz : Blk (World.alloc (World.drew W0) (.cells #[.bool false, .slice none 0 0, .slice none 0 0, .slice none 0 0] 30)) W0.heap.size (.cells #[.bool false, .slice none 0 0, .slice none 0 0, .slice none 0 0] 30) := bz
      have hxz := (Ext.refl (World.drew W0)).alloc (.cells #[.bool false, .slice none 0 0, .slice none 0 0, .slice none 0 0] 30)
      refine (hPl _ hxz).mono ?_
      rintro e y2 ⟨A2, c2, A2', n2, c2', A3, n3, c3, rfl, hx⟩
      replace bz := bz.ext hx
      replace hx := hxz.trans hx
      clear hxz
      refine hKK.out _ _ (hS _ hx) (fun hHeld => ?_)
      clear hKK K
      try dsimp only
      refine wpAnyH_take (i := 6) (v := ?_) rfl (by kernel_rfl) (by kernel_rfl) (by kernel_rfl) (fun _ _ _ h => h) (Or.inl ⟨by kernel_rfl, ?_⟩) (by assumption) ?_
      rotate_left
      · (intro w hSw; (try dsimp only at hSw); go_simp; try with_reducible rfl)
      try simp only [put_pack]
      refine wpAnyH_take (i := 7) (v := ?_) rfl (by kernel_rfl) (by kernel_rfl) (by kernel_rfl) (fun _ _ _ h => h) (Or.inl ⟨by kernel_rfl, ?_⟩) (by assumption) ?_
      rotate_left
      · (intro w hSw; (try dsimp only at hSw); go_simp; try with_reducible rfl)
      try simp only [put_pack]
      refine wpAnyH_take (i := 8) (v := ?_) rfl (by kernel_rfl) (by kernel_rfl) (by kernel_rfl) (fun _ _ _ h => h) (Or.inl ⟨by kernel_rfl, ?_⟩) (by assumption) ?_
      rotate_left
      · (intro w hSw; (try dsimp only at hSw); go_simp; try with_reducible rfl)
      try simp only [put_pack]
      refine wpAnyH_take (i := 10) (v := ?_) rfl (by kernel_rfl) (by kernel_rfl) (by kernel_rfl) (fun _ _ _ h => h) (Or.inl ⟨by kernel_rfl, ?_⟩) (by assumption) ?_
      rotate_left
      · (intro w hSw; (try dsimp only at hSw); go_simp; try with_reducible rfl)
      try simp only [put_pack]
      refine wpAnyH_ready (rs := [11]) (by kernel_rfl) (by simp) ?_
      refine AllReadyH.cons rfl (fun K hKK => ?_) (AllReadyH.nil)
      have c_bz := bz.cells
      have hfz : ∀ i, y2.frozen? ⟨W0.heap.size, i, none⟩ = false := fun i => by
        have z6 := bz
        unfold Blk at z6
        simp [World.frozen?, z6]
      go_simp
      have hb3 : (World.drew W0).heap.size ≤ W0.heap.size := Nat.le_refl _
      have hf : Blk ((((y2.setCell ⟨W0.heap.size, 0, none⟩ (.bool true)).setCell ⟨W0.heap.size, 1, none⟩ (.slice A2 (L) c2)).setCell ⟨W0.heap.size, 2, none⟩ (.slice A2' n2 c2')).setCell ⟨W0.heap.size, 3, none⟩ (.slice A3 n3 c3)) (W0.heap.size) (.cells #[.bool true, .slice A2 (L) c2, .slice A2' n2 c2', .slice A3 n3 c3] 30) :=
        heap_setCells_all bz [.bool true, .slice A2 (L) c2, .slice A2' n2 c2', .slice A3 n3 c3] rfl
      have hxf : Ext (World.drew W0) ((((y2.setCell ⟨W0.heap.size, 0, none⟩ (.bool true)).setCell ⟨W0.heap.size, 1, none⟩ (.slice A2 (L) c2)).setCell ⟨W0.heap.size, 2, none⟩ (.slice A2' n2 c2')).setCell ⟨W0.heap.size, 3, none⟩ (.slice A3 n3 c3)) := (((hx.setCell hb3 _).setCell hb3 _).setCell hb3 _).setCell hb3 _
      refine hKK.out _ _ (hS _ hxf) (fun hHeld => ?_)
      clear hKK K
      try dsimp only
      refine wpAnyH_done (by kernel_rfl) ?_ _
      go_simp
      go_wp2_with fail
      go_meet
      exact ⟨rfl, W0.heap.size, A2, c2, A2', n2, c2', A3, n3, c3, rfl, hf, by rw [hV]; exact hxf⟩
  case rest =>
  obtain ⟨rfl, bxy, A2y, c2y, D2y, n2y, d2y, A3y, n3y, c3y, rfl, my, hXc⟩ := hcut
  replace hX := hX.trans hXc
  replace hI4 := hI4.ext hXc
  replace hloc := hloc.ext hXc
  replace b1 := b1.ext hXc
  replace b2 := b2.ext hXc
  replace n1 := n1.ext hXc
  replace hg2 := Nat.lt_of_lt_of_le hg2 hXc.size
  replace mx := mx.ext hXc
  clear hXc hPl hS hV V W0
  have g1 : IntKind.i64.wrap (3 * (L : Int)) = ((3 * L : Nat) : Int) := by rw [IntWalk.i64_in _ (by omega)]; omega
  have g2 : IntKind.i64.wrap (4 + ((3 * L : Nat) : Int)) = ((4 + 3 * L : Nat) : Int) := by rw [IntWalk.i64_in _ (by omega)]; omega
  have c_n1 := n1.cells
  have c_mx := mx.cells
  have c_my := my.cells
  have hXh := Lib.hid hX
  clear hX hr hI4 hloc b1 b2 hg2
  go_wp2_with fail
  refine (alive33 _).mono ?_
  rintro e w9 ⟨rfl, hx9⟩
  have hf := Lib.hid (hXh.out.trans hx9)
  clear hx9
  go_wp2_with fail
  go_ret
  exact ⟨rfl, hf.out⟩
end Go.Proofs.YtbaajjkopdjbgaaGreat
/-
  AdaptAlone: the input opened.
-/
namespace Go.Proofs.YtbaajjkopdjbgaaGreat.adaptAlone
open Go.ChangeShapes Go.WideShapes Go.ChangeAt Go.RowKit Kv
set_option maxRecDepth 100000 in
theorem main (H : Type) (enc : TypeId × Value → H) (W : World) (base : Nat) (args : Array Value) (ds : List (DataW H)) (p : List MemPlace)
    (hval : ∀ (j : Nat) t v, Tryz.f3.params[j]? = some t → args[j]? = some v → Value.okWide Tryz.prog W .any base t v)
    (hA : DataW.TrodAll enc Tryz.prog W 0 (fun _ => true) true Tryz.f3.params.toList args.toList ds p) (_hL : laidMetH Tryz.prog Rows.adaptAloneRow.laid W) :
    Calls Tryz.prog 3 args W fun e w' => e = .returned (.bool true) ∧ Ext W w' := by
  rw [Tryz.params3] at hA hval
  obtain ⟨v0, vs0, d0, ds0, p0, q0, hargs, rfl, rfl, h0, r0⟩ := trodAll_cons hA
  obtain ⟨v1, vs1, d1, ds1, p1, q1, rfl, rfl, rfl, h1, r1⟩ := trodAll_cons r0
  obtain ⟨rfl, rfl, rfl⟩ := trodAll_nil r1
  obtain rfl : args = #[v0, v1] := by cases args; simp_all
  obtain ⟨s, rfl, rfl, rfl, ws⟩ := open_int Tryz.underlying5 (hval 0 5 v0 rfl rfl) h0
  obtain ⟨t, rfl, rfl, rfl, wt⟩ := open_int Tryz.underlying5 (hval 1 5 v1 rfl rfl) h1
  have hs := bounds_u8 ws
  have ht := bounds_u8 wt
  obtain ⟨n, rfl⟩ : ∃ n : Nat, s = (n : Int) := ⟨s.toNat, by omega⟩
  obtain ⟨me, rfl⟩ : ∃ n : Nat, t = (n : Int) := ⟨t.toNat, by omega⟩
  exact adalone_walk n me W (by omega) (by omega)
end Go.Proofs.YtbaajjkopdjbgaaGreat.adaptAlone
/-
  AdaptAlone holds: whoever is alone is in by four accesses for its name and three for each level, and once more by those of the levels alone.
-/
namespace Go.Proofs.YtbaajjkopdjbgaaGreat.adaptAlone
open Go.ChangeShapes Go.WideShapes Go.ChangeAt Go.RowKit

theorem laidOut : laidOutB Tryz.prog = true := by kernel_rfl
set_option maxRecDepth 100000 in
theorem contract (H : Type) (enc : TypeId × Value → H) (W : World) (base : Nat) (args : Array Value) (ds gs : List (DataW H)) (before : List MemPlace)
    (hval : ∀ (j : Nat) t v, Tryz.f3.params[j]? = some t → args[j]? = some v → Value.okWide Tryz.prog W .any base t v)
    (hW : DataW.Whole enc Tryz.prog Tryz.f3.params.toList Rows.adaptAloneSpec.vars false W args.toList ds gs before) (hL : laidMetH Tryz.prog Rows.adaptAloneRow.laid W) :
    Calls Tryz.prog 3 args W fun e W' => ∃ v, e = .returned v ∧ Rows.adaptAloneSpec.post enc Tryz.prog Tryz.f3 false true false false W args v W' := by
  refine (main H enc W base args ds before hval (by obtain ⟨p, q, hA, hV, hpq, _, _⟩ := hW; obtain ⟨_, rfl⟩ := trodVars_none hV; rw [List.append_nil] at hpq; subst hpq; exact hA) hL).mono fun e W' ⟨he, hg⟩ => ⟨_, he, ?_⟩
  refine law_post (tb := 4) laidOut ?_ (by kernel_rfl) Tryz.underlying4 rfl ?_ hW hg
  · rw [Tryz.params3]
    intro t ht
    simp only [List.mem_cons, List.not_mem_nil, or_false] at ht
    rcases ht with rfl | rfl <;> exact ⟨by kernel_rfl, of_decide_eq_true (by kernel_rfl)⟩
  · intro ds hl
    rw [Tryz.params3] at hl
    match ds, hl with
    | [d0, d1], _ => rfl
set_option maxRecDepth 100000 in
theorem laid_met (os : Os) : laidMet Tryz.prog Rows.adaptAloneRow.laid (((World.holding Tryz.prog os ⟨#[], #[], []⟩)).forCall (fun _ _ => 0) ⟨#[], #[.int .u8 0, .int .u8 0], []⟩).memory :=
  laidMet_of_run' 8 (by kernel_rfl) (by kernel_rfl)
set_option maxRecDepth 100000 in
theorem reads (os : Os) {H : Type} (enc : TypeId × Value → H) : ∃ places, DataW.whole enc Tryz.prog (((World.holding Tryz.prog os ⟨#[], #[], []⟩)).forCall (fun _ _ => 0) ⟨#[], #[.int .u8 0, .int .u8 0], []⟩).memory Tryz.f3.params.toList Rows.adaptAloneSpec.vars false (#[.int .u8 0, .int .u8 0] : Array Value).toList 8 = some ([.lit (.int .u8 0), .lit (.int .u8 0)], [], places) :=
  ⟨[], by kernel_rfl⟩
set_option maxRecDepth 100000 in
theorem lifted (os : Os) (started : os.Started) (H : Type) (enc : TypeId × Value → H) (F : Stop.Interp) :
    ReturnsInHanded {} Tryz.checked os 3 .any ((OpenSpec.ofChange Rows.adaptAloneSpec).preRow enc Tryz.prog Tryz.f3 Rows.adaptAloneRow.domain false Rows.adaptAloneRow.laid) (((OpenSpec.ofChange Rows.adaptAloneSpec).at F).post enc Tryz.prog Tryz.f3 false true false false) := by
  obtain ⟨places, hx⟩ := reads os enc
  refine returnsInHanded_of_row (C := Tryz.checked) (s := (OpenSpec.ofChange Rows.adaptAloneSpec)) own started (by kernel_rfl) Tryz.func3
    (witness_row_at (enc := enc) (C := Tryz.checked) false (World.holding Tryz.prog os ⟨#[], #[], []⟩) #[.int .u8 0, .int .u8 0] rfl (by kernel_rfl) (by kernel_rfl) (by kernel_rfl)
      (OpenSpec.preRow_of_cond 8 hx (by kernel_rfl) (fun k hk => by cases hk) (by kernel_rfl) (laid_met os))) ?_
  intro W base args ds gs before hval hW _ _ _ hL _ _
  exact contract H enc W base args ds gs before hval hW hL
theorem said : Rows.AdaptAloneSaid :=
  OpenClaim.holds_of_cond 3 Tryz.f3 rfl rfl rfl rfl rfl rfl rfl ⟨rfl, rfl, rfl, rfl, rfl⟩ rfl rfl rfl rfl rfl (by kernel_rfl) Tryz.func3 (by kernel_rfl)
    (of_decide_eq_true (by kernel_rfl)) (by unfold Func.isWrapper; first | (rw [if_pos (by decide +kernel)]; kernel_rfl) | (rw [if_neg (by decide +kernel)]; exact ⟨rfl, rfl⟩))
    (fun os started H enc _ F => by rw [OpenClaim.pre_eq_preRow]; exact lifted os started H enc F)

end Go.Proofs.YtbaajjkopdjbgaaGreat.adaptAlone
