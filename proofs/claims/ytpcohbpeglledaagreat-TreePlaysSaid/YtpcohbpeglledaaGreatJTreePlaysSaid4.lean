/-
  Trees of locks of two sides: climbing and going down, by the document.
-/
import Derived.Test.YtpcohbpeglledaaGreatJTreePlaysSaid3
/-
  Trees of locks of two sides: climbing and going down, by the document.
-/
namespace Go.Proofs.YtpcohbpeglledaaGreat
open Go.RowKit Kv
theorem node_enter_r7 (B p D n : Nat) (o : Bool) (S : TS) (rs : List Reg) (x me : Int) (b c : Nat) (w : World) (h : RAt B w p o S) (hl : RegsAt [3, 4, 5] w p b rs) (hall : ∀ r ∈ rs, r.ok ∧ me < r.n ∧ r.told me) (hm0 : 0 ≤ me) (hn : x / 2 = n) (hn1 : 1 ≤ n) (hn2 : n * 4 ≤ rs.length) (hD : S.left < D) :
    Calls Tryz.prog 29 #[.pointer (some ⟨p, 0, none⟩), .slice (some ⟨b, 4 * (n - 1) * 7, none⟩) 4 c, .int .i64 (x % 2), .int .i64 me] w (RPost encU B p w (nodeE 4 D rs me x) o S) := by
  unfold nodeE
  rw [if_pos rfl, hn, Int.toNat_natCast]
  obtain ⟨k0, l0, t0⟩ := hall _ (List.mem_of_getElem? (nthR_of (rs := rs) (i := 4 * (n - 1)) (by omega)))
  obtain ⟨k1, l1, t1⟩ := hall _ (List.mem_of_getElem? (nthR_of (rs := rs) (i := 4 * (n - 1) + 1) (by omega)))
  obtain ⟨k2, l2, t2⟩ := hall _ (List.mem_of_getElem? (nthR_of (rs := rs) (i := 4 * (n - 1) + 2) (by omega)))
  obtain ⟨k3, l3, t3⟩ := hall _ (List.mem_of_getElem? (nthR_of (rs := rs) (i := 4 * (n - 1) + 3) (by omega)))
  exact kesn_enter_r B p D o S _ _ _ _ (x % 2) me b c (4 * (n - 1)) rs w h hl ⟨nthR_of (i := 4 * (n - 1)) (by omega), nthR_of (i := 4 * (n - 1) + 1) (by omega), nthR_of (i := 4 * (n - 1) + 2) (by omega), nthR_of (i := 4 * (n - 1) + 3) (by omega)⟩ k0 k1 k2 k3 hm0 l0 l1 l2 l3 t0 t1 t2 t3 hD
theorem node_leave_r7 (B p n : Nat) (o : Bool) (S : TS) (rs : List Reg) (x me : Int) (b c : Nat) (w : World) (h : RAt B w p o S) (hl : RegsAt [3, 4, 5] w p b rs) (hall : ∀ r ∈ rs, r.ok ∧ me < r.n ∧ r.told me) (hm0 : 0 ≤ me) (hn : x / 2 = n) (hn1 : 1 ≤ n) (hn2 : n * 4 ≤ rs.length) :
    Calls Tryz.prog 140 #[.pointer (some ⟨p, 0, none⟩), .slice (some ⟨b, 4 * (n - 1) * 7, none⟩) 4 c, .int .i64 (x % 2), .int .i64 me] w (RPost encU B p w (nodeL 4 rs me x) o S) := by
  unfold nodeL
  rw [hn, Int.toNat_natCast]
  obtain ⟨k0, l0, t0⟩ := hall _ (List.mem_of_getElem? (nthR_of (rs := rs) (i := 4 * (n - 1)) (by omega)))
  obtain ⟨k1, l1, t1⟩ := hall _ (List.mem_of_getElem? (nthR_of (rs := rs) (i := 4 * (n - 1) + 1) (by omega)))
  obtain ⟨k2, l2, t2⟩ := hall _ (List.mem_of_getElem? (nthR_of (rs := rs) (i := 4 * (n - 1) + 2) (by omega)))
  obtain ⟨k3, l3, t3⟩ := hall _ (List.mem_of_getElem? (nthR_of (rs := rs) (i := 4 * (n - 1) + 3) (by omega)))
  exact kesn_leave_r B p o S _ _ (nthR rs (4 * (n - 1) + 2)) (nthR rs (4 * (n - 1) + 3)) (x % 2) me b c (4 * (n - 1)) rs w h hl ⟨nthR_of (i := 4 * (n - 1)) (by omega), nthR_of (i := 4 * (n - 1) + 1) (by omega), nthR_of (i := 4 * (n - 1) + 2) (by omega), nthR_of (i := 4 * (n - 1) + 3) (by omega)⟩ k0 k1 hm0 l0 l1
theorem node_enter_r3 (B p D n : Nat) (o : Bool) (S : TS) (rs : List Reg) (x me : Int) (b c : Nat) (w : World) (h : RAt B w p o S) (hl : RegsAt [3, 4, 5] w p b rs) (hall : ∀ r ∈ rs, r.ok ∧ me < r.n ∧ r.told me) (hm0 : 0 ≤ me) (hn : x / 2 = n) (hn1 : 1 ≤ n) (hn2 : n * 3 ≤ rs.length) (hD : S.left < D) :
    Calls Tryz.prog 139 #[.pointer (some ⟨p, 0, none⟩), .slice (some ⟨b, 3 * (n - 1) * 7, none⟩) 3 c, .int .i64 (x % 2), .int .i64 me] w (RPost encU B p w (nodeE 3 D rs me x) o S) := by
  unfold nodeE
  rw [if_neg (by decide), hn, Int.toNat_natCast]
  obtain ⟨k0, l0, t0⟩ := hall _ (List.mem_of_getElem? (nthR_of (rs := rs) (i := 3 * (n - 1)) (by omega)))
  obtain ⟨k1, l1, t1⟩ := hall _ (List.mem_of_getElem? (nthR_of (rs := rs) (i := 3 * (n - 1) + 1) (by omega)))
  obtain ⟨k2, l2, t2⟩ := hall _ (List.mem_of_getElem? (nthR_of (rs := rs) (i := 3 * (n - 1) + 2) (by omega)))
  exact darbn_enter_r B p D o S _ _ _ (x % 2) me b c (3 * (n - 1)) rs w h hl ⟨nthR_of (i := 3 * (n - 1)) (by omega), nthR_of (i := 3 * (n - 1) + 1) (by omega), nthR_of (i := 3 * (n - 1) + 2) (by omega)⟩ k0 k1 k2 hm0 l0 l1 l2 t0 t1 hD
theorem node_leave_r3 (B p n : Nat) (o : Bool) (S : TS) (rs : List Reg) (x me : Int) (b c : Nat) (w : World) (h : RAt B w p o S) (hl : RegsAt [3, 4, 5] w p b rs) (hall : ∀ r ∈ rs, r.ok ∧ me < r.n ∧ r.told me) (hm0 : 0 ≤ me) (hn : x / 2 = n) (hn1 : 1 ≤ n) (hn2 : n * 3 ≤ rs.length) :
    Calls Tryz.prog 140 #[.pointer (some ⟨p, 0, none⟩), .slice (some ⟨b, 3 * (n - 1) * 7, none⟩) 3 c, .int .i64 (x % 2), .int .i64 me] w (RPost encU B p w (nodeL 3 rs me x) o S) := by
  unfold nodeL
  rw [hn, Int.toNat_natCast]
  obtain ⟨k0, l0, t0⟩ := hall _ (List.mem_of_getElem? (nthR_of (rs := rs) (i := 3 * (n - 1)) (by omega)))
  obtain ⟨k1, l1, t1⟩ := hall _ (List.mem_of_getElem? (nthR_of (rs := rs) (i := 3 * (n - 1) + 1) (by omega)))
  obtain ⟨k2, l2, t2⟩ := hall _ (List.mem_of_getElem? (nthR_of (rs := rs) (i := 3 * (n - 1) + 2) (by omega)))
  exact darbn_leave_r B p o S _ _ (nthR rs (3 * (n - 1) + 2)) (x % 2) me b c (3 * (n - 1)) rs w h hl ⟨nthR_of (i := 3 * (n - 1)) (by omega), nthR_of (i := 3 * (n - 1) + 1) (by omega), nthR_of (i := 3 * (n - 1) + 2) (by omega)⟩ k0 k1 hm0 l0 l1
set_option maxRecDepth 100000 in
set_option maxHeartbeats 2000000 in
theorem rclimb_r7 (B p D : Nat) (o : Bool) (S : TS) (kind : Int) (m place : Nat) (me : Int) (rs : List Reg) (A : Option Addr) (c : Nat) (w : World) (h : RAt B w p o S) (hk : kind = 7) (h1 : 1 ≤ m) (h2 : m ≤ 64) (h3 : place < m) (hlen : rs.length = 4 * (2 ^ levels m - 1)) (hc1 : rs.length ≤ c) (hc2 : c ≤ 9223372036854775807)
    (hreg : rs ≠ [] → ∃ b, A = some ⟨b, 0, none⟩ ∧ RegsAt [3, 4, 5] w p b rs) (hall : ∀ r ∈ rs, r.ok ∧ me < r.n ∧ r.told me) (hm0 : 0 ≤ me) (hD : S.left < D) :
    Calls Tryz.prog 79 #[.pointer (some ⟨p, 0, none⟩), .slice A rs.length c, .int .i64 kind, .int .i64 m, .int .i64 place, .int .i64 me] w (RPost encU B p w (forP (fun x _ => nodeE 4 D rs me x) (pathL m place) ()) o S) := by
  generalize hR : RPost encU B p w (forP (fun x _ => nodeE 4 D rs me x) (pathL m place) ()) o S = R
  have hO : ROwes R encU B p w (forP (fun x _ => nodeE 4 D rs me x) (pathL m place) ()) o S := hR ▸ rowes _ _ _ _ _ _ _
  clear hR
  have hmem := fun y (hy : y ∈ pathL m place) => pathL_mem h2 h3 hy
  have hPth := fun w => rpath_r m place w h1 h2 h3
  have hEa := fun w => each_r kind w
  unfold eachK at hEa
  rw [if_pos hk] at hEa
  have hlv := lev_le h2
  obtain ⟨p1, p2⟩ := pow_le hlv
  have e : (2 : Int) ^ levels m = ((2 ^ levels m : Nat) : Int) := by rw [Int.natCast_pow]; rfl
  rw [e] at hmem
  have hll : (pathL m place).length ≤ 128 := by
    have := pathN_len (2 ^ levels m + place) (2 ^ levels m + place)
    unfold pathL
    omega
  clear e hlv
  generalize 2 ^ levels m = P at *
  generalize pathL m place = l at *
  have hk7 : (kind == 7) = true := by simp [hk]
  have hmemh := Lib.hid hmem
  have hallh := Lib.hid hall
  have hlenh := Lib.hid hlen
  have hOh := Lib.hid hO
  clear hk hmem hall hlen hO
  go_enter Tryz.func79, Tryz.ntmps79
  go_wp2_with fail
  refine (hPth _).mono ?_
  rintro e w2 ⟨v3, rfl, hrow, hx2⟩
  obtain ⟨A3, c3, rfl, hR⟩ := RowH.of_row (p := p) (ix := [3, 4, 5]) hrow (fun b hb => h.fresh hx2 hb)
  have hK := Keep.of_ext (ix := [3, 4, 5]) (B := B) hx2 h.lt h.le
  have hP := h.ext hx2
  have hreg2 : rs ≠ [] → ∃ b, A = some ⟨b, 0, none⟩ ∧ RegsAt [3, 4, 5] w2 p b rs := fun hne => by
    obtain ⟨b, e1, e2⟩ := hreg hne
    exact ⟨b, e1, e2.extL hx2 h.lt⟩
  clear hx2 h hreg hrow hPth
  go_wp2_with fail
  refine (hEa _).mono ?_
  rintro e w' ⟨rfl, rfl⟩
  clear hEa
  by_cases hl0 : l = []
  · subst hl0
    have hf : R (.returned (encU ())) w2 := hOh.out.ret hP hK
    clear hOh hmemh hR hreg2 hallh hlenh
    go_wp2_with fail
    go_loopw [14] (fun i wr => i = .int .i64 0 ∧ w2 = wr) (fun _ _ => 0)
    case atStart => exact ⟨rfl, rfl⟩
    case round =>
      obtain ⟨rfl, rfl⟩ := hrel
      go_wp2_with fail
      first | exact hf | (refine bodyPost_ret (results_none rfl _ _ _) rfl ?_; exact hf)
  obtain ⟨g, cur, rfl, hg, hcur⟩ := hR hl0
  obtain ⟨b, rfl, hl⟩ := hreg2 (by
    obtain ⟨y, l', rfl⟩ : ∃ y l', l = y :: l' := by cases l with | nil => exact absurd rfl hl0 | cons y l' => exact ⟨y, l', rfl⟩
    have h1 := hmemh.out y (List.mem_cons_self ..)
    have h2 := hlenh.out
    intro hne
    rw [hne, List.length_nil] at h2
    omega)
  have hch := Lib.hid hcur
  clear hreg2 hR hl0 hcur
  go_wp2_with fail
  go_loopw [14] (fun i wr => ∃ (j : Nat) (o2 : Bool) (S2 : TS), i = .int .i64 j ∧ j ≤ l.length ∧ RAt B wr p o2 S2 ∧ KeepR B p w wr ∧ HeldR wr p g (.cells cur 3) ∧ RegsAt [3, 4, 5] wr p b rs ∧ S2.left < D ∧ Hid (ROwes R encU B p w (forP (fun x _ => nodeE 4 D rs me x) (l.drop j) ()) o2 S2)) (fun i _ => l.length - (intOf i).toNat)
  case atStart => exact ⟨0, o, S, rfl, by omega, hP, hK, hg, hl, hD, hOh⟩
  case round =>
    clear hP hK hg hl hD hOh
    obtain ⟨j, o2, S2, rfl, hj, hP, hK, hg, hl, hD, hOh⟩ := hrel
    obtain ⟨_, _, _, _, _, hcc⟩ := hP.cell
    by_cases hjl : j < l.length
    · have dl : decide ((j : Int) < (l.length : Int)) = true := by rw [decide_eq_true_eq]; omega
      cases o2 with
      | true =>
        have hf : R (.returned (encU ())) wr := hOh.out.over () hP hK
        clear hOh hP hK hl hg
        go_wp2_with fail
        first | exact hf | (refine bodyPost_ret (results_none rfl _ _ _) rfl ?_; exact hf)
      | false =>
        obtain ⟨y, hy⟩ : ∃ y, l[j]? = some y := ⟨_, List.getElem?_eq_getElem hjl⟩
        have hym := hmemh.out y (List.mem_of_getElem? hy)
        obtain ⟨Y, rfl⟩ : ∃ Y : Nat, y = (Y : Int) := ⟨y.toNat, by omega⟩
        have c_g := hg.at_ hch.out hy
        have hO := hOh.out
        rw [List.drop_eq_getElem_cons hjl, show l[j] = (Y : Int) from by rw [List.getElem?_eq_getElem hjl] at hy; exact Option.some.inj hy] at hO
        have hOk : Hid (ROwes R encU B p w ((nodeE 4 D rs me (Y : Int)).bind fun _ => forP (fun x _ => nodeE 4 D rs me x) (l.drop (j + 1)) ()) false S2) := Lib.hid hO
        clear hO hOh hy
        obtain ⟨k, hk⟩ : ∃ k, Y / 2 = k + 1 := ⟨Y / 2 - 1, by omega⟩
        have hn2 : (k + 1) * 4 ≤ rs.length := by have := hlenh.out; omega
        have hlen9 : rs.length ≤ 1000000 := by have := hlenh.out; omega
        have hq1 : IntKind.i64.wrap ((Y : Int) / 2) = (k : Int) + 1 := by rw [IntWalk.i64_in _ (by omega)]; omega
        have hq2 : (Y : Int).tmod 2 = (Y : Int) % 2 := Int.tmod_eq_emod_of_nonneg (by omega)
        have hq3 := IntWalk.i64_in (4 * (k : Int)) (by omega)
        have hq4 := IntWalk.i64_in (4 * ((k : Int) + 1)) (by omega)
        have hq5 : (Y : Int) / 2 = (k : Int) + 1 := by omega
        obtain ⟨c2, rfl⟩ : ∃ c2, c = 4 * (k + 1) + c2 := ⟨c - 4 * (k + 1), by omega⟩
        go_wp2_with fail
        rw [show 4 * (k + 1) - 4 * k = 4 from by omega]
        have hc := node_enter_r7 B p D (k + 1) false S2 rs Y me b (4 * (k + 1) + c2 - 4 * k) wr hP hl hallh.out hm0 (by omega) (by omega) hn2 hD
        rw [Nat.add_sub_cancel] at hc
        clear hcc c_g
        refine rstepL hOk.out hK hc ?_
        clear hK hP hOk hc
        intro u o3 S3 w5 hlf _ hP hk1 hK hO
        replace hD := Nat.lt_of_le_of_lt hlf hD
        replace hg := hg.keep hk1
        replace hl := hl.keep hk1
        clear hk1 hlf
        have hf := Lib.hid hO
        clear hO
        go_wp2_with fail
        refine ⟨⟨j + 1, o3, S3, by go_num, by omega, hP, hK, hg, hl, hD, hf⟩, ?_⟩
        simp [intOf]; omega
    · obtain rfl : j = l.length := by omega
      have dl : decide ((l.length : Int) < (l.length : Int)) = false := by rw [decide_eq_false_iff_not]; omega
      have hO := hOh.out
      rw [List.drop_length] at hO
      have hf : R (.returned (encU ())) wr := hO.ret hP hK
      clear hO hOh hP hK hl hg
      go_wp2_with fail
      first | exact hf | (refine bodyPost_ret (results_none rfl _ _ _) rfl ?_; exact hf)
set_option maxRecDepth 100000 in
set_option maxHeartbeats 2000000 in
theorem rclimb_r3 (B p D : Nat) (o : Bool) (S : TS) (kind : Int) (m place : Nat) (me : Int) (rs : List Reg) (A : Option Addr) (c : Nat) (w : World) (h : RAt B w p o S) (hk : kind ≠ 7) (h1 : 1 ≤ m) (h2 : m ≤ 64) (h3 : place < m) (hlen : rs.length = 3 * (2 ^ levels m - 1)) (hc1 : rs.length ≤ c) (hc2 : c ≤ 9223372036854775807)
    (hreg : rs ≠ [] → ∃ b, A = some ⟨b, 0, none⟩ ∧ RegsAt [3, 4, 5] w p b rs) (hall : ∀ r ∈ rs, r.ok ∧ me < r.n ∧ r.told me) (hm0 : 0 ≤ me) (hD : S.left < D) :
    Calls Tryz.prog 79 #[.pointer (some ⟨p, 0, none⟩), .slice A rs.length c, .int .i64 kind, .int .i64 m, .int .i64 place, .int .i64 me] w (RPost encU B p w (forP (fun x _ => nodeE 3 D rs me x) (pathL m place) ()) o S) := by
  generalize hR : RPost encU B p w (forP (fun x _ => nodeE 3 D rs me x) (pathL m place) ()) o S = R
  have hO : ROwes R encU B p w (forP (fun x _ => nodeE 3 D rs me x) (pathL m place) ()) o S := hR ▸ rowes _ _ _ _ _ _ _
  clear hR
  have hmem := fun y (hy : y ∈ pathL m place) => pathL_mem h2 h3 hy
  have hPth := fun w => rpath_r m place w h1 h2 h3
  have hEa := fun w => each_r kind w
  unfold eachK at hEa
  rw [if_neg hk] at hEa
  have hlv := lev_le h2
  obtain ⟨p1, p2⟩ := pow_le hlv
  have e : (2 : Int) ^ levels m = ((2 ^ levels m : Nat) : Int) := by rw [Int.natCast_pow]; rfl
  rw [e] at hmem
  have hll : (pathL m place).length ≤ 128 := by
    have := pathN_len (2 ^ levels m + place) (2 ^ levels m + place)
    unfold pathL
    omega
  clear e hlv
  generalize 2 ^ levels m = P at *
  generalize pathL m place = l at *
  have hk7 : (kind == 7) = false := by simp [hk]
  have hmemh := Lib.hid hmem
  have hallh := Lib.hid hall
  have hlenh := Lib.hid hlen
  have hOh := Lib.hid hO
  clear hk hmem hall hlen hO
  go_enter Tryz.func79, Tryz.ntmps79
  go_wp2_with fail
  refine (hPth _).mono ?_
  rintro e w2 ⟨v3, rfl, hrow, hx2⟩
  obtain ⟨A3, c3, rfl, hR⟩ := RowH.of_row (p := p) (ix := [3, 4, 5]) hrow (fun b hb => h.fresh hx2 hb)
  have hK := Keep.of_ext (ix := [3, 4, 5]) (B := B) hx2 h.lt h.le
  have hP := h.ext hx2
  have hreg2 : rs ≠ [] → ∃ b, A = some ⟨b, 0, none⟩ ∧ RegsAt [3, 4, 5] w2 p b rs := fun hne => by
    obtain ⟨b, e1, e2⟩ := hreg hne
    exact ⟨b, e1, e2.extL hx2 h.lt⟩
  clear hx2 h hreg hrow hPth
  go_wp2_with fail
  refine (hEa _).mono ?_
  rintro e w' ⟨rfl, rfl⟩
  clear hEa
  by_cases hl0 : l = []
  · subst hl0
    have hf : R (.returned (encU ())) w2 := hOh.out.ret hP hK
    clear hOh hmemh hR hreg2 hallh hlenh
    go_wp2_with fail
    go_loopw [14] (fun i wr => i = .int .i64 0 ∧ w2 = wr) (fun _ _ => 0)
    case atStart => exact ⟨rfl, rfl⟩
    case round =>
      obtain ⟨rfl, rfl⟩ := hrel
      go_wp2_with fail
      first | exact hf | (refine bodyPost_ret (results_none rfl _ _ _) rfl ?_; exact hf)
  obtain ⟨g, cur, rfl, hg, hcur⟩ := hR hl0
  obtain ⟨b, rfl, hl⟩ := hreg2 (by
    obtain ⟨y, l', rfl⟩ : ∃ y l', l = y :: l' := by cases l with | nil => exact absurd rfl hl0 | cons y l' => exact ⟨y, l', rfl⟩
    have h1 := hmemh.out y (List.mem_cons_self ..)
    have h2 := hlenh.out
    intro hne
    rw [hne, List.length_nil] at h2
    omega)
  have hch := Lib.hid hcur
  clear hreg2 hR hl0 hcur
  go_wp2_with fail
  go_loopw [14] (fun i wr => ∃ (j : Nat) (o2 : Bool) (S2 : TS), i = .int .i64 j ∧ j ≤ l.length ∧ RAt B wr p o2 S2 ∧ KeepR B p w wr ∧ HeldR wr p g (.cells cur 3) ∧ RegsAt [3, 4, 5] wr p b rs ∧ S2.left < D ∧ Hid (ROwes R encU B p w (forP (fun x _ => nodeE 3 D rs me x) (l.drop j) ()) o2 S2)) (fun i _ => l.length - (intOf i).toNat)
  case atStart => exact ⟨0, o, S, rfl, by omega, hP, hK, hg, hl, hD, hOh⟩
  case round =>
    clear hP hK hg hl hD hOh
    obtain ⟨j, o2, S2, rfl, hj, hP, hK, hg, hl, hD, hOh⟩ := hrel
    obtain ⟨_, _, _, _, _, hcc⟩ := hP.cell
    by_cases hjl : j < l.length
    · have dl : decide ((j : Int) < (l.length : Int)) = true := by rw [decide_eq_true_eq]; omega
      cases o2 with
      | true =>
        have hf : R (.returned (encU ())) wr := hOh.out.over () hP hK
        clear hOh hP hK hl hg
        go_wp2_with fail
        first | exact hf | (refine bodyPost_ret (results_none rfl _ _ _) rfl ?_; exact hf)
      | false =>
        obtain ⟨y, hy⟩ : ∃ y, l[j]? = some y := ⟨_, List.getElem?_eq_getElem hjl⟩
        have hym := hmemh.out y (List.mem_of_getElem? hy)
        obtain ⟨Y, rfl⟩ : ∃ Y : Nat, y = (Y : Int) := ⟨y.toNat, by omega⟩
        have c_g := hg.at_ hch.out hy
        have hO := hOh.out
        rw [List.drop_eq_getElem_cons hjl, show l[j] = (Y : Int) from by rw [List.getElem?_eq_getElem hjl] at hy; exact Option.some.inj hy] at hO
        have hOk : Hid (ROwes R encU B p w ((nodeE 3 D rs me (Y : Int)).bind fun _ => forP (fun x _ => nodeE 3 D rs me x) (l.drop (j + 1)) ()) false S2) := Lib.hid hO
        clear hO hOh hy
        obtain ⟨k, hk⟩ : ∃ k, Y / 2 = k + 1 := ⟨Y / 2 - 1, by omega⟩
        have hn2 : (k + 1) * 3 ≤ rs.length := by have := hlenh.out; omega
        have hlen9 : rs.length ≤ 1000000 := by have := hlenh.out; omega
        have hq1 : IntKind.i64.wrap ((Y : Int) / 2) = (k : Int) + 1 := by rw [IntWalk.i64_in _ (by omega)]; omega
        have hq2 : (Y : Int).tmod 2 = (Y : Int) % 2 := Int.tmod_eq_emod_of_nonneg (by omega)
        have hq3 := IntWalk.i64_in (3 * (k : Int)) (by omega)
        have hq4 := IntWalk.i64_in (3 * ((k : Int) + 1)) (by omega)
        have hq5 : (Y : Int) / 2 = (k : Int) + 1 := by omega
        obtain ⟨c2, rfl⟩ : ∃ c2, c = 3 * (k + 1) + c2 := ⟨c - 3 * (k + 1), by omega⟩
        go_wp2_with fail
        rw [show 3 * (k + 1) - 3 * k = 3 from by omega]
        have hc := node_enter_r3 B p D (k + 1) false S2 rs Y me b (3 * (k + 1) + c2 - 3 * k) wr hP hl hallh.out hm0 (by omega) (by omega) hn2 hD
        rw [Nat.add_sub_cancel] at hc
        clear hcc c_g
        refine rstepL hOk.out hK hc ?_
        clear hK hP hOk hc
        intro u o3 S3 w5 hlf _ hP hk1 hK hO
        replace hD := Nat.lt_of_le_of_lt hlf hD
        replace hg := hg.keep hk1
        replace hl := hl.keep hk1
        clear hk1 hlf
        have hf := Lib.hid hO
        clear hO
        go_wp2_with fail
        refine ⟨⟨j + 1, o3, S3, by go_num, by omega, hP, hK, hg, hl, hD, hf⟩, ?_⟩
        simp [intOf]; omega
    · obtain rfl : j = l.length := by omega
      have dl : decide ((l.length : Int) < (l.length : Int)) = false := by rw [decide_eq_false_iff_not]; omega
      have hO := hOh.out
      rw [List.drop_length] at hO
      have hf : R (.returned (encU ())) wr := hO.ret hP hK
      clear hO hOh hP hK hl hg
      go_wp2_with fail
      first | exact hf | (refine bodyPost_ret (results_none rfl _ _ _) rfl ?_; exact hf)
end Go.Proofs.YtpcohbpeglledaaGreat
/-
  Trees of locks of two sides: going down, by the document.
-/
namespace Go.Proofs.YtpcohbpeglledaaGreat
open Go.RowKit Kv
set_option maxRecDepth 100000 in
set_option maxHeartbeats 2000000 in
theorem rdown_r7 (B p : Nat) (o : Bool) (S : TS) (kind : Int) (m place : Nat) (me : Int) (rs : List Reg) (A : Option Addr) (c : Nat) (w : World) (h : RAt B w p o S) (hk : kind = 7) (h1 : 1 ≤ m) (h2 : m ≤ 64) (h3 : place < m) (hlen : rs.length = 4 * (2 ^ levels m - 1)) (hc1 : rs.length ≤ c) (hc2 : c ≤ 9223372036854775807)
    (hreg : rs ≠ [] → ∃ b, A = some ⟨b, 0, none⟩ ∧ RegsAt [3, 4, 5] w p b rs) (hall : ∀ r ∈ rs, r.ok ∧ me < r.n ∧ r.told me) (hm0 : 0 ≤ me) :
    Calls Tryz.prog 80 #[.pointer (some ⟨p, 0, none⟩), .slice A rs.length c, .int .i64 kind, .int .i64 m, .int .i64 place, .int .i64 me] w (RPost encU B p w (forP (fun x _ => nodeL 4 rs me x) (pathL m place).reverse ()) o S) := by
  generalize hR : RPost encU B p w (forP (fun x _ => nodeL 4 rs me x) (pathL m place).reverse ()) o S = R
  have hO : ROwes R encU B p w (forP (fun x _ => nodeL 4 rs me x) (pathL m place).reverse ()) o S := hR ▸ rowes _ _ _ _ _ _ _
  clear hR
  have hmem := fun y (hy : y ∈ pathL m place) => pathL_mem h2 h3 hy
  have hPth := fun w => rpath_r m place w h1 h2 h3
  have hEa := fun w => each_r kind w
  unfold eachK at hEa
  rw [if_pos hk] at hEa
  have hlv := lev_le h2
  obtain ⟨p1, p2⟩ := pow_le hlv
  have e : (2 : Int) ^ levels m = ((2 ^ levels m : Nat) : Int) := by rw [Int.natCast_pow]; rfl
  rw [e] at hmem
  have hll : (pathL m place).length ≤ 128 := by
    have := pathN_len (2 ^ levels m + place) (2 ^ levels m + place)
    unfold pathL
    omega
  clear e hlv
  generalize 2 ^ levels m = P at *
  generalize pathL m place = l at *
  have hk7 : (kind == 7) = true := by simp [hk]
  have hmemh := Lib.hid hmem
  have hallh := Lib.hid hall
  have hlenh := Lib.hid hlen
  have hOh := Lib.hid hO
  clear hk hmem hall hlen hO
  go_enter Tryz.func80, Tryz.ntmps80
  go_wp2_with fail
  refine (hPth _).mono ?_
  rintro e w2 ⟨v3, rfl, hrow, hx2⟩
  obtain ⟨A3, c3, rfl, hR⟩ := RowH.of_row (p := p) (ix := [3, 4, 5]) hrow (fun b hb => h.fresh hx2 hb)
  have hK := Keep.of_ext (ix := [3, 4, 5]) (B := B) hx2 h.lt h.le
  have hP := h.ext hx2
  have hreg2 : rs ≠ [] → ∃ b, A = some ⟨b, 0, none⟩ ∧ RegsAt [3, 4, 5] w2 p b rs := fun hne => by
    obtain ⟨b, e1, e2⟩ := hreg hne
    exact ⟨b, e1, e2.extL hx2 h.lt⟩
  clear hx2 h hreg hrow hPth
  go_wp2_with fail
  refine (hEa _).mono ?_
  rintro e w' ⟨rfl, rfl⟩
  clear hEa
  by_cases hl0 : l = []
  · subst hl0
    have hf : R (.returned (encU ())) w2 := hOh.out.ret hP hK
    clear hOh hmemh hR hreg2 hallh hlenh
    go_wp2_with fail
    go_loopw [14] (fun i wr => i = .int .i64 (-1) ∧ w2 = wr) (fun _ _ => 0)
    case atStart => exact ⟨rfl, rfl⟩
    case round =>
      obtain ⟨rfl, rfl⟩ := hrel
      go_wp2_with fail
      first | exact hf | (refine bodyPost_ret (results_none rfl _ _ _) rfl ?_; exact hf)
  obtain ⟨g, cur, rfl, hg, hcur⟩ := hR hl0
  obtain ⟨b, rfl, hl⟩ := hreg2 (by
    obtain ⟨y, l', rfl⟩ : ∃ y l', l = y :: l' := by cases l with | nil => exact absurd rfl hl0 | cons y l' => exact ⟨y, l', rfl⟩
    have h1 := hmemh.out y (List.mem_cons_self ..)
    have h2 := hlenh.out
    intro hne
    rw [hne, List.length_nil] at h2
    omega)
  have hch := Lib.hid hcur
  clear hreg2 hR hl0 hcur
  have hq0 := IntWalk.i64_in ((l.length : Int) - 1) (by omega)
  go_wp2_with fail
  go_loopw [14] (fun i wr => ∃ (j : Nat) (o2 : Bool) (S2 : TS), i = .int .i64 ((j : Int) - 1) ∧ j ≤ l.length ∧ RAt B wr p o2 S2 ∧ KeepR B p w wr ∧ HeldR wr p g (.cells cur 3) ∧ RegsAt [3, 4, 5] wr p b rs ∧ Hid (ROwes R encU B p w (forP (fun x _ => nodeL 4 rs me x) (l.take j).reverse ()) o2 S2)) (fun i _ => (intOf i + 1).toNat)
  case atStart => exact ⟨l.length, o, S, rfl, by omega, hP, hK, hg, hl, by rw [List.take_length]; exact hOh⟩
  case round =>
    clear hP hK hg hl hOh hq0
    obtain ⟨j, o2, S2, rfl, hj, hP, hK, hg, hl, hOh⟩ := hrel
    obtain ⟨_, _, _, _, _, hcc⟩ := hP.cell
    cases j with
    | succ j =>
      have hjl : j < l.length := by omega
      rw [show (((j + 1 : Nat) : Int) - 1) = (j : Int) from by omega]
      have dl : decide ((0 : Int) ≤ (j : Int)) = true := by rw [decide_eq_true_eq]; omega
      cases o2 with
      | true =>
        have hf : R (.returned (encU ())) wr := hOh.out.over () hP hK
        clear hOh hP hK hl hg
        go_wp2_with fail
        first | exact hf | (refine bodyPost_ret (results_none rfl _ _ _) rfl ?_; exact hf)
      | false =>
        obtain ⟨y, hy⟩ : ∃ y, l[j]? = some y := ⟨_, List.getElem?_eq_getElem hjl⟩
        have hym := hmemh.out y (List.mem_of_getElem? hy)
        obtain ⟨Y, rfl⟩ : ∃ Y : Nat, y = (Y : Int) := ⟨y.toNat, by omega⟩
        have c_g := hg.at_ hch.out hy
        have hO := hOh.out
        rw [List.take_add_one, hy, Option.toList_some, List.reverse_append] at hO
        have hOk : Hid (ROwes R encU B p w ((nodeL 4 rs me (Y : Int)).bind fun _ => forP (fun x _ => nodeL 4 rs me x) (l.take j).reverse ()) false S2) := Lib.hid hO
        clear hO hOh hy
        obtain ⟨k, hk⟩ : ∃ k, Y / 2 = k + 1 := ⟨Y / 2 - 1, by omega⟩
        have hn2 : (k + 1) * 4 ≤ rs.length := by have := hlenh.out; omega
        have hlen9 : rs.length ≤ 1000000 := by have := hlenh.out; omega
        have hq1 : IntKind.i64.wrap ((Y : Int) / 2) = (k : Int) + 1 := by rw [IntWalk.i64_in _ (by omega)]; omega
        have hq2 : (Y : Int).tmod 2 = (Y : Int) % 2 := Int.tmod_eq_emod_of_nonneg (by omega)
        have hq3 := IntWalk.i64_in (4 * (k : Int)) (by omega)
        have hq4 := IntWalk.i64_in (4 * ((k : Int) + 1)) (by omega)
        have hq5 : (Y : Int) / 2 = (k : Int) + 1 := by omega
        have hq6 := IntWalk.i64_in ((j : Int) - 1) (by omega)
        have hq7 := IntWalk.i64_in ((k : Int) + 1) (by omega)
        have hq8 := IntWalk.i64_in (k : Int) (by omega)
        obtain ⟨c2, rfl⟩ : ∃ c2, c = 4 * (k + 1) + c2 := ⟨c - 4 * (k + 1), by omega⟩
        have f8 : (k : Int) ≤ (k : Int) + 1 := by omega
        have f1 : (0 : Int) ≤ 4 * ((k : Int) + 1) := by omega
        have f2 : (4 : Int) * ((k : Int) + 1) ≤ 4 * ((k : Int) + 1) + (c2 : Int) := by omega
        have f3 : (0 : Int) ≤ 4 * (k : Int) := by omega
        have f4 : (4 : Int) * (k : Int) ≤ max (4 * ((k : Int) + 1)) 0 := by omega
        have f5 : ((4 : Int) * ((k : Int) + 1)).toNat = 4 * (k + 1) := by omega
        have f6 : ((4 : Int) * (k : Int)).toNat = 4 * k := by omega
        have f7 : ¬ (4 * (k + 1) + c2 = 4 * k) := by omega
        go_wp2_with fail
        have hS : ∀ w', HeldR w' p g (.cells cur 3) → w'.cell? ⟨g, j, none⟩ = some (.int .i64 (Y : Int)) := fun w' x => by
          rw [← c_g, x.cells, hg.cells]
        have hgw := hg
        refine wp_region_held_drew (S := fun w' => w'.cell? ⟨g, j, none⟩ = some (.int .i64 (Y : Int))) rfl (hS _ hg) (fun hHeld => ?_)
        replace hl := hl.extL (Ext.refl wr).drew hP.lt
        replace hP := hP.drew
        replace hK := hK.drew
        replace hg := hg.drew
        refine wpAnyH_take (i := 0) (v := ?_) rfl (by kernel_rfl) (by kernel_rfl) (by kernel_rfl) (fun _ _ _ h => h) (Or.inl ⟨by kernel_rfl, ?_⟩) (by assumption) ?_
        rotate_left
        · (intro w hSw; (try dsimp only at hSw); go_simp; try with_reducible rfl)
        try simp only [put_pack]
        refine wpAnyH_take (i := 1) (v := ?_) rfl (by kernel_rfl) (by kernel_rfl) (by kernel_rfl) (fun _ _ _ h => h) (Or.inl ⟨by kernel_rfl, ?_⟩) (by assumption) ?_
        rotate_left
        · (intro w hSw; (try dsimp only at hSw); go_simp; try with_reducible rfl)
        try simp only [put_pack]
        refine wpAnyH_take (i := 2) (v := ?_) rfl (by kernel_rfl) (by kernel_rfl) (by kernel_rfl) (fun _ _ _ h => h) (Or.inl ⟨by kernel_rfl, ?_⟩) (by assumption) ?_
        rotate_left
        · (intro w hSw; (try dsimp only at hSw); go_simp; try with_reducible rfl)
        try simp only [put_pack]
        refine wpAnyH_take (i := 3) (v := ?_) rfl (by kernel_rfl) (by kernel_rfl) (by kernel_rfl) (fun _ _ _ h => h) (Or.inl ⟨by kernel_rfl, ?_⟩) (by assumption) ?_
        rotate_left
        · (intro w hSw; (try dsimp only at hSw); go_simp; try with_reducible rfl)
        try simp only [put_pack]
        refine wpAnyH_take (i := 4) (v := ?_) rfl (by kernel_rfl) (by kernel_rfl) (by kernel_rfl) (fun _ _ _ h => h) (Or.inl ⟨by kernel_rfl, ?_⟩) (by assumption) ?_
        rotate_left
        · (intro w hSw; (try dsimp only at hSw); go_simp; try with_reducible rfl)
        try simp only [put_pack]
        refine wpAnyH_take (i := 5) (v := ?_) rfl (by kernel_rfl) (by kernel_rfl) (by kernel_rfl) (fun _ _ _ h => h) (Or.inl ⟨by kernel_rfl, ?_⟩) (by assumption) ?_
        rotate_left
        · (intro w hSw; (try dsimp only at hSw); go_simp; try with_reducible rfl)
        try simp only [put_pack]
        refine wpAnyH_take (i := 6) (v := ?_) rfl (by kernel_rfl) (by kernel_rfl) (by kernel_rfl) (fun _ _ _ h => h) (Or.inl ⟨by kernel_rfl, ?_⟩) (by assumption) ?_
        rotate_left
        · (intro w hSw; (try dsimp only at hSw); go_simp; try with_reducible rfl)
        try simp only [put_pack]
        refine wpAnyH_take (i := 7) (v := ?_) rfl (by kernel_rfl) (by kernel_rfl) (by kernel_rfl) (fun _ _ _ h => h) (Or.inl ⟨by kernel_rfl, ?_⟩) (by assumption) ?_
        rotate_left
        · (intro w hSw; (try dsimp only at hSw); go_simp; try with_reducible rfl)
        try simp only [put_pack]
        refine wpAnyH_take (i := 8) (v := ?_) rfl (by kernel_rfl) (by kernel_rfl) (by kernel_rfl) (fun _ _ _ h => h) (Or.inl ⟨by kernel_rfl, ?_⟩) (by assumption) ?_
        rotate_left
        · (intro w hSw; (try dsimp only at hSw); go_simp; try with_reducible rfl)
        try simp only [put_pack]
        refine wpAnyH_take (i := 9) (v := ?_) rfl (by kernel_rfl) (by kernel_rfl) (by kernel_rfl) (fun _ _ _ h => h) (Or.inl ⟨by kernel_rfl, ?_⟩) (by assumption) ?_
        rotate_left
        · (intro w hSw; (try dsimp only at hSw); go_simp; try with_reducible rfl)
        try simp only [put_pack]
        refine wpAnyH_take (i := 10) (v := ?_) rfl (by kernel_rfl) (by kernel_rfl) (by kernel_rfl) (fun _ _ _ h => h) (Or.inl ⟨by kernel_rfl, ?_⟩) (by assumption) ?_
        rotate_left
        · (intro w hSw; (try dsimp only at hSw); go_simp; try with_reducible rfl)
        try simp only [put_pack]
        refine wpAnyH_take (i := 11) (v := ?_) rfl (by kernel_rfl) (by kernel_rfl) (by kernel_rfl) (fun _ _ _ h => h) (Or.inl ⟨by kernel_rfl, ?_⟩) (by assumption) ?_
        rotate_left
        · (intro w hSw; (try dsimp only at hSw); go_simp; try with_reducible rfl)
        try simp only [put_pack]
        refine wpAnyH_take (i := 12) (v := ?_) rfl (by kernel_rfl) (by kernel_rfl) (by kernel_rfl) (fun _ _ _ h => h) (Or.inl ⟨by kernel_rfl, ?_⟩) (by assumption) ?_
        rotate_left
        · (intro w hSw; (try dsimp only at hSw); go_simp; try with_reducible rfl)
        try simp only [put_pack]
        refine wpAnyH_take (i := 13) (v := ?_) rfl (by kernel_rfl) (by kernel_rfl) (by kernel_rfl) (fun _ _ _ h => h) (Or.inl ⟨by kernel_rfl, ?_⟩) (by assumption) ?_
        rotate_left
        · (intro w hSw; (try dsimp only at hSw); go_simp; try with_reducible rfl)
        try simp only [put_pack]
        refine wpAnyH_take (i := 14) (v := ?_) rfl (by kernel_rfl) (by kernel_rfl) (by kernel_rfl) (fun _ _ _ h => h) (Or.inl ⟨by kernel_rfl, ?_⟩) (by assumption) ?_
        rotate_left
        · (intro w hSw; (try dsimp only at hSw); go_simp; try with_reducible rfl)
        try simp only [put_pack]
        refine wpAnyH_take (i := 15) (v := ?_) rfl (by kernel_rfl) (by kernel_rfl) (by kernel_rfl) (fun _ _ _ h => h) (Or.inl ⟨by kernel_rfl, ?_⟩) (by assumption) ?_
        rotate_left
        · (intro w hSw; (try dsimp only at hSw); go_simp; try with_reducible rfl)
        try simp only [put_pack]
        refine wpAnyH_ready (rs := [16]) (by kernel_rfl) (by simp) ?_
        refine AllReadyH.cons rfl (fun K hKK => ?_) AllReadyH.nil
        go_simp
        rw [show 4 * (k + 1) - 4 * k = 4 from by omega]
        have hc := node_leave_r7 B p (k + 1) false S2 rs Y me b (4 * (k + 1) + c2 - 4 * k) wr.drew hP hl hallh.out hm0 (by omega) (by omega) hn2
        rw [Nat.add_sub_cancel] at hc
        clear hcc
        refine rstepL hOk.out hK hc ?_
        clear hK hP hOk hc
        intro u o3 S3 w5 hlf _ hP hk1 hK hO
        replace hg := hg.keep hk1
        replace hl := hl.keep hk1
        clear hk1 hlf
        refine hKK.out _ _ (by rw [hg.cells, ← c_g]; exact (hgw.cells j).symm) (fun hHeld => ?_)
        clear hKK K
        try dsimp only
        refine wpAnyH_done (by kernel_rfl) ?_ _
        go_simp
        have hf := Lib.hid hO
        clear hO hS c_g
        go_wp2_with fail
        refine ⟨⟨j, o3, S3, by go_num, by omega, hP, hK, hg, hl, hf⟩, ?_⟩
        simp [intOf]
    | zero =>
      have dl : decide ((0 : Int) ≤ -1) = false := rfl
      have hO := hOh.out
      have hf : R (.returned (encU ())) wr := hO.ret hP hK
      clear hO hOh hP hK hl hg
      go_wp2_with fail
      first | exact hf | (refine bodyPost_ret (results_none rfl _ _ _) rfl ?_; exact hf)
set_option maxRecDepth 100000 in
set_option maxHeartbeats 2000000 in
theorem rdown_r3 (B p : Nat) (o : Bool) (S : TS) (kind : Int) (m place : Nat) (me : Int) (rs : List Reg) (A : Option Addr) (c : Nat) (w : World) (h : RAt B w p o S) (hk : kind ≠ 7) (h1 : 1 ≤ m) (h2 : m ≤ 64) (h3 : place < m) (hlen : rs.length = 3 * (2 ^ levels m - 1)) (hc1 : rs.length ≤ c) (hc2 : c ≤ 9223372036854775807)
    (hreg : rs ≠ [] → ∃ b, A = some ⟨b, 0, none⟩ ∧ RegsAt [3, 4, 5] w p b rs) (hall : ∀ r ∈ rs, r.ok ∧ me < r.n ∧ r.told me) (hm0 : 0 ≤ me) :
    Calls Tryz.prog 80 #[.pointer (some ⟨p, 0, none⟩), .slice A rs.length c, .int .i64 kind, .int .i64 m, .int .i64 place, .int .i64 me] w (RPost encU B p w (forP (fun x _ => nodeL 3 rs me x) (pathL m place).reverse ()) o S) := by
  generalize hR : RPost encU B p w (forP (fun x _ => nodeL 3 rs me x) (pathL m place).reverse ()) o S = R
  have hO : ROwes R encU B p w (forP (fun x _ => nodeL 3 rs me x) (pathL m place).reverse ()) o S := hR ▸ rowes _ _ _ _ _ _ _
  clear hR
  have hmem := fun y (hy : y ∈ pathL m place) => pathL_mem h2 h3 hy
  have hPth := fun w => rpath_r m place w h1 h2 h3
  have hEa := fun w => each_r kind w
  unfold eachK at hEa
  rw [if_neg hk] at hEa
  have hlv := lev_le h2
  obtain ⟨p1, p2⟩ := pow_le hlv
  have e : (2 : Int) ^ levels m = ((2 ^ levels m : Nat) : Int) := by rw [Int.natCast_pow]; rfl
  rw [e] at hmem
  have hll : (pathL m place).length ≤ 128 := by
    have := pathN_len (2 ^ levels m + place) (2 ^ levels m + place)
    unfold pathL
    omega
  clear e hlv
  generalize 2 ^ levels m = P at *
  generalize pathL m place = l at *
  have hk7 : (kind == 7) = false := by simp [hk]
  have hmemh := Lib.hid hmem
  have hallh := Lib.hid hall
  have hlenh := Lib.hid hlen
  have hOh := Lib.hid hO
  clear hk hmem hall hlen hO
  go_enter Tryz.func80, Tryz.ntmps80
  go_wp2_with fail
  refine (hPth _).mono ?_
  rintro e w2 ⟨v3, rfl, hrow, hx2⟩
  obtain ⟨A3, c3, rfl, hR⟩ := RowH.of_row (p := p) (ix := [3, 4, 5]) hrow (fun b hb => h.fresh hx2 hb)
  have hK := Keep.of_ext (ix := [3, 4, 5]) (B := B) hx2 h.lt h.le
  have hP := h.ext hx2
  have hreg2 : rs ≠ [] → ∃ b, A = some ⟨b, 0, none⟩ ∧ RegsAt [3, 4, 5] w2 p b rs := fun hne => by
    obtain ⟨b, e1, e2⟩ := hreg hne
    exact ⟨b, e1, e2.extL hx2 h.lt⟩
  clear hx2 h hreg hrow hPth
  go_wp2_with fail
  refine (hEa _).mono ?_
  rintro e w' ⟨rfl, rfl⟩
  clear hEa
  by_cases hl0 : l = []
  · subst hl0
    have hf : R (.returned (encU ())) w2 := hOh.out.ret hP hK
    clear hOh hmemh hR hreg2 hallh hlenh
    go_wp2_with fail
    go_loopw [14] (fun i wr => i = .int .i64 (-1) ∧ w2 = wr) (fun _ _ => 0)
    case atStart => exact ⟨rfl, rfl⟩
    case round =>
      obtain ⟨rfl, rfl⟩ := hrel
      go_wp2_with fail
      first | exact hf | (refine bodyPost_ret (results_none rfl _ _ _) rfl ?_; exact hf)
  obtain ⟨g, cur, rfl, hg, hcur⟩ := hR hl0
  obtain ⟨b, rfl, hl⟩ := hreg2 (by
    obtain ⟨y, l', rfl⟩ : ∃ y l', l = y :: l' := by cases l with | nil => exact absurd rfl hl0 | cons y l' => exact ⟨y, l', rfl⟩
    have h1 := hmemh.out y (List.mem_cons_self ..)
    have h2 := hlenh.out
    intro hne
    rw [hne, List.length_nil] at h2
    omega)
  have hch := Lib.hid hcur
  clear hreg2 hR hl0 hcur
  have hq0 := IntWalk.i64_in ((l.length : Int) - 1) (by omega)
  go_wp2_with fail
  go_loopw [14] (fun i wr => ∃ (j : Nat) (o2 : Bool) (S2 : TS), i = .int .i64 ((j : Int) - 1) ∧ j ≤ l.length ∧ RAt B wr p o2 S2 ∧ KeepR B p w wr ∧ HeldR wr p g (.cells cur 3) ∧ RegsAt [3, 4, 5] wr p b rs ∧ Hid (ROwes R encU B p w (forP (fun x _ => nodeL 3 rs me x) (l.take j).reverse ()) o2 S2)) (fun i _ => (intOf i + 1).toNat)
  case atStart => exact ⟨l.length, o, S, rfl, by omega, hP, hK, hg, hl, by rw [List.take_length]; exact hOh⟩
  case round =>
    clear hP hK hg hl hOh hq0
    obtain ⟨j, o2, S2, rfl, hj, hP, hK, hg, hl, hOh⟩ := hrel
    obtain ⟨_, _, _, _, _, hcc⟩ := hP.cell
    cases j with
    | succ j =>
      have hjl : j < l.length := by omega
      rw [show (((j + 1 : Nat) : Int) - 1) = (j : Int) from by omega]
      have dl : decide ((0 : Int) ≤ (j : Int)) = true := by rw [decide_eq_true_eq]; omega
      cases o2 with
      | true =>
        have hf : R (.returned (encU ())) wr := hOh.out.over () hP hK
        clear hOh hP hK hl hg
        go_wp2_with fail
        first | exact hf | (refine bodyPost_ret (results_none rfl _ _ _) rfl ?_; exact hf)
      | false =>
        obtain ⟨y, hy⟩ : ∃ y, l[j]? = some y := ⟨_, List.getElem?_eq_getElem hjl⟩
        have hym := hmemh.out y (List.mem_of_getElem? hy)
        obtain ⟨Y, rfl⟩ : ∃ Y : Nat, y = (Y : Int) := ⟨y.toNat, by omega⟩
        have c_g := hg.at_ hch.out hy
        have hO := hOh.out
        rw [List.take_add_one, hy, Option.toList_some, List.reverse_append] at hO
        have hOk : Hid (ROwes R encU B p w ((nodeL 3 rs me (Y : Int)).bind fun _ => forP (fun x _ => nodeL 3 rs me x) (l.take j).reverse ()) false S2) := Lib.hid hO
        clear hO hOh hy
        obtain ⟨k, hk⟩ : ∃ k, Y / 2 = k + 1 := ⟨Y / 2 - 1, by omega⟩
        have hn2 : (k + 1) * 3 ≤ rs.length := by have := hlenh.out; omega
        have hlen9 : rs.length ≤ 1000000 := by have := hlenh.out; omega
        have hq1 : IntKind.i64.wrap ((Y : Int) / 2) = (k : Int) + 1 := by rw [IntWalk.i64_in _ (by omega)]; omega
        have hq2 : (Y : Int).tmod 2 = (Y : Int) % 2 := Int.tmod_eq_emod_of_nonneg (by omega)
        have hq3 := IntWalk.i64_in (3 * (k : Int)) (by omega)
        have hq4 := IntWalk.i64_in (3 * ((k : Int) + 1)) (by omega)
        have hq5 : (Y : Int) / 2 = (k : Int) + 1 := by omega
        have hq6 := IntWalk.i64_in ((j : Int) - 1) (by omega)
        have hq7 := IntWalk.i64_in ((k : Int) + 1) (by omega)
        have hq8 := IntWalk.i64_in (k : Int) (by omega)
        obtain ⟨c2, rfl⟩ : ∃ c2, c = 3 * (k + 1) + c2 := ⟨c - 3 * (k + 1), by omega⟩
        have f8 : (k : Int) ≤ (k : Int) + 1 := by omega
        have f1 : (0 : Int) ≤ 3 * ((k : Int) + 1) := by omega
        have f2 : (3 : Int) * ((k : Int) + 1) ≤ 3 * ((k : Int) + 1) + (c2 : Int) := by omega
        have f3 : (0 : Int) ≤ 3 * (k : Int) := by omega
        have f4 : (3 : Int) * (k : Int) ≤ max (3 * ((k : Int) + 1)) 0 := by omega
        have f5 : ((3 : Int) * ((k : Int) + 1)).toNat = 3 * (k + 1) := by omega
        have f6 : ((3 : Int) * (k : Int)).toNat = 3 * k := by omega
        have f7 : ¬ (3 * (k + 1) + c2 = 3 * k) := by omega
        go_wp2_with fail
        have hS : ∀ w', HeldR w' p g (.cells cur 3) → w'.cell? ⟨g, j, none⟩ = some (.int .i64 (Y : Int)) := fun w' x => by
          rw [← c_g, x.cells, hg.cells]
        have hgw := hg
        refine wp_region_held_drew (S := fun w' => w'.cell? ⟨g, j, none⟩ = some (.int .i64 (Y : Int))) rfl (hS _ hg) (fun hHeld => ?_)
        replace hl := hl.extL (Ext.refl wr).drew hP.lt
        replace hP := hP.drew
        replace hK := hK.drew
        replace hg := hg.drew
        refine wpAnyH_take (i := 0) (v := ?_) rfl (by kernel_rfl) (by kernel_rfl) (by kernel_rfl) (fun _ _ _ h => h) (Or.inl ⟨by kernel_rfl, ?_⟩) (by assumption) ?_
        rotate_left
        · (intro w hSw; (try dsimp only at hSw); go_simp; try with_reducible rfl)
        try simp only [put_pack]
        refine wpAnyH_take (i := 1) (v := ?_) rfl (by kernel_rfl) (by kernel_rfl) (by kernel_rfl) (fun _ _ _ h => h) (Or.inl ⟨by kernel_rfl, ?_⟩) (by assumption) ?_
        rotate_left
        · (intro w hSw; (try dsimp only at hSw); go_simp; try with_reducible rfl)
        try simp only [put_pack]
        refine wpAnyH_take (i := 2) (v := ?_) rfl (by kernel_rfl) (by kernel_rfl) (by kernel_rfl) (fun _ _ _ h => h) (Or.inl ⟨by kernel_rfl, ?_⟩) (by assumption) ?_
        rotate_left
        · (intro w hSw; (try dsimp only at hSw); go_simp; try with_reducible rfl)
        try simp only [put_pack]
        refine wpAnyH_take (i := 3) (v := ?_) rfl (by kernel_rfl) (by kernel_rfl) (by kernel_rfl) (fun _ _ _ h => h) (Or.inl ⟨by kernel_rfl, ?_⟩) (by assumption) ?_
        rotate_left
        · (intro w hSw; (try dsimp only at hSw); go_simp; try with_reducible rfl)
        try simp only [put_pack]
        refine wpAnyH_take (i := 4) (v := ?_) rfl (by kernel_rfl) (by kernel_rfl) (by kernel_rfl) (fun _ _ _ h => h) (Or.inl ⟨by kernel_rfl, ?_⟩) (by assumption) ?_
        rotate_left
        · (intro w hSw; (try dsimp only at hSw); go_simp; try with_reducible rfl)
        try simp only [put_pack]
        refine wpAnyH_take (i := 5) (v := ?_) rfl (by kernel_rfl) (by kernel_rfl) (by kernel_rfl) (fun _ _ _ h => h) (Or.inl ⟨by kernel_rfl, ?_⟩) (by assumption) ?_
        rotate_left
        · (intro w hSw; (try dsimp only at hSw); go_simp; try with_reducible rfl)
        try simp only [put_pack]
        refine wpAnyH_take (i := 6) (v := ?_) rfl (by kernel_rfl) (by kernel_rfl) (by kernel_rfl) (fun _ _ _ h => h) (Or.inl ⟨by kernel_rfl, ?_⟩) (by assumption) ?_
        rotate_left
        · (intro w hSw; (try dsimp only at hSw); go_simp; try with_reducible rfl)
        try simp only [put_pack]
        refine wpAnyH_take (i := 7) (v := ?_) rfl (by kernel_rfl) (by kernel_rfl) (by kernel_rfl) (fun _ _ _ h => h) (Or.inl ⟨by kernel_rfl, ?_⟩) (by assumption) ?_
        rotate_left
        · (intro w hSw; (try dsimp only at hSw); go_simp; try with_reducible rfl)
        try simp only [put_pack]
        refine wpAnyH_take (i := 8) (v := ?_) rfl (by kernel_rfl) (by kernel_rfl) (by kernel_rfl) (fun _ _ _ h => h) (Or.inl ⟨by kernel_rfl, ?_⟩) (by assumption) ?_
        rotate_left
        · (intro w hSw; (try dsimp only at hSw); go_simp; try with_reducible rfl)
        try simp only [put_pack]
        refine wpAnyH_take (i := 9) (v := ?_) rfl (by kernel_rfl) (by kernel_rfl) (by kernel_rfl) (fun _ _ _ h => h) (Or.inl ⟨by kernel_rfl, ?_⟩) (by assumption) ?_
        rotate_left
        · (intro w hSw; (try dsimp only at hSw); go_simp; try with_reducible rfl)
        try simp only [put_pack]
        refine wpAnyH_take (i := 10) (v := ?_) rfl (by kernel_rfl) (by kernel_rfl) (by kernel_rfl) (fun _ _ _ h => h) (Or.inl ⟨by kernel_rfl, ?_⟩) (by assumption) ?_
        rotate_left
        · (intro w hSw; (try dsimp only at hSw); go_simp; try with_reducible rfl)
        try simp only [put_pack]
        refine wpAnyH_take (i := 11) (v := ?_) rfl (by kernel_rfl) (by kernel_rfl) (by kernel_rfl) (fun _ _ _ h => h) (Or.inl ⟨by kernel_rfl, ?_⟩) (by assumption) ?_
        rotate_left
        · (intro w hSw; (try dsimp only at hSw); go_simp; try with_reducible rfl)
        try simp only [put_pack]
        refine wpAnyH_take (i := 12) (v := ?_) rfl (by kernel_rfl) (by kernel_rfl) (by kernel_rfl) (fun _ _ _ h => h) (Or.inl ⟨by kernel_rfl, ?_⟩) (by assumption) ?_
        rotate_left
        · (intro w hSw; (try dsimp only at hSw); go_simp; try with_reducible rfl)
        try simp only [put_pack]
        refine wpAnyH_take (i := 13) (v := ?_) rfl (by kernel_rfl) (by kernel_rfl) (by kernel_rfl) (fun _ _ _ h => h) (Or.inl ⟨by kernel_rfl, ?_⟩) (by assumption) ?_
        rotate_left
        · (intro w hSw; (try dsimp only at hSw); go_simp; try with_reducible rfl)
        try simp only [put_pack]
        refine wpAnyH_take (i := 14) (v := ?_) rfl (by kernel_rfl) (by kernel_rfl) (by kernel_rfl) (fun _ _ _ h => h) (Or.inl ⟨by kernel_rfl, ?_⟩) (by assumption) ?_
        rotate_left
        · (intro w hSw; (try dsimp only at hSw); go_simp; try with_reducible rfl)
        try simp only [put_pack]
        refine wpAnyH_take (i := 15) (v := ?_) rfl (by kernel_rfl) (by kernel_rfl) (by kernel_rfl) (fun _ _ _ h => h) (Or.inl ⟨by kernel_rfl, ?_⟩) (by assumption) ?_
        rotate_left
        · (intro w hSw; (try dsimp only at hSw); go_simp; try with_reducible rfl)
        try simp only [put_pack]
        refine wpAnyH_ready (rs := [16]) (by kernel_rfl) (by simp) ?_
        refine AllReadyH.cons rfl (fun K hKK => ?_) AllReadyH.nil
        go_simp
        rw [show 3 * (k + 1) - 3 * k = 3 from by omega]
        have hc := node_leave_r3 B p (k + 1) false S2 rs Y me b (3 * (k + 1) + c2 - 3 * k) wr.drew hP hl hallh.out hm0 (by omega) (by omega) hn2
        rw [Nat.add_sub_cancel] at hc
        clear hcc
        refine rstepL hOk.out hK hc ?_
        clear hK hP hOk hc
        intro u o3 S3 w5 hlf _ hP hk1 hK hO
        replace hg := hg.keep hk1
        replace hl := hl.keep hk1
        clear hk1 hlf
        refine hKK.out _ _ (by rw [hg.cells, ← c_g]; exact (hgw.cells j).symm) (fun hHeld => ?_)
        clear hKK K
        try dsimp only
        refine wpAnyH_done (by kernel_rfl) ?_ _
        go_simp
        have hf := Lib.hid hO
        clear hO hS c_g
        go_wp2_with fail
        refine ⟨⟨j, o3, S3, by go_num, by omega, hP, hK, hg, hl, hf⟩, ?_⟩
        simp [intOf]
    | zero =>
      have dl : decide ((0 : Int) ≤ -1) = false := rfl
      have hO := hOh.out
      have hf : R (.returned (encU ())) wr := hO.ret hP hK
      clear hO hOh hP hK hl hg
      go_wp2_with fail
      first | exact hf | (refine bodyPost_ret (results_none rfl _ _ _) rfl ?_; exact hf)
end Go.Proofs.YtpcohbpeglledaaGreat
/-
  Trees of locks of two sides: laid, acquired and released, by the document.
-/
namespace Go.Proofs.YtpcohbpeglledaaGreat
open Go.RowKit Kv
theorem rclimb_r (B p D : Nat) (o : Bool) (S : TS) (kind : Int) (m place : Nat) (me : Int) (rs : List Reg) (A : Option Addr) (c : Nat) (w : World) (h : RAt B w p o S) (h1 : 1 ≤ m) (h2 : m ≤ 64) (h3 : place < m) (hlen : rs.length = eachK kind * (2 ^ levels m - 1)) (hc1 : rs.length ≤ c) (hc2 : c ≤ 9223372036854775807)
    (hreg : rs ≠ [] → ∃ b, A = some ⟨b, 0, none⟩ ∧ RegsAt [3, 4, 5] w p b rs) (hall : ∀ r ∈ rs, r.ok ∧ me < r.n ∧ r.told me) (hm0 : 0 ≤ me) (hD : S.left < D) :
    Calls Tryz.prog 79 #[.pointer (some ⟨p, 0, none⟩), .slice A rs.length c, .int .i64 kind, .int .i64 m, .int .i64 place, .int .i64 me] w (RPost encU B p w (forP (fun x _ => nodeE (eachK kind) D rs me x) (pathL m place) ()) o S) := by
  unfold eachK at *
  by_cases hk : kind = 7
  · rw [if_pos hk] at *
    exact rclimb_r7 B p D o S kind m place me rs A c w h hk h1 h2 h3 hlen hc1 hc2 hreg hall hm0 hD
  · rw [if_neg hk] at *
    exact rclimb_r3 B p D o S kind m place me rs A c w h hk h1 h2 h3 hlen hc1 hc2 hreg hall hm0 hD
theorem rdown_r (B p : Nat) (o : Bool) (S : TS) (kind : Int) (m place : Nat) (me : Int) (rs : List Reg) (A : Option Addr) (c : Nat) (w : World) (h : RAt B w p o S) (h1 : 1 ≤ m) (h2 : m ≤ 64) (h3 : place < m) (hlen : rs.length = eachK kind * (2 ^ levels m - 1)) (hc1 : rs.length ≤ c) (hc2 : c ≤ 9223372036854775807)
    (hreg : rs ≠ [] → ∃ b, A = some ⟨b, 0, none⟩ ∧ RegsAt [3, 4, 5] w p b rs) (hall : ∀ r ∈ rs, r.ok ∧ me < r.n ∧ r.told me) (hm0 : 0 ≤ me) :
    Calls Tryz.prog 80 #[.pointer (some ⟨p, 0, none⟩), .slice A rs.length c, .int .i64 kind, .int .i64 m, .int .i64 place, .int .i64 me] w (RPost encU B p w (forP (fun x _ => nodeL (eachK kind) rs me x) (pathL m place).reverse ()) o S) := by
  unfold eachK at *
  by_cases hk : kind = 7
  · rw [if_pos hk] at *
    exact rdown_r7 B p o S kind m place me rs A c w h hk h1 h2 h3 hlen hc1 hc2 hreg hall hm0
  · rw [if_neg hk] at *
    exact rdown_r3 B p o S kind m place me rs A c w h hk h1 h2 h3 hlen hc1 hc2 hreg hall hm0
set_option maxRecDepth 100000 in
theorem treeregs_r (alg mode base loc room : Int) (N : Nat) (rs : List Reg) (w : World) (_h1 : 1 ≤ N) (h2 : N ≤ 64) (hl : layM (treeWants (eachK alg) N) N mode base loc = some rs) :
    Calls Tryz.prog 75 #[.agg #[.int .i64 alg, .int .i64 N, .int .i64 mode, .int .i64 base, .int .i64 loc, .int .i64 room]] w fun e w' => ∃ A c, e = .returned (.slice A rs.length c) ∧ (rs ≠ [] → ∃ b, A = some ⟨b, 0, none⟩ ∧ w.heap.size ≤ b ∧ b < w'.heap.size ∧ (∀ (i : Nat) u, (rs.flatMap regVals)[i]? = some u → w'.cell? ⟨b, i, none⟩ = some u)) ∧ rs.length ≤ c ∧ c ≤ 9223372036854775807 ∧ Ext w w' := by
  have hW := fun w => rtwants_r alg N w h2
  have hle := (pow_le (lev_le h2)).2
  have hE := each_le alg
  have hwl : (treeWants (eachK alg) N).length ≤ 1000 := by
    unfold treeWants
    rw [List.length_replicate]
    have := Nat.mul_le_mul hE.2 (show 2 ^ levels (N : Int) - 1 ≤ 63 by omega)
    omega
  generalize treeWants (eachK alg) N = lw at *
  replace hl := Lib.hid hl
  clear hle hE
  have hX := Ext.refl w
  have b1 := Blk.new w (.cells #[.int .i64 alg, .int .i64 N, .int .i64 mode, .int .i64 base, .int .i64 loc, .int .i64 room] 52)
  replace hX := hX.alloc (.cells #[.int .i64 alg, .int .i64 N, .int .i64 mode, .int .i64 base, .int .i64 loc, .int .i64 room] 52)
  have c_b1 := b1.cells
  go_enter Tryz.func75, Tryz.ntmps75
  go_wp2_with fail
  generalize w.alloc _ = W at *
  have hXW := hX
  clear hX c_b1
  have hX := (Ext.refl W).drew
  have hS : ∀ w', Ext W w' → (∀ i, w'.cell? ⟨w.heap.size, i, none⟩ = (#[.int .i64 alg, .int .i64 N, .int .i64 mode, .int .i64 base, .int .i64 loc, .int .i64 room] : Array Value)[i]?) := fun w' hx => (b1.ext hx).cells
  go_region_held2 (fun w' => ∀ i, w'.cell? ⟨w.heap.size, i, none⟩ = (#[.int .i64 alg, .int .i64 N, .int .i64 mode, .int .i64 base, .int .i64 loc, .int .i64 room] : Array Value)[i]?) (exact hS _ hX)
    (first
      | (go_at_call 66
         refine (hW _).mono ?_
         rintro e w2 ⟨v2, rfl, hw2, hx⟩
         replace hX := hX.trans hx
         have hz2 := hX.size
         clear hx)
      | (go_at_call 82
         refine (layr_some hl.out _ (hw2.ext (Ext.refl _)) hwl).mono ?_
         rintro e w3 ⟨v3, rfl, hr3, hx⟩
         replace hX := hX.trans hx
         clear hx))
  rename_i hh
  clear hh
  obtain ⟨⟨A, c, rfl, q1, q2, hV⟩, hown⟩ := hr3
  have hR : Hid (rs ≠ [] → ∃ b, A = some ⟨b, 0, none⟩ ∧ w.heap.size ≤ b ∧ b < w3.heap.size ∧ (∀ (i : Nat) u, (rs.flatMap regVals)[i]? = some u → w3.cell? ⟨b, i, none⟩ = some u)) := Lib.hid fun hne => by
    obtain ⟨b, rfl, hb, hcells⟩ := hV (by cases rs with | nil => exact absurd rfl hne | cons r l => simp [regVals])
    exact ⟨b, rfl, Nat.le_trans (Nat.le_trans hXW.size hz2) (hown b rfl), hb, hcells⟩
  have hfh := Lib.hid (hXW.trans hX)
  clear hV hown hz2
  go_wp2_with fail
  go_ret
  exact ⟨_, _, rfl, hR.out, q1, q2, hfh.out⟩
set_option maxRecDepth 100000 in
set_option maxHeartbeats 1000000 in
theorem treeacq_r (B p N D : Nat) (o : Bool) (S : TS) (alg mode base loc room : Int) (m : Nat) (rs : List Reg) (w : World) (h : RAt B w p o S) (h1 : 1 ≤ N) (h2 : N ≤ 64) (hm1 : m < N) (hl : layM (treeWants (eachK alg) N) N mode base loc = some rs)
    (hall : ∀ r ∈ rs, r.ok ∧ (m : Int) < r.n ∧ r.told m) (hD : S.left < D) (hn0 : S.nts.length = 0) :
    Calls Tryz.prog 71 #[.pointer (some ⟨p, 0, none⟩), .agg #[.int .i64 alg, .int .i64 N, .int .i64 mode, .int .i64 base, .int .i64 loc, .int .i64 room], .int .i64 m] w (RPost encI B p w (treeA (eachK alg) D rs N m) o S) := by
  have hlen := layM_len hl
  unfold treeWants at hlen
  rw [List.length_replicate] at hlen
  generalize hR : RPost encI B p w (treeA (eachK alg) D rs N m) o S = R
  have hO : ROwes R encI B p w (treeA (eachK alg) D rs N m) o S := hR ▸ rowes _ _ _ _ _ _ _
  clear hR
  have hK := Keep.refl [3, 4, 5] B p w
  have hP := h
  have b1 := hP.held (.cells #[.int .i64 alg, .int .i64 N, .int .i64 mode, .int .i64 base, .int .i64 loc, .int .i64 room] 52)
  replace hK := hK.trans (Keep.alloc (.cells #[.int .i64 alg, .int .i64 N, .int .i64 mode, .int .i64 base, .int .i64 loc, .int .i64 room] 52) hP.lt hP.le)
  replace hP := hP.alloc (.cells #[.int .i64 alg, .int .i64 N, .int .i64 mode, .int .i64 base, .int .i64 loc, .int .i64 room] 52)
  have c_b1 := b1.cells
  clear h
  unfold treeA at hO
  have hlh := Lib.hid hl
  have hlenh := Lib.hid hlen
  have hallh := Lib.hid hall
  clear hl hlen hall
  go_enter Tryz.func71, Tryz.ntmps71
  go_wp2_with fail
  generalize w.heap.size = z at *
  refine rstepN (notes_nt 1) hO hK (note_r B p o S 1 _ hP (by unfold maxAns; omega)) ?_
  clear hO hK hP c_b1
  intro u o1 S1 w2 hlf _ hnn hP hk hK hO
  replace hD := Nat.lt_of_le_of_lt hlf hD
  replace hn0 : S1.nts.length ≤ 1 := by omega
  replace b1 := b1.keep hk
  clear hk hlf
  have hOh := Lib.hid hO
  clear hO
  go_wp2_with fail
  have hX := (Ext.refl w2).drew
  have hS : ∀ w', HeldR w' p z (.cells #[.int .i64 alg, .int .i64 N, .int .i64 mode, .int .i64 base, .int .i64 loc, .int .i64 room] 52) → (∀ i, w'.cell? ⟨z, i, none⟩ = (#[.int .i64 alg, .int .i64 N, .int .i64 mode, .int .i64 base, .int .i64 loc, .int .i64 room] : Array Value)[i]?) := fun w' x => x.cells
  refine wp_region_held_drew (S := fun w' => ∀ i, w'.cell? ⟨z, i, none⟩ = (#[.int .i64 alg, .int .i64 N, .int .i64 mode, .int .i64 base, .int .i64 loc, .int .i64 room] : Array Value)[i]?) rfl (hS _ b1) (fun hHeld => ?_)
  replace hP := hP.drew
  replace hK := hK.drew
  replace b1 := b1.drew
  refine wpAnyH_take (i := 0) (v := ?_) rfl (by kernel_rfl) (by kernel_rfl) (by kernel_rfl) (fun _ _ _ h => h) (Or.inl ⟨by kernel_rfl, ?_⟩) (by assumption) ?_
  rotate_left
  · (intro w hSw; (try dsimp only at hSw); go_simp; try with_reducible rfl)
  try simp only [put_pack]
  refine wpAnyH_take (i := 1) (v := ?_) rfl (by kernel_rfl) (by kernel_rfl) (by kernel_rfl) (fun _ _ _ h => h) (Or.inl ⟨by kernel_rfl, ?_⟩) (by assumption) ?_
  rotate_left
  · (intro w hSw; (try dsimp only at hSw); go_simp; try with_reducible rfl)
  try simp only [put_pack]
  refine wpAnyH_take (i := 3) (v := ?_) rfl (by kernel_rfl) (by kernel_rfl) (by kernel_rfl) (fun _ _ _ h => h) (Or.inl ⟨by kernel_rfl, ?_⟩) (by assumption) ?_
  rotate_left
  · (intro w hSw; (try dsimp only at hSw); go_simp; try with_reducible rfl)
  try simp only [put_pack]
  refine wpAnyH_take (i := 4) (v := ?_) rfl (by kernel_rfl) (by kernel_rfl) (by kernel_rfl) (fun _ _ _ h => h) (Or.inl ⟨by kernel_rfl, ?_⟩) (by assumption) ?_
  rotate_left
  · (intro w hSw; (try dsimp only at hSw); go_simp; try with_reducible rfl)
  try simp only [put_pack]
  refine wpAnyH_take (i := 5) (v := ?_) rfl (by kernel_rfl) (by kernel_rfl) (by kernel_rfl) (fun _ _ _ h => h) (Or.inl ⟨by kernel_rfl, ?_⟩) (by assumption) ?_
  rotate_left
  · (intro w hSw; (try dsimp only at hSw); go_simp; try with_reducible rfl)
  try simp only [put_pack]
  refine wpAnyH_take (i := 6) (v := ?_) rfl (by kernel_rfl) (by kernel_rfl) (by kernel_rfl) (fun _ _ _ h => h) (Or.inl ⟨by kernel_rfl, ?_⟩) (by assumption) ?_
  rotate_left
  · (intro w hSw; (try dsimp only at hSw); go_simp; try with_reducible rfl)
  try simp only [put_pack]
  refine wpAnyH_take (i := 7) (v := ?_) rfl (by kernel_rfl) (by kernel_rfl) (by kernel_rfl) (fun _ _ _ h => h) (Or.inl ⟨by kernel_rfl, ?_⟩) (by assumption) ?_
  rotate_left
  · (intro w hSw; (try dsimp only at hSw); go_simp; try with_reducible rfl)
  try simp only [put_pack]
  refine wpAnyH_take (i := 8) (v := ?_) rfl (by kernel_rfl) (by kernel_rfl) (by kernel_rfl) (fun _ _ _ h => h) (Or.inl ⟨by kernel_rfl, ?_⟩) (by assumption) ?_
  rotate_left
  · (intro w hSw; (try dsimp only at hSw); go_simp; try with_reducible rfl)
  try simp only [put_pack]
  refine wpAnyH_ready (rs := [2]) (by kernel_rfl) (by simp) ?_
  refine AllReadyH.cons rfl (fun K hKK => ?_) AllReadyH.nil
  go_simp
  refine (treeregs_r alg mode base loc room N rs _ h1 h2 hlh.out).mono ?_
  rintro e w3 ⟨A, c, rfl, hR, q1, q2, hx⟩
  have hreg : rs ≠ [] → ∃ b, A = some ⟨b, 0, none⟩ ∧ RegsAt [3, 4, 5] w3 p b rs := fun hne => by
    obtain ⟨b, e1, hge, hb, hcells⟩ := hR hne
    exact ⟨b, e1, hb, hP.fresh hx hge, hcells⟩
  replace hK := hK.trans (Keep.of_ext hx hP.lt hP.le)
  replace b1 := b1.ext hx hP.lt
  replace hP := hP.ext hx
  clear hx hR hX
  refine hKK.out _ _ (hS _ b1) (fun hHeld => ?_)
  clear hKK K
  try dsimp only
  refine wpAnyH_ready (rs := [9]) (by kernel_rfl) (by simp) ?_
  refine AllReadyH.cons rfl (fun K hKK => ?_) AllReadyH.nil
  go_simp
  refine rstepN (notes_forP (fun _ _ => notes_nodeE _ _ _ _ _) _ _) hOh.out hK (rclimb_r B p D o1 S1 alg N m m rs A c _ hP h1 h2 hm1 hlenh.out q1 q2 hreg hallh.out (by omega) hD) ?_
  clear hOh hK hP
  intro u o2 S2 w4 _ _ hnn hP hk hK hO
  replace hn0 : S2.nts.length ≤ 1 := by omega
  replace b1 := b1.keep hk
  clear hk hreg
  refine hKK.out _ _ (hS _ b1) (fun hHeld => ?_)
  clear hKK K
  try dsimp only
  refine wpAnyH_done (by kernel_rfl) ?_ _
  go_simp
  have hOh := Lib.hid hO
  clear hO hS
  go_wp2_with fail
  refine rstepN (notes_nt 3) hOh.out hK (note_r B p o2 S2 3 _ hP (by unfold maxAns; omega)) ?_
  clear hOh hK hP
  intro u o3 S3 w5 _ _ _ hP _ hK hO
  have hf : R (.returned (encI 0)) w5 := hO.ret hP hK
  clear hO hP hK
  go_wp2_with fail
  first | exact hf | (go_ret; exact hf)
set_option maxRecDepth 100000 in
set_option maxHeartbeats 1000000 in
theorem treerel_r (B p N : Nat) (o : Bool) (S : TS) (alg mode base loc room : Int) (m : Nat) (rs : List Reg) (w : World) (h : RAt B w p o S) (h1 : 1 ≤ N) (h2 : N ≤ 64) (hm1 : m < N) (hl : layM (treeWants (eachK alg) N) N mode base loc = some rs)
    (hall : ∀ r ∈ rs, r.ok ∧ (m : Int) < r.n ∧ r.told m) (hn0 : S.nts.length = 0) :
    Calls Tryz.prog 74 #[.pointer (some ⟨p, 0, none⟩), .agg #[.int .i64 alg, .int .i64 N, .int .i64 mode, .int .i64 base, .int .i64 loc, .int .i64 room], .int .i64 m] w (RPost encU B p w (treeR (eachK alg) rs N m) o S) := by
  have hlen := layM_len hl
  unfold treeWants at hlen
  rw [List.length_replicate] at hlen
  generalize hR : RPost encU B p w (treeR (eachK alg) rs N m) o S = R
  have hO : ROwes R encU B p w (treeR (eachK alg) rs N m) o S := hR ▸ rowes _ _ _ _ _ _ _
  clear hR
  have hK := Keep.refl [3, 4, 5] B p w
  have hP := h
  have b1 := hP.held (.cells #[.int .i64 alg, .int .i64 N, .int .i64 mode, .int .i64 base, .int .i64 loc, .int .i64 room] 52)
  replace hK := hK.trans (Keep.alloc (.cells #[.int .i64 alg, .int .i64 N, .int .i64 mode, .int .i64 base, .int .i64 loc, .int .i64 room] 52) hP.lt hP.le)
  replace hP := hP.alloc (.cells #[.int .i64 alg, .int .i64 N, .int .i64 mode, .int .i64 base, .int .i64 loc, .int .i64 room] 52)
  have c_b1 := b1.cells
  clear h
  unfold treeR at hO
  have hlh := Lib.hid hl
  have hlenh := Lib.hid hlen
  have hallh := Lib.hid hall
  clear hl hlen hall
  go_enter Tryz.func74, Tryz.ntmps74
  go_wp2_with fail
  generalize w.heap.size = z at *
  refine rstepN (notes_nt 5) hO hK (note_r B p o S 5 _ hP (by unfold maxAns; omega)) ?_
  clear hO hK hP c_b1
  intro u o1 S1 w2 _ _ _ hP hk hK hO
  replace b1 := b1.keep hk
  clear hk
  have hOh := Lib.hid hO
  clear hO
  go_wp2_with fail
  have hS : ∀ w', HeldR w' p z (.cells #[.int .i64 alg, .int .i64 N, .int .i64 mode, .int .i64 base, .int .i64 loc, .int .i64 room] 52) → (∀ i, w'.cell? ⟨z, i, none⟩ = (#[.int .i64 alg, .int .i64 N, .int .i64 mode, .int .i64 base, .int .i64 loc, .int .i64 room] : Array Value)[i]?) := fun w' x => x.cells
  refine wp_region_held_drew (S := fun w' => ∀ i, w'.cell? ⟨z, i, none⟩ = (#[.int .i64 alg, .int .i64 N, .int .i64 mode, .int .i64 base, .int .i64 loc, .int .i64 room] : Array Value)[i]?) rfl (hS _ b1) (fun hHeld => ?_)
  replace hP := hP.drew
  replace hK := hK.drew
  replace b1 := b1.drew
  refine wpAnyH_take (i := 0) (v := ?_) rfl (by kernel_rfl) (by kernel_rfl) (by kernel_rfl) (fun _ _ _ h => h) (Or.inl ⟨by kernel_rfl, ?_⟩) (by assumption) ?_
  rotate_left
  · (intro w hSw; (try dsimp only at hSw); go_simp; try with_reducible rfl)
  try simp only [put_pack]
  refine wpAnyH_take (i := 1) (v := ?_) rfl (by kernel_rfl) (by kernel_rfl) (by kernel_rfl) (fun _ _ _ h => h) (Or.inl ⟨by kernel_rfl, ?_⟩) (by assumption) ?_
  rotate_left
  · (intro w hSw; (try dsimp only at hSw); go_simp; try with_reducible rfl)
  try simp only [put_pack]
  refine wpAnyH_take (i := 3) (v := ?_) rfl (by kernel_rfl) (by kernel_rfl) (by kernel_rfl) (fun _ _ _ h => h) (Or.inl ⟨by kernel_rfl, ?_⟩) (by assumption) ?_
  rotate_left
  · (intro w hSw; (try dsimp only at hSw); go_simp; try with_reducible rfl)
  try simp only [put_pack]
  refine wpAnyH_take (i := 4) (v := ?_) rfl (by kernel_rfl) (by kernel_rfl) (by kernel_rfl) (fun _ _ _ h => h) (Or.inl ⟨by kernel_rfl, ?_⟩) (by assumption) ?_
  rotate_left
  · (intro w hSw; (try dsimp only at hSw); go_simp; try with_reducible rfl)
  try simp only [put_pack]
  refine wpAnyH_take (i := 5) (v := ?_) rfl (by kernel_rfl) (by kernel_rfl) (by kernel_rfl) (fun _ _ _ h => h) (Or.inl ⟨by kernel_rfl, ?_⟩) (by assumption) ?_
  rotate_left
  · (intro w hSw; (try dsimp only at hSw); go_simp; try with_reducible rfl)
  try simp only [put_pack]
  refine wpAnyH_take (i := 6) (v := ?_) rfl (by kernel_rfl) (by kernel_rfl) (by kernel_rfl) (fun _ _ _ h => h) (Or.inl ⟨by kernel_rfl, ?_⟩) (by assumption) ?_
  rotate_left
  · (intro w hSw; (try dsimp only at hSw); go_simp; try with_reducible rfl)
  try simp only [put_pack]
  refine wpAnyH_take (i := 7) (v := ?_) rfl (by kernel_rfl) (by kernel_rfl) (by kernel_rfl) (fun _ _ _ h => h) (Or.inl ⟨by kernel_rfl, ?_⟩) (by assumption) ?_
  rotate_left
  · (intro w hSw; (try dsimp only at hSw); go_simp; try with_reducible rfl)
  try simp only [put_pack]
  refine wpAnyH_take (i := 8) (v := ?_) rfl (by kernel_rfl) (by kernel_rfl) (by kernel_rfl) (fun _ _ _ h => h) (Or.inl ⟨by kernel_rfl, ?_⟩) (by assumption) ?_
  rotate_left
  · (intro w hSw; (try dsimp only at hSw); go_simp; try with_reducible rfl)
  try simp only [put_pack]
  refine wpAnyH_ready (rs := [2]) (by kernel_rfl) (by simp) ?_
  refine AllReadyH.cons rfl (fun K hKK => ?_) AllReadyH.nil
  go_simp
  refine (treeregs_r alg mode base loc room N rs _ h1 h2 hlh.out).mono ?_
  rintro e w3 ⟨A, c, rfl, hR, q1, q2, hx⟩
  have hreg : rs ≠ [] → ∃ b, A = some ⟨b, 0, none⟩ ∧ RegsAt [3, 4, 5] w3 p b rs := fun hne => by
    obtain ⟨b, e1, hge, hb, hcells⟩ := hR hne
    exact ⟨b, e1, hb, hP.fresh hx hge, hcells⟩
  replace hK := hK.trans (Keep.of_ext hx hP.lt hP.le)
  replace b1 := b1.ext hx hP.lt
  replace hP := hP.ext hx
  clear hx hR
  refine hKK.out _ _ (hS _ b1) (fun hHeld => ?_)
  clear hKK K
  try dsimp only
  refine wpAnyH_ready (rs := [9]) (by kernel_rfl) (by simp) ?_
  refine AllReadyH.cons rfl (fun K hKK => ?_) AllReadyH.nil
  go_simp
  refine rlast hOh.out hK (rdown_r B p o1 S1 alg N m m rs A c _ hP h1 h2 hm1 hlenh.out q1 q2 hreg hallh.out (by omega)) ?_
  clear hOh hK hP
  intro u o2 S2 w4 hP hk hK hO
  replace b1 := b1.keep hk
  clear hk hreg
  refine hKK.out _ _ (hS _ b1) (fun hHeld => ?_)
  clear hKK K
  try dsimp only
  refine wpAnyH_done (by kernel_rfl) ?_ _
  go_simp
  have hf : R (.returned (encU u)) w4 := hO.ret hP hK
  clear hO hP hK hS
  go_wp2_with fail
  first | exact hf | (refine bodyPost_ret (results_none rfl _ _ _) rfl ?_; exact hf)
end Go.Proofs.YtpcohbpeglledaaGreat
/-
  What the laws of locks share: whether registers can be laid, and a thread by any number.
-/
namespace Go.Proofs.YtpcohbpeglledaaGreat
open Go.RowKit Kv
theorem may_r (va : Value) (l : List Want) (alg n mode base loc room : Int) (w : World) (h : WantsAt w va l) (hlen : l.length ≤ 1000) :
    Calls Tryz.prog 33 #[va, .agg #[.int .i64 alg, .int .i64 n, .int .i64 mode, .int .i64 base, .int .i64 loc, .int .i64 room]] w fun e w' => e = .returned (.bool (layM l n mode base loc).isSome) ∧ Ext w w' := by
  have hX := Ext.refl w
  have b1 := Blk.new w (.cells #[.int .i64 alg, .int .i64 n, .int .i64 mode, .int .i64 base, .int .i64 loc, .int .i64 room] 52)
  replace hX := hX.alloc (.cells #[.int .i64 alg, .int .i64 n, .int .i64 mode, .int .i64 base, .int .i64 loc, .int .i64 room] 52)
  have c_b1 := b1.cells
  have hL := lay_r va l n mode base loc _ (h.ext hX) hlen
  obtain ⟨A, c, rfl, _, _, _⟩ := h
  generalize hr : layM l n mode base loc = r at *
  go_enter Tryz.func33, Tryz.ntmps33
  go_wp2_with fail
  cases r with
  | none =>
    refine hL.mono ?_
    rintro e w1 ⟨hx, x, hx0, rfl⟩
    have dx : (x == 0) = false := by rw [beq_eq_false_iff_ne]; exact hx0
    have hf := Lib.hid (hX.trans hx)
    clear hL hx hr hx0
    go_wp2_with fail
    go_ret
    exact ⟨rfl, hf.out⟩
  | some rs =>
    refine hL.mono ?_
    rintro e w1 ⟨hx, v, rfl, hrow⟩
    obtain ⟨A', c', rfl, -⟩ := Recs.of_row hrow
    have hf := Lib.hid (hX.trans hx)
    clear hL hx hr hrow
    go_wp2_with fail
    go_ret
    exact ⟨rfl, hf.out⟩
theorem me_r (alg mode base loc room me : Int) (N : Nat) (w : World) (h1 : 1 ≤ N) (h2 : N ≤ 8) :
    Calls Tryz.prog 36 #[.agg #[.int .i64 alg, .int .i64 N, .int .i64 mode, .int .i64 base, .int .i64 loc, .int .i64 room], .int .i64 me] w fun e w' => e = .returned (.int .i64 (wrapI me ((N : Int) - 1))) ∧ Ext w w' := by
  have hN : ∀ w, Calls Tryz.prog 106 #[.agg #[.int .i64 alg, .int .i64 N, .int .i64 mode, .int .i64 base, .int .i64 loc, .int .i64 room]] w fun e w' => e = .returned (.int .i64 N) ∧ Ext w w' := by
    intro w
    have hn : nM (N : Int) = N := nM_id (by omega) (by omega)
    have hX := Ext.refl w
    have b1 := Blk.new w (.cells #[.int .i64 alg, .int .i64 N, .int .i64 mode, .int .i64 base, .int .i64 loc, .int .i64 room] 52)
    replace hX := hX.alloc (.cells #[.int .i64 alg, .int .i64 N, .int .i64 mode, .int .i64 base, .int .i64 loc, .int .i64 room] 52)
    have c_b1 := b1.cells
    go_enter Tryz.func106, Tryz.ntmps106
    go_wp2_with fail
    refine (rn_any ⟨0, 0, 0, N, 0, 0, 0⟩ _).mono ?_
    rintro e w1 ⟨rfl, hx⟩
    simp only
    rw [hn]
    have hf := Lib.hid (hX.trans hx)
    clear hx hn
    go_wp2_with fail
    go_ret
    exact ⟨rfl, hf.out⟩
  have hs := IntWalk.i64_in ((N : Int) - 1) (by omega)
  have hX := Ext.refl w
  have b1 := Blk.new w (.cells #[.int .i64 alg, .int .i64 N, .int .i64 mode, .int .i64 base, .int .i64 loc, .int .i64 room] 52)
  replace hX := hX.alloc (.cells #[.int .i64 alg, .int .i64 N, .int .i64 mode, .int .i64 base, .int .i64 loc, .int .i64 room] 52)
  have c_b1 := b1.cells
  go_enter Tryz.func36, Tryz.ntmps36
  go_wp2_with fail
  refine (hN _).mono ?_
  rintro e w1 ⟨rfl, hx⟩
  have hf := Lib.hid (hX.trans hx)
  clear hx hN
  go_wp2_with fail
  refine (wrap_r me ((N : Int) - 1) _).mono ?_
  rintro e w' ⟨rfl, rfl⟩
  go_wp2_with fail
  go_ret
  exact ⟨rfl, hf.out⟩
theorem me_at (me : Int) (N : Nat) (h1 : 1 ≤ N) (h2 : N ≤ 8) : ∃ m : Nat, m < N ∧ wrapI me ((N : Int) - 1) = m := by
  have ht := wrapI_bd me ((N : Int) - 1)
  rw [show clamp ((N : Int) - 1) 1099511627776 = (N : Int) - 1 from by unfold clamp within; omega] at ht
  exact ⟨(wrapI me ((N : Int) - 1)).toNat, by omega, by omega⟩
theorem laid_all {l : List Want} {n mode b c : Int} {rs : List Reg} (h : layM l n mode b c = some rs) : ∀ r ∈ rs, r.ok ∧ r.n = n := by
  intro r hr
  obtain ⟨i, hi⟩ := List.getElem?_of_mem hr
  obtain ⟨⟨_, _, n1, n2, _, _⟩, hw, _⟩ := layM_args h
  have hil := (List.getElem?_eq_some_iff.1 hi).1
  rw [layM_len h] at hil
  obtain ⟨r', hr', hL⟩ := layM_at h (List.getElem?_eq_getElem hil)
  obtain rfl : r = r' := by rw [hi] at hr'; simpa using hr'
  obtain ⟨h1, h2, _⟩ := hL.ok ⟨n1, n2⟩ (hw _ (List.getElem_mem hil))
  exact ⟨h1, h2⟩
theorem laid_want {f : Nat → Want} {k : Nat} {n mode b c : Int} {rs : List Reg} (h : layM ((List.range k).map f) n mode b c = some rs) {i : Nat} {r : Reg} (hi : rs[i]? = some r) : Laid n mode (f i) r := by
  have hil := (List.getElem?_eq_some_iff.1 hi).1
  rw [layM_len h, List.length_map, List.length_range] at hil
  obtain ⟨r', hr', hL⟩ := layM_at h (i := i) (q := f i) (by rw [List.getElem?_map, List.getElem?_range hil]; rfl)
  obtain rfl : r = r' := by rw [hi] at hr'; simpa using hr'
  exact hL
/-- Told by accesses, but for its own writer. -/
theorem laid_told {n mode : Int} {q : Want} {r : Reg} (h : Laid n mode q r) (_hm : 1 ≤ mode ∧ mode ≤ 2) (hn : 2 ≤ n) (_hq : -1 ≤ q.wr) {me : Int} (hme : q.wr ≠ me) : r.told me := by
  obtain ⟨⟨b, c, rfl, _, _⟩, _⟩ := h
  by_cases h2 : mode = 2
  · by_cases h3 : 0 ≤ q.wr
    · refine .inr (.inl ⟨?_, fun h => hme h.symm⟩)
      show kindM mode q.wr = 6
      unfold kindM
      rw [if_pos h2, if_pos h3]
    · refine .inr (.inr ⟨?_, hn⟩)
      show kindM mode q.wr = 7
      unfold kindM
      rw [if_pos h2, if_neg h3]
  · refine .inl ?_
    show kindM mode q.wr = 1
    unfold kindM
    rw [if_neg h2]
theorem fil_told {N : Nat} {mode b c : Int} {rs : List Reg} {m : Nat} (h : layM (filWants N) N mode b c = some rs) : ∀ (i : Nat) r, rs[i]? = some r → i ≠ m → 2 ≤ N → r.told m := by
  intro i r hi hm hN
  obtain ⟨⟨h1, h2, _⟩, _⟩ := layM_args h
  refine laid_told (laid_want h hi) ⟨h1, h2⟩ (by omega) ?_ ?_
  · unfold filWant; split <;> simp <;> omega
  · unfold filWant; split <;> simp <;> omega
end Go.Proofs.YtpcohbpeglledaaGreat
/-
  Trees of locks of two sides: none for what is no tree; what their registers tell.
-/
namespace Go.Proofs.YtpcohbpeglledaaGreat
open Go.RowKit Kv
theorem tree_all {E N : Nat} {mode b c : Int} {rs : List Reg} {m : Nat} (h : layM (treeWants E N) N mode b c = some rs) (hm : m < N) : ∀ r ∈ rs, r.ok ∧ (m : Int) < r.n ∧ r.told m := by
  intro r hr
  obtain ⟨h1, h2⟩ := laid_all h r hr
  refine ⟨h1, by omega, ?_⟩
  obtain ⟨⟨m1, m2, _⟩, _⟩ := layM_args h
  obtain ⟨i, hi⟩ := List.getElem?_of_mem hr
  have hil := (List.getElem?_eq_some_iff.1 hi).1
  have hlen := layM_len h
  have hwi : (treeWants E N)[i]? = some ⟨-1, 1⟩ := by
    unfold treeWants at *
    rw [List.length_replicate] at hlen
    rw [List.getElem?_replicate, if_pos (by omega)]
  obtain ⟨r', hr', hL⟩ := layM_at h hwi
  obtain rfl : r = r' := by rw [hi] at hr'; simpa using hr'
  by_cases hN : N = 1
  · subst hN
    unfold treeWants at hlen
    rw [List.length_replicate, show levels ((1 : Nat) : Int) = 0 from by decide] at hlen
    omega
  · exact laid_told hL ⟨m1, m2⟩ (by omega) (by decide) (by show (-1 : Int) ≠ m; omega)
theorem path_none_p (m place : Int) (w : World) (h : m < 1 ∨ 64 < m ∨ place < 0 ∨ m ≤ place) : Calls Tryz.prog 64 #[.int .i64 m, .int .i64 place] w fun e w' => e = .returned (.slice none 0 0) ∧ w = w' := by
  by_cases h1 : m < 1
  · have d1 : decide (m < 1) = true := by rw [decide_eq_true_eq]; exact h1
    clear h h1
    go_enter Tryz.func64, Tryz.ntmps64
    go_wp2_with fail
    go_ret
    exact ⟨rfl, rfl⟩
  · have d1 : decide (m < 1) = false := by rw [decide_eq_false_iff_not]; exact h1
    by_cases h2 : 64 < m
    · have d2 : decide (64 < m) = true := by rw [decide_eq_true_eq]; exact h2
      clear h h1 h2
      go_enter Tryz.func64, Tryz.ntmps64
      go_wp2_with fail
      go_ret
      exact ⟨rfl, rfl⟩
    · have d2 : decide (64 < m) = false := by rw [decide_eq_false_iff_not]; exact h2
      by_cases h3 : place < 0
      · have d3 : decide (place < 0) = true := by rw [decide_eq_true_eq]; exact h3
        clear h h1 h2 h3
        go_enter Tryz.func64, Tryz.ntmps64
        go_wp2_with fail
        go_ret
        exact ⟨rfl, rfl⟩
      · have d3 : decide (place < 0) = false := by rw [decide_eq_false_iff_not]; exact h3
        have d4 : decide (m ≤ place) = true := by rw [decide_eq_true_eq]; omega
        clear h h1 h2 h3
        go_enter Tryz.func64, Tryz.ntmps64
        go_wp2_with fail
        go_ret
        exact ⟨rfl, rfl⟩
theorem twants_none_p (kind m : Int) (w : World) (h : m < 1 ∨ 64 < m) : Calls Tryz.prog 63 #[.int .i64 kind, .int .i64 m] w fun e w' => e = .returned (.slice none 0 0) ∧ w = w' := by
  by_cases h1 : m < 1
  · have d1 : decide (m < 1) = true := by rw [decide_eq_true_eq]; exact h1
    clear h h1
    go_enter Tryz.func63, Tryz.ntmps63
    go_wp2_with fail
    go_ret
    exact ⟨rfl, rfl⟩
  · have d1 : decide (m < 1) = false := by rw [decide_eq_false_iff_not]; exact h1
    have d2 : decide (64 < m) = true := by rw [decide_eq_true_eq]; omega
    clear h h1
    go_enter Tryz.func63, Tryz.ntmps63
    go_wp2_with fail
    go_ret
    exact ⟨rfl, rfl⟩
end Go.Proofs.YtpcohbpeglledaaGreat
/-
  Trees of locks of two sides: the chapter's example.
-/
namespace Kv
def tb0 : Reg := ⟨1, 0, 0, 2, -1, -1, 1⟩
def tb1 : Reg := ⟨1, 1, 0, 2, -1, -1, 1⟩
def tb2 : Reg := ⟨1, 2, 0, 2, -1, -1, 1⟩
end Kv
namespace Go.Proofs.YtpcohbpeglledaaGreat
open Go.RowKit Kv
theorem tb_lay : layM (treeWants (eachK 6) 2) 2 1 0 0 = some [tb0, tb1, tb2] := by rfl
theorem ual1 (B p : Nat) (S : TS) (bk : Nat) (w : World) (h : Plays B w p S) (hD : S.left < 4) (hn0 : S.nts.length = 0)
    (c1 : ∀ i, w.cell? ⟨bk, i, none⟩ = (#[.int .i64 6, .int .i64 2, .int .i64 1, .int .i64 0, .int .i64 0, .int .i64 0] : Array Value)[i]?) :
    Calls Tryz.prog 132 #[.pointer (some ⟨p, 0, none⟩), .pointer (some ⟨bk, 0, none⟩)] w (Post encI B p w ((treeA 3 4 [tb0, tb1, tb2] 2 1).run S)) := by
  have hq : Calls Tryz.prog 70 #[.pointer (some ⟨p, 0, none⟩), .agg #[.int .i64 6, .int .i64 2, .int .i64 1, .int .i64 0, .int .i64 0, .int .i64 0], .int .i64 1] w (Post encI B p w ((treeA 3 4 [tb0, tb1, tb2] 2 1).run S)) :=
    treeacq_p B p 2 4 S 6 1 0 0 0 1 [tb0, tb1, tb2] w h (by decide) (by decide) (by decide) tb_lay (tree_all tb_lay (by decide)) hD hn0
  generalize hR : Post encI B p w ((treeA 3 4 [tb0, tb1, tb2] 2 1).run S) = R
  have hO : Owes R encI B p w ((treeA 3 4 [tb0, tb1, tb2] 2 1).run S) := hR ▸ owes _ _ _ _ _
  clear hR
  have hK := Keep.refl [2, 3, 4] B p w
  go_enter Tryz.func132, Tryz.ntmps132
  go_wp2_with fail
  clear c1
  refine tlast hO hK hq (fun _ h => ⟨rfl, h⟩) ?_
  intro v S1 w1 hr hP1 hk1 hK1 hO1
  have hf := hO1.done hP1 hK1
  clear hO1 hP1 hK1 hr hk1 hO h hK hq
  go_wp2_with fail
  first | exact hf | (go_ret; exact hf)
theorem ual2 (B p : Nat) (S : TS) (bk : Nat) (w : World) (h : Plays B w p S) (hn0 : S.nts.length = 0)
    (c1 : ∀ i, w.cell? ⟨bk, i, none⟩ = (#[.int .i64 6, .int .i64 2, .int .i64 1, .int .i64 0, .int .i64 0, .int .i64 0] : Array Value)[i]?) :
    Calls Tryz.prog 133 #[.pointer (some ⟨p, 0, none⟩), .pointer (some ⟨bk, 0, none⟩)] w (Post encI B p w (((treeR 3 [tb0, tb1, tb2] 2 1).bind fun _ => .ret 0).run S)) := by
  have hq : Calls Tryz.prog 73 #[.pointer (some ⟨p, 0, none⟩), .agg #[.int .i64 6, .int .i64 2, .int .i64 1, .int .i64 0, .int .i64 0, .int .i64 0], .int .i64 1] w (Post encU B p w ((treeR 3 [tb0, tb1, tb2] 2 1).run S)) :=
    treerel_p B p 2 S 6 1 0 0 0 1 [tb0, tb1, tb2] w h (by decide) (by decide) (by decide) tb_lay (tree_all tb_lay (by decide)) hn0
  generalize hR : Post encI B p w (((treeR 3 [tb0, tb1, tb2] 2 1).bind fun _ => .ret 0).run S) = R
  have hO : Owes R encI B p w (((treeR 3 [tb0, tb1, tb2] 2 1).bind fun _ => .ret 0).run S) := hR ▸ owes _ _ _ _ _
  clear hR
  have hK := Keep.refl [2, 3, 4] B p w
  go_enter Tryz.func133, Tryz.ntmps133
  go_wp2_with fail
  clear c1
  refine tstep hO hK hq (fun _ h => ⟨rfl, h⟩) ?_
  intro v S1 w1 hr hP1 hk1 hK1 hO1
  have hf := hO1.done (v := (0 : Int)) hP1 hK1
  clear hO1 hP1 hK1 hr hk1 hO h hK hq
  go_wp2_with fail
  first | exact hf | (go_ret; exact hf)
@[go_sem] theorem build_lock3 (a b c : Int) (w : World) : (Instr.build 52 #[(0, .int .i64 a), (1, .int .i64 b), (2, .int .i64 c)]).run Tryz.prog w = .ok (.agg #[.int .i64 a, .int .i64 b, .int .i64 c, .int .i64 0, .int .i64 0, .int .i64 0]) w := run_build w 52 _ _ (by kernel_rfl)
set_option maxRecDepth 100000 in
set_option maxHeartbeats 1000000 in
theorem alive30 (w : World) : Calls Tryz.prog 65 #[] w fun e w' => e = .returned (.bool true) ∧ Ext w w' := by
  have hmf : ∀ (fn : Fn) (first cap : Array Value) (w : World), (Instr.makeFunc fn first cap).run Tryz.prog w = .ok (.func fn first cap) w := fun _ _ _ _ => rfl
  have hp32 := fun w => path_p 3 2 w (by decide) (by decide) (by decide)
  rw [show pathL 3 2 = [6, 3] from by decide +kernel] at hp32
  go_enter Tryz.func65, Tryz.ntmps65
  go_wp2_with fail
  have b1 := Blk.new w (.cells #[.int .i64 6, .int .i64 2, .int .i64 1, .int .i64 0, .int .i64 0, .int .i64 0] 52)
  have hX := (Ext.refl w).alloc (.cells #[.int .i64 6, .int .i64 2, .int .i64 1, .int .i64 0, .int .i64 0, .int .i64 0] 52)
  have hA := ints_new (w.alloc (.cells #[.int .i64 6, .int .i64 2, .int .i64 1, .int .i64 0, .int .i64 0, .int .i64 0] 52)) [0, 0, 0] (by simp)
  replace b1 := b1.alloc (.cells (([0, 0, 0] : List Int).map (Value.int .i64)).toArray 3)
  replace hX := hX.alloc (.cells (([0, 0, 0] : List Int).map (Value.int .i64)).toArray 3)
  simp only [World.size_alloc, List.map_cons, List.map_nil, List.length_cons, List.length_nil] at b1 hA hX
  have hsz : w.heap.size + 1 < (World.alloc (World.alloc w (.cells #[.int .i64 6, .int .i64 2, .int .i64 1, .int .i64 0, .int .i64 0, .int .i64 0] 52)) (.cells #[.int .i64 0, .int .i64 0, .int .i64 0] 3)).heap.size := by simp
  generalize World.alloc (World.alloc w _) _ = V1 at *
  refine (play_err 132 #[.pointer (some ⟨w.heap.size, 0, none⟩)] (treeA 3 4 [tb0, tb1, tb2] 2 1) none 0 [] (some ⟨w.heap.size + 1, 0, none⟩) 3 [0, 0, 0] V1 (Ints.nil _) (by simp) hA (by decide) (fun k hk => by simp only [Value.ownBlock, Option.some.injEq] at hk; omega) (fun _ _ => rfl) (fun W p hxW hP => ual1 _ p _ w.heap.size W hP (by decide) rfl (b1.ext hxW).cells)).mono ?_
  rintro e y1 ⟨v1, rfl, hO, hx1⟩
  have e1 : ((treeA 3 4 [tb0, tb1, tb2] 2 1).run (TS0 [] [0, 0, 0])).1 = some 0 := by decide +kernel
  have e2 : ((treeA 3 4 [tb0, tb1, tb2] 2 1).run (TS0 [] [0, 0, 0])).2.acc.length = 3 := by decide +kernel
  rw [e1] at hO ⊢
  generalize ((treeA 3 4 [tb0, tb1, tb2] 2 1).run (TS0 [] [0, 0, 0])).2 = S1 at *
  obtain ⟨A1, c1, A1', c1', vs1, L1, rfl, hO⟩ := hO
  obtain ⟨As1, k1, hvs1, _, _⟩ := hO.locs.slice
  subst hvs1
  unfold outV
  rw [e2] at *
  simp only [Option.getD_some, Option.isSome_some]
  replace hX := hX.trans hx1
  replace b1 := b1.ext hx1
  clear e1 e2 hO hx1 hA hsz
  go_wp2_with fail
  have n1 := Blk.new y1 (.cells #[.bool true, .slice A1 3 c1, .slice A1' S1.nts.length c1', .slice As1 (shortL L1).length k1] 36)
  replace b1 := b1.alloc (.cells #[.bool true, .slice A1 3 c1, .slice A1' S1.nts.length c1', .slice As1 (shortL L1).length k1] 36)
  replace hX := hX.alloc (.cells #[.bool true, .slice A1 3 c1, .slice A1' S1.nts.length c1', .slice As1 (shortL L1).length k1] 36)
  have hA := ints_new (y1.alloc (.cells #[.bool true, .slice A1 3 c1, .slice A1' S1.nts.length c1', .slice As1 (shortL L1).length k1] 36)) [0] (by simp)
  replace n1 := n1.alloc (.cells (([0] : List Int).map (Value.int .i64)).toArray 3)
  replace b1 := b1.alloc (.cells (([0] : List Int).map (Value.int .i64)).toArray 3)
  replace hX := hX.alloc (.cells (([0] : List Int).map (Value.int .i64)).toArray 3)
  simp only [World.size_alloc, List.map_cons, List.map_nil, List.length_cons, List.length_nil] at b1 hA n1 hX
  have hsz : y1.heap.size + 1 < (World.alloc (World.alloc y1 (.cells #[.bool true, .slice A1 3 c1, .slice A1' S1.nts.length c1', .slice As1 (shortL L1).length k1] 36)) (.cells #[.int .i64 0] 3)).heap.size := by simp
  generalize World.alloc (World.alloc y1 _) _ = V2 at *
  refine (play_int 133 #[.pointer (some ⟨w.heap.size, 0, none⟩)] ((treeR 3 [tb0, tb1, tb2] 2 1).bind fun _ => .ret 0) none 0 [] (some ⟨y1.heap.size + 1, 0, none⟩) 1 [0] V2 (Ints.nil _) (by simp) hA (by decide) (fun k hk => by simp only [Value.ownBlock, Option.some.injEq] at hk; omega) (fun _ _ => rfl) (fun W p hxW hP => ual2 _ p _ w.heap.size W hP rfl (b1.ext hxW).cells)).mono ?_
  rintro e y2 ⟨v2, rfl, hO, hx2⟩
  have e1 : (((treeR 3 [tb0, tb1, tb2] 2 1).bind fun _ => Prog.ret (0 : Int)).run (TS0 [] [0])).1 = some 0 := by decide +kernel
  have e2 : (((treeR 3 [tb0, tb1, tb2] 2 1).bind fun _ => Prog.ret (0 : Int)).run (TS0 [] [0])).2.acc.length = 1 := by decide +kernel
  rw [e1] at hO ⊢
  generalize (((treeR 3 [tb0, tb1, tb2] 2 1).bind fun _ => Prog.ret (0 : Int)).run (TS0 [] [0])).2 = S2 at *
  obtain ⟨A2, c2, A2', c2', vs2, L2, rfl, hO⟩ := hO
  obtain ⟨As2, k2, hvs2, _, _⟩ := hO.locs.slice
  subst hvs2
  unfold outV
  rw [e2] at *
  simp only [Option.getD_some, Option.isSome_some]
  replace hX := hX.trans hx2
  replace n1 := n1.ext hx2
  have n2 := Blk.new y2 (.cells #[.bool true, .slice A2 1 c2, .slice A2' S2.nts.length c2', .slice As2 (shortL L2).length k2] 36)
  replace n1 := n1.alloc (.cells #[.bool true, .slice A2 1 c2, .slice A2' S2.nts.length c2', .slice As2 (shortL L2).length k2] 36)
  replace hX := hX.alloc (.cells #[.bool true, .slice A2 1 c2, .slice A2' S2.nts.length c2', .slice As2 (shortL L2).length k2] 36)
  clear e1 e2 hO hx2 hA hsz b1
  go_wp2_with fail
  generalize y2.alloc _ = Y2 at *
  refine (hp32 _).mono ?_
  rintro e w3 ⟨v3, rfl, hrow, hx⟩
  have hI := hrow.ints
  replace n1 := n1.ext hx
  replace n2 := n2.ext hx
  replace hX := hX.trans hx
  clear hrow hx hp32
  go_wp2_with fail
  have hI1 := hI.ext ((Ext.refl w3).alloc (.cells (([6, 3] : List Int).map (Value.int .i64)).toArray 3))
  have hI2 := ints_new w3 [6, 3] (by simp)
  replace n1 := n1.alloc (.cells (([6, 3] : List Int).map (Value.int .i64)).toArray 3)
  replace n2 := n2.alloc (.cells (([6, 3] : List Int).map (Value.int .i64)).toArray 3)
  replace hX := hX.alloc (.cells (([6, 3] : List Int).map (Value.int .i64)).toArray 3)
  simp only [List.map_cons, List.map_nil, List.length_cons, List.length_nil] at hI1 hI2 n1 n2 hX
  refine (ints_r _ _ _ _ _ hI1 hI2).mono ?_
  rintro e w4 ⟨rfl, q, rfl⟩
  generalize w3.alloc _ = Y3 at *
  replace n1 := n1.ext ((Ext.refl Y3).drewN q)
  replace n2 := n2.ext ((Ext.refl Y3).drewN q)
  replace hX := hX.trans ((Ext.refl Y3).drewN q)
  generalize Y3.drewN q = Y4 at *
  simp only [decide_true]
  have c_n1 := n1.cells
  have c_n2 := n2.cells
  have hXh := Lib.hid hX
  clear hX hI1 hI2 hI
  go_wp2_with fail
  refine (twants_p 7 3 _ (by decide) (by decide)).mono ?_
  rintro e w5 ⟨v5, rfl, hw5, hx5⟩
  rw [show List.replicate (eachK 7 * (2 ^ levels ((3 : Nat) : Int) - 1)) (⟨-1, 1⟩ : Want) = List.replicate 12 ⟨-1, 1⟩ from by rw [show eachK 7 * (2 ^ levels ((3 : Nat) : Int) - 1) = 12 from by decide +kernel]] at hw5
  obtain ⟨A5, c5, rfl, -, -, -⟩ := hw5
  rw [List.length_replicate]
  have hf := Lib.hid (hXh.out.trans hx5)
  clear hx5 hmf n1 n2 c_n1 c_n2
  go_wp2_with fail
  refine (path_none_p 0 0 _ (.inl (by decide))).mono ?_
  rintro e w6 ⟨rfl, rfl⟩
  go_wp2_with fail
  go_ret
  exact ⟨rfl, hf.out⟩
end Go.Proofs.YtpcohbpeglledaaGreat
