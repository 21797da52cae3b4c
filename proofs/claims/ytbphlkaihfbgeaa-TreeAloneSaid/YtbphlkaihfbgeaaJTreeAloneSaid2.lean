/-
  Trees of locks of two sides: climbing and going down, by the program.
-/
import Derived.Test.YtbphlkaihfbgeaaJTreeAloneSaid1
/-
  Trees of locks of two sides: climbing and going down, by the program.
-/
namespace Kv
def nthR (rs : List Reg) (i : Nat) : Reg := rs.getD i ⟨1, 0, 0, 1, -1, -1, 1⟩
theorem nthR_of {rs : List Reg} {i : Nat} (h : i < rs.length) : rs[i]? = some (nthR rs i) := by
  unfold nthR
  rw [List.getD_eq_getElem?_getD, List.getElem?_eq_getElem h]; rfl
/-- Entering, and leaving, a node of so many registers. -/
def nodeE (E D : Nat) (rs : List Reg) (me : Int) (x : Int) : Prog Unit :=
  if E = 4 then kesM D (nthR rs (4 * ((x / 2).toNat - 1))) (nthR rs (4 * ((x / 2).toNat - 1) + 1)) (nthR rs (4 * ((x / 2).toNat - 1) + 2)) (nthR rs (4 * ((x / 2).toNat - 1) + 3)) (x % 2) me
  else arbM D (nthR rs (3 * ((x / 2).toNat - 1))) (nthR rs (3 * ((x / 2).toNat - 1) + 1)) (nthR rs (3 * ((x / 2).toNat - 1) + 2)) (x % 2) me
def nodeL (E : Nat) (rs : List Reg) (me : Int) (x : Int) : Prog Unit := kesL (nthR rs (E * ((x / 2).toNat - 1))) (nthR rs (E * ((x / 2).toNat - 1) + 1)) (x % 2) me
theorem pathN_mem : ∀ (f x : Nat) {y : Int}, y ∈ pathN f x → 2 ≤ y ∧ y ≤ x
  | 0, _, y, h => by simp [pathN] at h
  | f + 1, x, y, h => by
    unfold pathN at h
    split at h
    · simp at h
    · rcases List.mem_cons.1 h with rfl | h
      · omega
      · have := pathN_mem f (x / 2) h
        omega
theorem lev_ge {m : Nat} (h : m ≤ 64) : m ≤ 2 ^ levels m := by
  have : ∀ m : Nat, m < 65 → m ≤ 2 ^ levels m := by decide +kernel
  exact this m (by omega)
theorem pathL_mem {m place : Nat} (h : m ≤ 64) (hp : place < m) {y : Int} (hy : y ∈ pathL m place) : 2 ≤ y ∧ y < 2 * 2 ^ levels m := by
  have h1 := pathN_mem _ _ hy
  have h2 := lev_ge h
  have e : (2 : Int) ^ levels m = ((2 ^ levels m : Nat) : Int) := by rw [Int.natCast_pow]; rfl
  rw [e]
  generalize 2 ^ levels m = P at *
  omega
end Kv
namespace Go.Proofs.Ytbphlkaihfbgeaa
open Go.RowKit Kv
/-- A row of ints beside what a Mem owns. -/
def RowH (ix : List Nat) (w : World) (p : Nat) (A : Option Addr) (l : List Int) : Prop := l ≠ [] → ∃ g cur, A = some ⟨g, 0, none⟩ ∧ Held ix w p g (.cells cur 3) ∧ ∀ (i : Nat) y, l[i]? = some y → cur[i]? = some (.int .i64 y)
theorem RowH.of_row {ix : List Nat} {w : World} {p base : Nat} {v : Value} {l : List Int} (h : IntRow w base v l) (hn : ∀ b, base ≤ b → ¬ ownR ix w p b) : ∃ A c, v = .slice A l.length c ∧ RowH ix w p A l := by
  rcases h.2 with ⟨rfl, h0⟩ | ⟨g, cap, cur, rfl, hb, hg, h1, h2, h3, h4⟩
  · exact ⟨none, 0, by rw [h0], fun hne => absurd (List.length_eq_zero_iff.1 h0) hne⟩
  · refine ⟨_, cap, rfl, fun _ => ⟨g, cur, rfl, ⟨hg, hn g hb⟩, fun i y hy => ?_⟩⟩
    have e : (cur.toList.take (l.length * 1))[i]? = some (.int .i64 y) := by rw [h4, List.getElem?_map, hy]; rfl
    rw [List.getElem?_take] at e
    split at e
    · rw [← e]; simp
    · cases e
theorem Held.at_ {ix : List Nat} {w : World} {p g : Nat} {cur : Array Value} {l : List Int} (h : Held ix w p g (.cells cur 3)) (hc : ∀ (i : Nat) y, l[i]? = some y → cur[i]? = some (.int .i64 y)) {i : Nat} {y : Int} (hy : l[i]? = some y) : w.cell? ⟨g, i, none⟩ = some (.int .i64 y) := by
  rw [h.cells i]; exact hc i y hy
theorem node_enter_p7 (B p D n : Nat) (S : TS) (rs : List Reg) (x me : Int) (b c : Nat) (w : World) (h : Plays B w p S) (hl : RegsAt [2, 3, 4] w p b rs) (hall : ∀ r ∈ rs, r.ok ∧ me < r.n ∧ r.told me) (hm0 : 0 ≤ me) (hn : x / 2 = n) (hn1 : 1 ≤ n) (hn2 : n * 4 ≤ rs.length) (hD : S.left < D) (hc4 : 4 ≤ c) (hc5 : c ≤ 9223372036854775807) :
    Calls Try.prog 189 #[.pointer (some ⟨p, 0, none⟩), .slice (some ⟨b, 4 * (n - 1) * 7, none⟩) 4 c, .int .i64 (x % 2), .int .i64 me] w (Post encU B p w ((nodeE 4 D rs me x).run S)) := by
  unfold nodeE
  rw [if_pos rfl, hn, Int.toNat_natCast]
  obtain ⟨k0, l0, t0⟩ := hall _ (List.mem_of_getElem? (nthR_of (rs := rs) (i := 4 * (n - 1)) (by omega)))
  obtain ⟨k1, l1, t1⟩ := hall _ (List.mem_of_getElem? (nthR_of (rs := rs) (i := 4 * (n - 1) + 1) (by omega)))
  obtain ⟨k2, l2, t2⟩ := hall _ (List.mem_of_getElem? (nthR_of (rs := rs) (i := 4 * (n - 1) + 2) (by omega)))
  obtain ⟨k3, l3, t3⟩ := hall _ (List.mem_of_getElem? (nthR_of (rs := rs) (i := 4 * (n - 1) + 3) (by omega)))
  exact kesn_enter_p B p D S _ _ _ _ (x % 2) me b c (4 * (n - 1)) rs w h hl ⟨nthR_of (i := 4 * (n - 1)) (by omega), nthR_of (i := 4 * (n - 1) + 1) (by omega), nthR_of (i := 4 * (n - 1) + 2) (by omega), nthR_of (i := 4 * (n - 1) + 3) (by omega)⟩ k0 k1 k2 k3 hm0 l0 l1 l2 l3 t0 t1 t2 t3 hD hc4 hc5
theorem node_leave_p7 (B p n : Nat) (S : TS) (rs : List Reg) (x me : Int) (b c : Nat) (w : World) (h : Plays B w p S) (hl : RegsAt [2, 3, 4] w p b rs) (hall : ∀ r ∈ rs, r.ok ∧ me < r.n ∧ r.told me) (hm0 : 0 ≤ me) (hn : x / 2 = n) (hn1 : 1 ≤ n) (hn2 : n * 4 ≤ rs.length) :
    Calls Try.prog 190 #[.pointer (some ⟨p, 0, none⟩), .slice (some ⟨b, 4 * (n - 1) * 7, none⟩) 4 c, .int .i64 (x % 2), .int .i64 me] w (Post encU B p w ((nodeL 4 rs me x).run S)) := by
  unfold nodeL
  rw [hn, Int.toNat_natCast]
  obtain ⟨k0, l0, t0⟩ := hall _ (List.mem_of_getElem? (nthR_of (rs := rs) (i := 4 * (n - 1)) (by omega)))
  obtain ⟨k1, l1, t1⟩ := hall _ (List.mem_of_getElem? (nthR_of (rs := rs) (i := 4 * (n - 1) + 1) (by omega)))
  obtain ⟨k2, l2, t2⟩ := hall _ (List.mem_of_getElem? (nthR_of (rs := rs) (i := 4 * (n - 1) + 2) (by omega)))
  obtain ⟨k3, l3, t3⟩ := hall _ (List.mem_of_getElem? (nthR_of (rs := rs) (i := 4 * (n - 1) + 3) (by omega)))
  exact kesn_leave_p B p S _ _ (nthR rs (4 * (n - 1) + 2)) (nthR rs (4 * (n - 1) + 3)) (x % 2) me b c (4 * (n - 1)) rs w h hl ⟨nthR_of (i := 4 * (n - 1)) (by omega), nthR_of (i := 4 * (n - 1) + 1) (by omega), nthR_of (i := 4 * (n - 1) + 2) (by omega), nthR_of (i := 4 * (n - 1) + 3) (by omega)⟩ k0 k1 hm0 l0 l1
theorem node_enter_p3 (B p D n : Nat) (S : TS) (rs : List Reg) (x me : Int) (b c : Nat) (w : World) (h : Plays B w p S) (hl : RegsAt [2, 3, 4] w p b rs) (hall : ∀ r ∈ rs, r.ok ∧ me < r.n ∧ r.told me) (hm0 : 0 ≤ me) (hn : x / 2 = n) (hn1 : 1 ≤ n) (hn2 : n * 3 ≤ rs.length) (hD : S.left < D) (_hc4 : 3 ≤ c) (_hc5 : c ≤ 9223372036854775807) :
    Calls Try.prog 192 #[.pointer (some ⟨p, 0, none⟩), .slice (some ⟨b, 3 * (n - 1) * 7, none⟩) 3 c, .int .i64 (x % 2), .int .i64 me] w (Post encU B p w ((nodeE 3 D rs me x).run S)) := by
  unfold nodeE
  rw [if_neg (by decide), hn, Int.toNat_natCast]
  obtain ⟨k0, l0, t0⟩ := hall _ (List.mem_of_getElem? (nthR_of (rs := rs) (i := 3 * (n - 1)) (by omega)))
  obtain ⟨k1, l1, t1⟩ := hall _ (List.mem_of_getElem? (nthR_of (rs := rs) (i := 3 * (n - 1) + 1) (by omega)))
  obtain ⟨k2, l2, t2⟩ := hall _ (List.mem_of_getElem? (nthR_of (rs := rs) (i := 3 * (n - 1) + 2) (by omega)))
  exact arbn_enter_p B p D S _ _ _ (x % 2) me b c (3 * (n - 1)) rs w h hl ⟨nthR_of (i := 3 * (n - 1)) (by omega), nthR_of (i := 3 * (n - 1) + 1) (by omega), nthR_of (i := 3 * (n - 1) + 2) (by omega)⟩ k0 k1 k2 hm0 l0 l1 l2 t0 t1 hD
theorem node_leave_p3 (B p n : Nat) (S : TS) (rs : List Reg) (x me : Int) (b c : Nat) (w : World) (h : Plays B w p S) (hl : RegsAt [2, 3, 4] w p b rs) (hall : ∀ r ∈ rs, r.ok ∧ me < r.n ∧ r.told me) (hm0 : 0 ≤ me) (hn : x / 2 = n) (hn1 : 1 ≤ n) (hn2 : n * 3 ≤ rs.length) :
    Calls Try.prog 193 #[.pointer (some ⟨p, 0, none⟩), .slice (some ⟨b, 3 * (n - 1) * 7, none⟩) 3 c, .int .i64 (x % 2), .int .i64 me] w (Post encU B p w ((nodeL 3 rs me x).run S)) := by
  unfold nodeL
  rw [hn, Int.toNat_natCast]
  obtain ⟨k0, l0, t0⟩ := hall _ (List.mem_of_getElem? (nthR_of (rs := rs) (i := 3 * (n - 1)) (by omega)))
  obtain ⟨k1, l1, t1⟩ := hall _ (List.mem_of_getElem? (nthR_of (rs := rs) (i := 3 * (n - 1) + 1) (by omega)))
  obtain ⟨k2, l2, t2⟩ := hall _ (List.mem_of_getElem? (nthR_of (rs := rs) (i := 3 * (n - 1) + 2) (by omega)))
  exact arbn_leave_p B p S _ _ (nthR rs (3 * (n - 1) + 2)) (x % 2) me b c (3 * (n - 1)) rs w h hl ⟨nthR_of (i := 3 * (n - 1)) (by omega), nthR_of (i := 3 * (n - 1) + 1) (by omega), nthR_of (i := 3 * (n - 1) + 2) (by omega)⟩ k0 k1 hm0 l0 l1
set_option maxRecDepth 100000 in
set_option maxHeartbeats 2000000 in
theorem climb_p7 (B p D : Nat) (S : TS) (kind : Int) (m place : Nat) (me : Int) (rs : List Reg) (A : Option Addr) (c : Nat) (w : World) (h : Plays B w p S) (hk : kind = 7) (h1 : 1 ≤ m) (h2 : m ≤ 64) (h3 : place < m) (hlen : rs.length = 4 * (2 ^ levels m - 1)) (hc1 : rs.length ≤ c) (hc2 : c ≤ 9223372036854775807)
    (hreg : rs ≠ [] → ∃ b, A = some ⟨b, 0, none⟩ ∧ RegsAt [2, 3, 4] w p b rs) (hall : ∀ r ∈ rs, r.ok ∧ me < r.n ∧ r.told me) (hm0 : 0 ≤ me) (hD : S.left < D) :
    Calls Try.prog 64 #[.pointer (some ⟨p, 0, none⟩), .slice A rs.length c, .int .i64 kind, .int .i64 m, .int .i64 place, .int .i64 me] w (Post encU B p w ((forP (fun x _ => nodeE 4 D rs me x) (pathL m place) ()).run S)) := by
  generalize hR : Post encU B p w ((forP (fun x _ => nodeE 4 D rs me x) (pathL m place) ()).run S) = R
  have hO : Owes R encU B p w ((forP (fun x _ => nodeE 4 D rs me x) (pathL m place) ()).run S) := hR ▸ owes _ _ _ _ _
  clear hR
  have hmem := fun y (hy : y ∈ pathL m place) => pathL_mem h2 h3 hy
  have hPth := fun w => path_p m place w h1 h2 h3
  have hlv := lev_le h2
  obtain ⟨p1, p2⟩ := pow_le hlv
  have e : (2 : Int) ^ levels m = ((2 ^ levels m : Nat) : Int) := by rw [Int.natCast_pow]; rfl
  rw [e] at hmem
  have hll : (pathL m place).length ≤ 128 := by
    have := pathN_len (2 ^ levels m + place) (2 ^ levels m + place)
    unfold pathL
    omega
  clear e hlv
  generalize 2 ^ levels m = P at *
  generalize pathL m place = l at *
  have hn : nodeV kind = .agg #[.func (.func 188) #[] #[], .func (.func 189) #[] #[], .func (.func 190) #[] #[]] := by unfold nodeV; rw [if_pos hk]; rfl
  have hN := fun w => nodeOf_p kind w
  rw [hn] at hN
  have hmemh := Lib.hid hmem
  have hallh := Lib.hid hall
  have hlenh := Lib.hid hlen
  have hOh := Lib.hid hO
  clear hn hk hmem hall hlen hO
  go_enter Try.func64, Try.ntmps64
  go_wp2_with fail
  refine (hN _).mono ?_
  rintro e w2 ⟨rfl, hx2⟩
  have hK := Keep.of_ext (ix := [2, 3, 4]) (B := B) hx2 h.lt h.le
  have hP := h.ext hx2
  have hreg2 : rs ≠ [] → ∃ b, A = some ⟨b, 0, none⟩ ∧ RegsAt [2, 3, 4] w2 p b rs := fun hne => by
    obtain ⟨b, e1, e2⟩ := hreg hne
    exact ⟨b, e1, e2.extL hx2 h.lt⟩
  clear hx2 h hreg
  have bx := hP.held (.cells #[.func (.func 188) #[] #[], .func (.func 189) #[] #[], .func (.func 190) #[] #[]] 126)
  replace hK := hK.trans (Keep.alloc (.cells #[.func (.func 188) #[] #[], .func (.func 189) #[] #[], .func (.func 190) #[] #[]] 126) hP.lt hP.le)
  have hreg3 : rs ≠ [] → ∃ b, A = some ⟨b, 0, none⟩ ∧ RegsAt [2, 3, 4] (w2.alloc (.cells #[.func (.func 188) #[] #[], .func (.func 189) #[] #[], .func (.func 190) #[] #[]] 126)) p b rs := fun hne => by
    obtain ⟨b, e1, e2⟩ := hreg2 hne
    exact ⟨b, e1, e2.extL ((Ext.refl w2).alloc (.cells #[.func (.func 188) #[] #[], .func (.func 189) #[] #[], .func (.func 190) #[] #[]] 126)) hP.lt⟩
  replace hP := hP.alloc (.cells #[.func (.func 188) #[] #[], .func (.func 189) #[] #[], .func (.func 190) #[] #[]] 126)
  clear hreg2
  go_wp2_with fail
  generalize w2.heap.size = z at *
  generalize w2.alloc _ = W at *
  refine (hPth _).mono ?_
  rintro e w3 ⟨v3, rfl, hrow, hx3⟩
  obtain ⟨A3, c3, rfl, hR⟩ := RowH.of_row (p := p) (ix := [2, 3, 4]) hrow (fun b hb => hP.fresh hx3 hb)
  replace hK := hK.trans (Keep.of_ext hx3 hP.lt hP.le)
  replace bx := bx.ext hx3 hP.lt
  have hreg : rs ≠ [] → ∃ b, A = some ⟨b, 0, none⟩ ∧ RegsAt [2, 3, 4] w3 p b rs := fun hne => by
    obtain ⟨b, e1, e2⟩ := hreg3 hne
    exact ⟨b, e1, e2.extL hx3 hP.lt⟩
  replace hP := hP.ext hx3
  clear hreg3 hx3 hrow hPth hN
  by_cases hl0 : l = []
  · subst hl0
    have hf := hOh.out.done (v := ()) hP hK
    clear hOh hmemh hR hreg hallh hlenh
    go_wp2_with fail
    go_loopw [21] (fun i wr => i = .int .i64 0 ∧ w3 = wr) (fun _ _ => 0)
    case atStart => exact ⟨rfl, rfl⟩
    case round =>
      obtain ⟨rfl, rfl⟩ := hrel
      go_wp2_with fail
      first | exact hf | (refine bodyPost_ret (results_none rfl _ _ _) rfl ?_; exact hf)
  obtain ⟨g, cur, rfl, hg, hcur⟩ := hR hl0
  obtain ⟨b, rfl, hl⟩ := hreg (by
    obtain ⟨y, l', rfl⟩ : ∃ y l', l = y :: l' := by cases l with | nil => exact absurd rfl hl0 | cons y l' => exact ⟨y, l', rfl⟩
    have h1 := hmemh.out y (List.mem_cons_self ..)
    have h2 := hlenh.out
    intro hne
    rw [hne, List.length_nil] at h2
    omega)
  have hch := Lib.hid hcur
  clear hreg hR hl0 hcur
  go_wp2_with fail
  go_loopw [21] (fun i wr => ∃ (j : Nat) (S2 : TS), i = .int .i64 j ∧ j ≤ l.length ∧ Plays B wr p S2 ∧ KeepP B p w wr ∧ HeldP wr p z (.cells #[.func (.func 188) #[] #[], .func (.func 189) #[] #[], .func (.func 190) #[] #[]] 126) ∧ HeldP wr p g (.cells cur 3) ∧ RegsAt [2, 3, 4] wr p b rs ∧ S2.left < D ∧ Hid (Owes R encU B p w ((forP (fun x _ => nodeE 4 D rs me x) (l.drop j) ()).run S2))) (fun i _ => l.length - (intOf i).toNat)
  case atStart => exact ⟨0, S, rfl, by omega, hP, hK, bx, hg, hl, hD, hOh⟩
  case round =>
    clear hP hK bx hg hl hD hOh
    obtain ⟨j, S2, rfl, hj, hP, hK, bx, hg, hl, hD, hOh⟩ := hrel
    by_cases hjl : j < l.length
    · obtain ⟨y, hy⟩ : ∃ y, l[j]? = some y := ⟨_, List.getElem?_eq_getElem hjl⟩
      have hym := hmemh.out y (List.mem_of_getElem? hy)
      obtain ⟨Y, rfl⟩ : ∃ Y : Nat, y = (Y : Int) := ⟨y.toNat, by omega⟩
      have c_g := hg.at_ hch.out hy
      have hO := hOh.out
      rw [List.drop_eq_getElem_cons hjl, show l[j] = (Y : Int) from by rw [List.getElem?_eq_getElem hjl] at hy; exact Option.some.inj hy] at hO
      have hOk : Hid (Owes R encU B p w (((nodeE 4 D rs me (Y : Int)).bind fun _ => forP (fun x _ => nodeE 4 D rs me x) (l.drop (j + 1)) ()).run S2)) := Lib.hid hO
      clear hO hOh hy
      have hn2 : Y / 2 * 4 ≤ rs.length := by have := hlenh.out; omega
      have hn1 : 1 ≤ Y / 2 := by omega
      have hlen9 : rs.length ≤ 1000000 := by have := hlenh.out; omega
      have hrg := fun w => tregs_p7 b c (Y / 2) rs.length w hn1 hn2 hc1 hc2 hlen9
      have hq1 : IntKind.i64.wrap ((Y : Int) / 2) = ((Y / 2 : Nat) : Int) := by rw [IntWalk.i64_in _ (by omega)]; omega
      have hq2 : (Y : Int).tmod 2 = (Y : Int) % 2 := Int.tmod_eq_emod_of_nonneg (by omega)
      go_wp2_with fail
      have hS : ∀ w', HeldP w' p z (.cells #[.func (.func 188) #[] #[], .func (.func 189) #[] #[], .func (.func 190) #[] #[]] 126) → (∀ i, w'.cell? ⟨z, i, none⟩ = (#[.func (.func 188) #[] #[], .func (.func 189) #[] #[], .func (.func 190) #[] #[]] : Array Value)[i]?) := fun w' x => x.cells
      have c_bx := bx.cells
      refine wp_region_held_drew (S := fun w' => ∀ i, w'.cell? ⟨z, i, none⟩ = (#[.func (.func 188) #[] #[], .func (.func 189) #[] #[], .func (.func 190) #[] #[]] : Array Value)[i]?) rfl (hS _ bx) (fun hHeld => ?_)
      replace hl := hl.extL (Ext.refl wr).drew hP.lt
      replace hP := hP.drew
      replace hK := hK.drew
      replace bx := bx.drew
      replace hg := hg.drew
      refine wpAnyH_take (i := 0) (v := ?_) rfl (by kernel_rfl) (by kernel_rfl) (by kernel_rfl) (fun _ _ _ h => h) (Or.inl ⟨by kernel_rfl, ?_⟩) (by assumption) ?_
      rotate_left
      · (intro w hSw; (try dsimp only at hSw); go_simp; try with_reducible rfl)
      try simp only [put_pack]
      refine wpAnyH_take (i := 1) (v := ?_) rfl (by kernel_rfl) (by kernel_rfl) (by kernel_rfl) (fun _ _ _ h => h) (Or.inl ⟨by kernel_rfl, ?_⟩) (by assumption) ?_
      rotate_left
      · (intro w hSw; (try dsimp only at hSw); go_simp; try with_reducible rfl)
      try simp only [put_pack]
      refine wpAnyH_take (i := 2) (v := ?_) rfl (by kernel_rfl) (by kernel_rfl) (by kernel_rfl) (fun _ _ _ h => h) (Or.inl ⟨by kernel_rfl, ?_⟩) (by assumption) ?_
      rotate_left
      · (intro w hSw; (try dsimp only at hSw); go_simp; try with_reducible rfl)
      try simp only [put_pack]
      refine wpAnyH_take (i := 3) (v := ?_) rfl (by kernel_rfl) (by kernel_rfl) (by kernel_rfl) (fun _ _ _ h => h) (Or.inl ⟨by kernel_rfl, ?_⟩) (by assumption) ?_
      rotate_left
      · (intro w hSw; (try dsimp only at hSw); go_simp; try with_reducible rfl)
      try simp only [put_pack]
      refine wpAnyH_take (i := 4) (v := ?_) rfl (by kernel_rfl) (by kernel_rfl) (by kernel_rfl) (fun _ _ _ h => h) (Or.inl ⟨by kernel_rfl, ?_⟩) (by assumption) ?_
      rotate_left
      · (intro w hSw; (try dsimp only at hSw); go_simp; try with_reducible rfl)
      try simp only [put_pack]
      refine wpAnyH_take (i := 5) (v := ?_) rfl (by kernel_rfl) (by kernel_rfl) (by kernel_rfl) (fun _ _ _ h => h) (Or.inl ⟨by kernel_rfl, ?_⟩) (by assumption) ?_
      rotate_left
      · (intro w hSw; (try dsimp only at hSw); go_simp; try with_reducible rfl)
      try simp only [put_pack]
      refine wpAnyH_take (i := 6) (v := ?_) rfl (by kernel_rfl) (by kernel_rfl) (by kernel_rfl) (fun _ _ _ h => h) (Or.inl ⟨by kernel_rfl, ?_⟩) (by assumption) ?_
      rotate_left
      · (intro w hSw; (try dsimp only at hSw); go_simp; try with_reducible rfl)
      try simp only [put_pack]
      refine wpAnyH_take (i := 8) (v := ?_) rfl (by kernel_rfl) (by kernel_rfl) (by kernel_rfl) (fun _ _ _ h => h) (Or.inl ⟨by kernel_rfl, ?_⟩) (by assumption) ?_
      rotate_left
      · (intro w hSw; (try dsimp only at hSw); go_simp; try with_reducible rfl)
      try simp only [put_pack]
      refine wpAnyH_take (i := 9) (v := ?_) rfl (by kernel_rfl) (by kernel_rfl) (by kernel_rfl) (fun _ _ _ h => h) (Or.inl ⟨by kernel_rfl, ?_⟩) (by assumption) ?_
      rotate_left
      · (intro w hSw; (try dsimp only at hSw); go_simp; try with_reducible rfl)
      try simp only [put_pack]
      refine wpAnyH_take (i := 10) (v := ?_) rfl (by kernel_rfl) (by kernel_rfl) (by kernel_rfl) (fun _ _ _ h => h) (Or.inl ⟨by kernel_rfl, ?_⟩) (by assumption) ?_
      rotate_left
      · (intro w hSw; (try dsimp only at hSw); go_simp; try with_reducible rfl)
      try simp only [put_pack]
      refine wpAnyH_ready (rs := [7]) (by kernel_rfl) (by simp) ?_
      refine AllReadyH.cons rfl (fun K hKK => ?_) AllReadyH.nil
      go_simp
      refine (hrg _).mono ?_
      rintro e w4 ⟨c', rfl, q1, q2, hx⟩
      replace bx := bx.ext hx hP.lt
      replace hg := hg.ext hx hP.lt
      replace hl := hl.extL hx hP.lt
      replace hK := hK.trans (Keep.of_ext hx hP.lt hP.le)
      replace hP := hP.ext hx
      clear hx hrg c_g c_bx
      refine hKK.out _ _ (hS _ bx) (fun hHeld => ?_)
      clear hKK K
      try dsimp only
      refine wpAnyH_ready (rs := [11]) (by kernel_rfl) (by simp) ?_
      refine AllReadyH.cons rfl (fun K hKK => ?_) AllReadyH.nil
      go_simp
      refine tstepL hOk.out hK (node_enter_p7 B p D (Y / 2) S2 rs Y me b c' _ hP hl hallh.out hm0 (by omega) hn1 hn2 hD q1 q2) (fun _ h => ⟨rfl, h⟩) ?_
      clear hK hP hOk
      intro u S3 w5 hlf _ hP hk1 hK hO
      replace hD := Nat.lt_of_le_of_lt hlf hD
      replace bx := bx.keep hk1
      replace hg := hg.keep hk1
      replace hl := hl.keep hk1
      clear hk1 hlf
      refine hKK.out _ _ (hS _ bx) (fun hHeld => ?_)
      clear hKK K
      try dsimp only
      refine wpAnyH_done (by kernel_rfl) ?_ _
      go_simp
      have hf := Lib.hid hO
      clear hO hS
      go_wp2_with fail
      refine ⟨⟨j + 1, S3, by go_num, by omega, hP, hK, bx, hg, hl, hD, hf⟩, ?_⟩
      simp [intOf]; omega
    · obtain rfl : j = l.length := by omega
      have hO := hOh.out
      rw [List.drop_length] at hO
      have hf := hO.done (v := ()) hP hK
      clear hO hOh hP hK hl hg bx
      go_wp2_with fail
      first | exact hf | (refine bodyPost_ret (results_none rfl _ _ _) rfl ?_; exact hf)
set_option maxRecDepth 100000 in
set_option maxHeartbeats 2000000 in
theorem climb_p3 (B p D : Nat) (S : TS) (kind : Int) (m place : Nat) (me : Int) (rs : List Reg) (A : Option Addr) (c : Nat) (w : World) (h : Plays B w p S) (hk : kind ≠ 7) (h1 : 1 ≤ m) (h2 : m ≤ 64) (h3 : place < m) (hlen : rs.length = 3 * (2 ^ levels m - 1)) (hc1 : rs.length ≤ c) (hc2 : c ≤ 9223372036854775807)
    (hreg : rs ≠ [] → ∃ b, A = some ⟨b, 0, none⟩ ∧ RegsAt [2, 3, 4] w p b rs) (hall : ∀ r ∈ rs, r.ok ∧ me < r.n ∧ r.told me) (hm0 : 0 ≤ me) (hD : S.left < D) :
    Calls Try.prog 64 #[.pointer (some ⟨p, 0, none⟩), .slice A rs.length c, .int .i64 kind, .int .i64 m, .int .i64 place, .int .i64 me] w (Post encU B p w ((forP (fun x _ => nodeE 3 D rs me x) (pathL m place) ()).run S)) := by
  generalize hR : Post encU B p w ((forP (fun x _ => nodeE 3 D rs me x) (pathL m place) ()).run S) = R
  have hO : Owes R encU B p w ((forP (fun x _ => nodeE 3 D rs me x) (pathL m place) ()).run S) := hR ▸ owes _ _ _ _ _
  clear hR
  have hmem := fun y (hy : y ∈ pathL m place) => pathL_mem h2 h3 hy
  have hPth := fun w => path_p m place w h1 h2 h3
  have hlv := lev_le h2
  obtain ⟨p1, p2⟩ := pow_le hlv
  have e : (2 : Int) ^ levels m = ((2 ^ levels m : Nat) : Int) := by rw [Int.natCast_pow]; rfl
  rw [e] at hmem
  have hll : (pathL m place).length ≤ 128 := by
    have := pathN_len (2 ^ levels m + place) (2 ^ levels m + place)
    unfold pathL
    omega
  clear e hlv
  generalize 2 ^ levels m = P at *
  generalize pathL m place = l at *
  have hn : nodeV kind = .agg #[.func (.func 191) #[] #[], .func (.func 192) #[] #[], .func (.func 193) #[] #[]] := by unfold nodeV; rw [if_neg hk]; rfl
  have hN := fun w => nodeOf_p kind w
  rw [hn] at hN
  have hmemh := Lib.hid hmem
  have hallh := Lib.hid hall
  have hlenh := Lib.hid hlen
  have hOh := Lib.hid hO
  clear hn hk hmem hall hlen hO
  go_enter Try.func64, Try.ntmps64
  go_wp2_with fail
  refine (hN _).mono ?_
  rintro e w2 ⟨rfl, hx2⟩
  have hK := Keep.of_ext (ix := [2, 3, 4]) (B := B) hx2 h.lt h.le
  have hP := h.ext hx2
  have hreg2 : rs ≠ [] → ∃ b, A = some ⟨b, 0, none⟩ ∧ RegsAt [2, 3, 4] w2 p b rs := fun hne => by
    obtain ⟨b, e1, e2⟩ := hreg hne
    exact ⟨b, e1, e2.extL hx2 h.lt⟩
  clear hx2 h hreg
  have bx := hP.held (.cells #[.func (.func 191) #[] #[], .func (.func 192) #[] #[], .func (.func 193) #[] #[]] 126)
  replace hK := hK.trans (Keep.alloc (.cells #[.func (.func 191) #[] #[], .func (.func 192) #[] #[], .func (.func 193) #[] #[]] 126) hP.lt hP.le)
  have hreg3 : rs ≠ [] → ∃ b, A = some ⟨b, 0, none⟩ ∧ RegsAt [2, 3, 4] (w2.alloc (.cells #[.func (.func 191) #[] #[], .func (.func 192) #[] #[], .func (.func 193) #[] #[]] 126)) p b rs := fun hne => by
    obtain ⟨b, e1, e2⟩ := hreg2 hne
    exact ⟨b, e1, e2.extL ((Ext.refl w2).alloc (.cells #[.func (.func 191) #[] #[], .func (.func 192) #[] #[], .func (.func 193) #[] #[]] 126)) hP.lt⟩
  replace hP := hP.alloc (.cells #[.func (.func 191) #[] #[], .func (.func 192) #[] #[], .func (.func 193) #[] #[]] 126)
  clear hreg2
  go_wp2_with fail
  generalize w2.heap.size = z at *
  generalize w2.alloc _ = W at *
  refine (hPth _).mono ?_
  rintro e w3 ⟨v3, rfl, hrow, hx3⟩
  obtain ⟨A3, c3, rfl, hR⟩ := RowH.of_row (p := p) (ix := [2, 3, 4]) hrow (fun b hb => hP.fresh hx3 hb)
  replace hK := hK.trans (Keep.of_ext hx3 hP.lt hP.le)
  replace bx := bx.ext hx3 hP.lt
  have hreg : rs ≠ [] → ∃ b, A = some ⟨b, 0, none⟩ ∧ RegsAt [2, 3, 4] w3 p b rs := fun hne => by
    obtain ⟨b, e1, e2⟩ := hreg3 hne
    exact ⟨b, e1, e2.extL hx3 hP.lt⟩
  replace hP := hP.ext hx3
  clear hreg3 hx3 hrow hPth hN
  by_cases hl0 : l = []
  · subst hl0
    have hf := hOh.out.done (v := ()) hP hK
    clear hOh hmemh hR hreg hallh hlenh
    go_wp2_with fail
    go_loopw [21] (fun i wr => i = .int .i64 0 ∧ w3 = wr) (fun _ _ => 0)
    case atStart => exact ⟨rfl, rfl⟩
    case round =>
      obtain ⟨rfl, rfl⟩ := hrel
      go_wp2_with fail
      first | exact hf | (refine bodyPost_ret (results_none rfl _ _ _) rfl ?_; exact hf)
  obtain ⟨g, cur, rfl, hg, hcur⟩ := hR hl0
  obtain ⟨b, rfl, hl⟩ := hreg (by
    obtain ⟨y, l', rfl⟩ : ∃ y l', l = y :: l' := by cases l with | nil => exact absurd rfl hl0 | cons y l' => exact ⟨y, l', rfl⟩
    have h1 := hmemh.out y (List.mem_cons_self ..)
    have h2 := hlenh.out
    intro hne
    rw [hne, List.length_nil] at h2
    omega)
  have hch := Lib.hid hcur
  clear hreg hR hl0 hcur
  go_wp2_with fail
  go_loopw [21] (fun i wr => ∃ (j : Nat) (S2 : TS), i = .int .i64 j ∧ j ≤ l.length ∧ Plays B wr p S2 ∧ KeepP B p w wr ∧ HeldP wr p z (.cells #[.func (.func 191) #[] #[], .func (.func 192) #[] #[], .func (.func 193) #[] #[]] 126) ∧ HeldP wr p g (.cells cur 3) ∧ RegsAt [2, 3, 4] wr p b rs ∧ S2.left < D ∧ Hid (Owes R encU B p w ((forP (fun x _ => nodeE 3 D rs me x) (l.drop j) ()).run S2))) (fun i _ => l.length - (intOf i).toNat)
  case atStart => exact ⟨0, S, rfl, by omega, hP, hK, bx, hg, hl, hD, hOh⟩
  case round =>
    clear hP hK bx hg hl hD hOh
    obtain ⟨j, S2, rfl, hj, hP, hK, bx, hg, hl, hD, hOh⟩ := hrel
    by_cases hjl : j < l.length
    · obtain ⟨y, hy⟩ : ∃ y, l[j]? = some y := ⟨_, List.getElem?_eq_getElem hjl⟩
      have hym := hmemh.out y (List.mem_of_getElem? hy)
      obtain ⟨Y, rfl⟩ : ∃ Y : Nat, y = (Y : Int) := ⟨y.toNat, by omega⟩
      have c_g := hg.at_ hch.out hy
      have hO := hOh.out
      rw [List.drop_eq_getElem_cons hjl, show l[j] = (Y : Int) from by rw [List.getElem?_eq_getElem hjl] at hy; exact Option.some.inj hy] at hO
      have hOk : Hid (Owes R encU B p w (((nodeE 3 D rs me (Y : Int)).bind fun _ => forP (fun x _ => nodeE 3 D rs me x) (l.drop (j + 1)) ()).run S2)) := Lib.hid hO
      clear hO hOh hy
      have hn2 : Y / 2 * 3 ≤ rs.length := by have := hlenh.out; omega
      have hn1 : 1 ≤ Y / 2 := by omega
      have hlen9 : rs.length ≤ 1000000 := by have := hlenh.out; omega
      have hrg := fun w => tregs_p3 b c (Y / 2) rs.length w hn1 hn2 hc1 hc2 hlen9
      have hq1 : IntKind.i64.wrap ((Y : Int) / 2) = ((Y / 2 : Nat) : Int) := by rw [IntWalk.i64_in _ (by omega)]; omega
      have hq2 : (Y : Int).tmod 2 = (Y : Int) % 2 := Int.tmod_eq_emod_of_nonneg (by omega)
      go_wp2_with fail
      have hS : ∀ w', HeldP w' p z (.cells #[.func (.func 191) #[] #[], .func (.func 192) #[] #[], .func (.func 193) #[] #[]] 126) → (∀ i, w'.cell? ⟨z, i, none⟩ = (#[.func (.func 191) #[] #[], .func (.func 192) #[] #[], .func (.func 193) #[] #[]] : Array Value)[i]?) := fun w' x => x.cells
      have c_bx := bx.cells
      refine wp_region_held_drew (S := fun w' => ∀ i, w'.cell? ⟨z, i, none⟩ = (#[.func (.func 191) #[] #[], .func (.func 192) #[] #[], .func (.func 193) #[] #[]] : Array Value)[i]?) rfl (hS _ bx) (fun hHeld => ?_)
      replace hl := hl.extL (Ext.refl wr).drew hP.lt
      replace hP := hP.drew
      replace hK := hK.drew
      replace bx := bx.drew
      replace hg := hg.drew
      refine wpAnyH_take (i := 0) (v := ?_) rfl (by kernel_rfl) (by kernel_rfl) (by kernel_rfl) (fun _ _ _ h => h) (Or.inl ⟨by kernel_rfl, ?_⟩) (by assumption) ?_
      rotate_left
      · (intro w hSw; (try dsimp only at hSw); go_simp; try with_reducible rfl)
      try simp only [put_pack]
      refine wpAnyH_take (i := 1) (v := ?_) rfl (by kernel_rfl) (by kernel_rfl) (by kernel_rfl) (fun _ _ _ h => h) (Or.inl ⟨by kernel_rfl, ?_⟩) (by assumption) ?_
      rotate_left
      · (intro w hSw; (try dsimp only at hSw); go_simp; try with_reducible rfl)
      try simp only [put_pack]
      refine wpAnyH_take (i := 2) (v := ?_) rfl (by kernel_rfl) (by kernel_rfl) (by kernel_rfl) (fun _ _ _ h => h) (Or.inl ⟨by kernel_rfl, ?_⟩) (by assumption) ?_
      rotate_left
      · (intro w hSw; (try dsimp only at hSw); go_simp; try with_reducible rfl)
      try simp only [put_pack]
      refine wpAnyH_take (i := 3) (v := ?_) rfl (by kernel_rfl) (by kernel_rfl) (by kernel_rfl) (fun _ _ _ h => h) (Or.inl ⟨by kernel_rfl, ?_⟩) (by assumption) ?_
      rotate_left
      · (intro w hSw; (try dsimp only at hSw); go_simp; try with_reducible rfl)
      try simp only [put_pack]
      refine wpAnyH_take (i := 4) (v := ?_) rfl (by kernel_rfl) (by kernel_rfl) (by kernel_rfl) (fun _ _ _ h => h) (Or.inl ⟨by kernel_rfl, ?_⟩) (by assumption) ?_
      rotate_left
      · (intro w hSw; (try dsimp only at hSw); go_simp; try with_reducible rfl)
      try simp only [put_pack]
      refine wpAnyH_take (i := 5) (v := ?_) rfl (by kernel_rfl) (by kernel_rfl) (by kernel_rfl) (fun _ _ _ h => h) (Or.inl ⟨by kernel_rfl, ?_⟩) (by assumption) ?_
      rotate_left
      · (intro w hSw; (try dsimp only at hSw); go_simp; try with_reducible rfl)
      try simp only [put_pack]
      refine wpAnyH_take (i := 6) (v := ?_) rfl (by kernel_rfl) (by kernel_rfl) (by kernel_rfl) (fun _ _ _ h => h) (Or.inl ⟨by kernel_rfl, ?_⟩) (by assumption) ?_
      rotate_left
      · (intro w hSw; (try dsimp only at hSw); go_simp; try with_reducible rfl)
      try simp only [put_pack]
      refine wpAnyH_take (i := 8) (v := ?_) rfl (by kernel_rfl) (by kernel_rfl) (by kernel_rfl) (fun _ _ _ h => h) (Or.inl ⟨by kernel_rfl, ?_⟩) (by assumption) ?_
      rotate_left
      · (intro w hSw; (try dsimp only at hSw); go_simp; try with_reducible rfl)
      try simp only [put_pack]
      refine wpAnyH_take (i := 9) (v := ?_) rfl (by kernel_rfl) (by kernel_rfl) (by kernel_rfl) (fun _ _ _ h => h) (Or.inl ⟨by kernel_rfl, ?_⟩) (by assumption) ?_
      rotate_left
      · (intro w hSw; (try dsimp only at hSw); go_simp; try with_reducible rfl)
      try simp only [put_pack]
      refine wpAnyH_take (i := 10) (v := ?_) rfl (by kernel_rfl) (by kernel_rfl) (by kernel_rfl) (fun _ _ _ h => h) (Or.inl ⟨by kernel_rfl, ?_⟩) (by assumption) ?_
      rotate_left
      · (intro w hSw; (try dsimp only at hSw); go_simp; try with_reducible rfl)
      try simp only [put_pack]
      refine wpAnyH_ready (rs := [7]) (by kernel_rfl) (by simp) ?_
      refine AllReadyH.cons rfl (fun K hKK => ?_) AllReadyH.nil
      go_simp
      refine (hrg _).mono ?_
      rintro e w4 ⟨c', rfl, q1, q2, hx⟩
      replace bx := bx.ext hx hP.lt
      replace hg := hg.ext hx hP.lt
      replace hl := hl.extL hx hP.lt
      replace hK := hK.trans (Keep.of_ext hx hP.lt hP.le)
      replace hP := hP.ext hx
      clear hx hrg c_g c_bx
      refine hKK.out _ _ (hS _ bx) (fun hHeld => ?_)
      clear hKK K
      try dsimp only
      refine wpAnyH_ready (rs := [11]) (by kernel_rfl) (by simp) ?_
      refine AllReadyH.cons rfl (fun K hKK => ?_) AllReadyH.nil
      go_simp
      refine tstepL hOk.out hK (node_enter_p3 B p D (Y / 2) S2 rs Y me b c' _ hP hl hallh.out hm0 (by omega) hn1 hn2 hD q1 q2) (fun _ h => ⟨rfl, h⟩) ?_
      clear hK hP hOk
      intro u S3 w5 hlf _ hP hk1 hK hO
      replace hD := Nat.lt_of_le_of_lt hlf hD
      replace bx := bx.keep hk1
      replace hg := hg.keep hk1
      replace hl := hl.keep hk1
      clear hk1 hlf
      refine hKK.out _ _ (hS _ bx) (fun hHeld => ?_)
      clear hKK K
      try dsimp only
      refine wpAnyH_done (by kernel_rfl) ?_ _
      go_simp
      have hf := Lib.hid hO
      clear hO hS
      go_wp2_with fail
      refine ⟨⟨j + 1, S3, by go_num, by omega, hP, hK, bx, hg, hl, hD, hf⟩, ?_⟩
      simp [intOf]; omega
    · obtain rfl : j = l.length := by omega
      have hO := hOh.out
      rw [List.drop_length] at hO
      have hf := hO.done (v := ()) hP hK
      clear hO hOh hP hK hl hg bx
      go_wp2_with fail
      first | exact hf | (refine bodyPost_ret (results_none rfl _ _ _) rfl ?_; exact hf)
end Go.Proofs.Ytbphlkaihfbgeaa
/-
  A row of ints turned round in place.
-/
namespace Go.Proofs.Ytbphlkaihfbgeaa
open Go.RowKit Kv
theorem heap_setCells_ex (g : Nat) (t : TypeId) : ∀ (vs : List Value) (o : Nat) (w : World) (cur : Array Value), w.heap[g]? = some (.cells cur t (0, 0)) → ∃ cur', (w.setCells g o vs).heap[g]? = some (.cells cur' t (0, 0)) ∧ cur'.size = cur.size
  | [], _, _, cur, h => ⟨cur, h, rfl⟩
  | v :: r, o, w, cur, h => by
    obtain ⟨cur', h1, h2⟩ := heap_setCells_ex g t r (o + 1) (w.setCell ⟨g, o, none⟩ v) _ (heap_setCell_same w g o cur t v h)
    exact ⟨cur', h1, h2.trans (by simp)⟩
theorem Ext.setCells {w0 w : World} (h : Ext w0 w) {g : Nat} (hg : w0.heap.size ≤ g) : ∀ (vs : List Value) (o : Nat), Ext w0 (w.setCells g o vs) := by
  intro vs
  induction vs generalizing w with
  | nil => intro o; exact h
  | cons v r ih => intro o; exact ih (Below.setCell (p := ⟨g, o, none⟩) h hg v) (o + 1)
theorem reverse_p {w0 w : World} {l : List Int} {v : Value} (hx : Ext w0 w) (h : IntRow w w0.heap.size v l) (hl : l.length ≤ 1000) :
    Calls Try.prog 142 #[v] w fun e w' => e = .returned (.tuple #[]) ∧ Ext w0 w' ∧ IntRow w' w0.heap.size v l.reverse := by
  have h' := h
  rcases h.2 with ⟨rfl, h0⟩ | ⟨g, cap, cur, rfl, hb, hg, h1, h2, h3, h4⟩
  · obtain rfl := List.length_eq_zero_iff.1 h0
    refine (Try.slices_Reverse_int_empty none 0 w).mono ?_
    rintro e w' ⟨rfl, rfl⟩
    exact ⟨rfl, hx, h⟩
  · have hcell : ∀ j, j < l.length → w.cell? ⟨g, 0 + j, none⟩ = some (.int .i64 (l.getD j 0)) := by
      intro j hj
      rw [Nat.zero_add, cell_of_heap hg]
      have e : (cur.toList.take (l.length * 1))[j]? = some (.int .i64 (l.getD j 0)) := by
        rw [h4, List.getElem?_map, List.getElem?_eq_getElem hj, List.getD_eq_getElem?_getD, List.getElem?_eq_getElem hj]; rfl
      rw [List.getElem?_take, if_pos (by omega)] at e
      rw [← e]; simp
    refine (Try.slices_Reverse_int_cells g 0 l.length cap l w (Nat.le_refl _) (by omega) hcell (fun j hj => by simp [World.frozen?, hg])).mono ?_
    rintro e w' ⟨rfl, q, rfl⟩
    rw [List.take_length]
    have hg' : (w.drewN q).heap[g]? = some (.cells cur 3 (0, 0)) := hg
    obtain ⟨cur', k1, k2⟩ := heap_setCells_ex g 3 (l.reverse.map (Value.int .i64)) 0 (w.drewN q) cur hg'
    refine ⟨rfl, (hx.drewN q).setCells hb _ _, ?_, .inr ⟨g, cap, cur', by rw [List.length_reverse], hb, k1, by rw [List.length_reverse]; exact h1, h2, by rw [k2]; exact h3, ?_⟩⟩
    · simp
    · apply List.ext_getElem?
      intro i
      rw [List.length_reverse, List.getElem?_take]
      by_cases hi : i < l.length * 1
      · rw [if_pos hi]
        have hc := World.cell?_setCells_in g (l.reverse.map (Value.int .i64)) 0 (w.drewN q) (fun j hj => by
          rw [Nat.zero_add, cell_of_heap hg']
          have : j < cur.size := by simp at hj; omega
          simp [this]) i (by simp; omega)
        rw [Nat.zero_add, cell_of_heap k1] at hc
        rw [Array.getElem?_toList, hc, List.getElem?_eq_getElem]
      · rw [if_neg hi, List.getElem?_eq_none (by simp; omega)]
end Go.Proofs.Ytbphlkaihfbgeaa
/-
  Trees of locks of two sides: going down, by the program.
-/
namespace Go.Proofs.Ytbphlkaihfbgeaa
open Go.RowKit Kv
set_option maxRecDepth 100000 in
set_option maxHeartbeats 2000000 in
theorem down_p7 (B p : Nat) (S : TS) (kind : Int) (m place : Nat) (me : Int) (rs : List Reg) (A : Option Addr) (c : Nat) (w : World) (h : Plays B w p S) (hk : kind = 7) (h1 : 1 ≤ m) (h2 : m ≤ 64) (h3 : place < m) (hlen : rs.length = 4 * (2 ^ levels m - 1)) (hc1 : rs.length ≤ c) (hc2 : c ≤ 9223372036854775807)
    (hreg : rs ≠ [] → ∃ b, A = some ⟨b, 0, none⟩ ∧ RegsAt [2, 3, 4] w p b rs) (hall : ∀ r ∈ rs, r.ok ∧ me < r.n ∧ r.told me) (hm0 : 0 ≤ me) :
    Calls Try.prog 66 #[.pointer (some ⟨p, 0, none⟩), .slice A rs.length c, .int .i64 kind, .int .i64 m, .int .i64 place, .int .i64 me] w (Post encU B p w ((forP (fun x _ => nodeL 4 rs me x) (pathL m place).reverse ()).run S)) := by
  generalize hR : Post encU B p w ((forP (fun x _ => nodeL 4 rs me x) (pathL m place).reverse ()).run S) = R
  have hO : Owes R encU B p w ((forP (fun x _ => nodeL 4 rs me x) (pathL m place).reverse ()).run S) := hR ▸ owes _ _ _ _ _
  clear hR
  have hmem := fun y (hy : y ∈ pathL m place) => pathL_mem h2 h3 hy
  have hPth := fun w => path_p m place w h1 h2 h3
  have hlv := lev_le h2
  obtain ⟨p1, p2⟩ := pow_le hlv
  have e : (2 : Int) ^ levels m = ((2 ^ levels m : Nat) : Int) := by rw [Int.natCast_pow]; rfl
  rw [e] at hmem
  have hll : (pathL m place).length ≤ 128 := by
    have := pathN_len (2 ^ levels m + place) (2 ^ levels m + place)
    unfold pathL
    omega
  clear e hlv
  generalize 2 ^ levels m = P at *
  generalize pathL m place = l at *
  have hn : nodeV kind = .agg #[.func (.func 188) #[] #[], .func (.func 189) #[] #[], .func (.func 190) #[] #[]] := by unfold nodeV; rw [if_pos hk]; rfl
  have hN := fun w => nodeOf_p kind w
  rw [hn] at hN
  have hmemh := Lib.hid hmem
  have hallh := Lib.hid hall
  have hlenh := Lib.hid hlen
  have hOh := Lib.hid hO
  clear hn hk hmem hall hlen hO
  go_enter Try.func66, Try.ntmps66
  go_wp2_with fail
  refine (hN _).mono ?_
  rintro e w2 ⟨rfl, hx2⟩
  have hK := Keep.of_ext (ix := [2, 3, 4]) (B := B) hx2 h.lt h.le
  have hP := h.ext hx2
  have hreg2 : rs ≠ [] → ∃ b, A = some ⟨b, 0, none⟩ ∧ RegsAt [2, 3, 4] w2 p b rs := fun hne => by
    obtain ⟨b, e1, e2⟩ := hreg hne
    exact ⟨b, e1, e2.extL hx2 h.lt⟩
  clear hx2 h hreg
  have bx := hP.held (.cells #[.func (.func 188) #[] #[], .func (.func 189) #[] #[], .func (.func 190) #[] #[]] 126)
  replace hK := hK.trans (Keep.alloc (.cells #[.func (.func 188) #[] #[], .func (.func 189) #[] #[], .func (.func 190) #[] #[]] 126) hP.lt hP.le)
  have hreg3 : rs ≠ [] → ∃ b, A = some ⟨b, 0, none⟩ ∧ RegsAt [2, 3, 4] (w2.alloc (.cells #[.func (.func 188) #[] #[], .func (.func 189) #[] #[], .func (.func 190) #[] #[]] 126)) p b rs := fun hne => by
    obtain ⟨b, e1, e2⟩ := hreg2 hne
    exact ⟨b, e1, e2.extL ((Ext.refl w2).alloc (.cells #[.func (.func 188) #[] #[], .func (.func 189) #[] #[], .func (.func 190) #[] #[]] 126)) hP.lt⟩
  replace hP := hP.alloc (.cells #[.func (.func 188) #[] #[], .func (.func 189) #[] #[], .func (.func 190) #[] #[]] 126)
  clear hreg2
  go_wp2_with fail
  generalize w2.heap.size = z at *
  generalize w2.alloc _ = W at *
  refine (hPth _).mono ?_
  rintro e w3 ⟨v3, rfl, hrow, hx3⟩
  go_wp2_with fail
  refine (reverse_p hx3 hrow (by omega)).mono ?_
  rintro e w4 ⟨rfl, hx4, hrow4⟩
  obtain ⟨A3, c3, rfl, hR⟩ := RowH.of_row (p := p) (ix := [2, 3, 4]) hrow4 (fun b hb => hP.fresh hx4 hb)
  replace hK := hK.trans (Keep.of_ext hx4 hP.lt hP.le)
  replace bx := bx.ext hx4 hP.lt
  clear hrow hx3
  have hreg : rs ≠ [] → ∃ b, A = some ⟨b, 0, none⟩ ∧ RegsAt [2, 3, 4] w4 p b rs := fun hne => by
    obtain ⟨b, e1, e2⟩ := hreg3 hne
    exact ⟨b, e1, e2.extL hx4 hP.lt⟩
  replace hP := hP.ext hx4
  clear hreg3 hx4 hrow4 hPth hN
  have hmem2 : ∀ y ∈ l.reverse, 2 ≤ y ∧ y < 2 * ((P : Nat) : Int) := fun y hy => hmemh.out y (List.mem_reverse.1 hy)
  replace hll : l.reverse.length ≤ 128 := by rw [List.length_reverse]; exact hll
  generalize l.reverse = l2 at *
  clear hmemh
  have hmemh := Lib.hid hmem2
  clear hmem2
  by_cases hl0 : l2 = []
  · subst hl0
    have hf := hOh.out.done (v := ()) hP hK
    clear hOh hmemh hR hreg hallh hlenh
    go_wp2_with fail
    go_loopw [25] (fun i wr => i = .int .i64 0 ∧ w4 = wr) (fun _ _ => 0)
    case atStart => exact ⟨rfl, rfl⟩
    case round =>
      obtain ⟨rfl, rfl⟩ := hrel
      go_wp2_with fail
      first | exact hf | (refine bodyPost_ret (results_none rfl _ _ _) rfl ?_; exact hf)
  obtain ⟨g, cur, rfl, hg, hcur⟩ := hR hl0
  obtain ⟨b, rfl, hl⟩ := hreg (by
    obtain ⟨y, l2', rfl⟩ : ∃ y l2', l2 = y :: l2' := by cases l2 with | nil => exact absurd rfl hl0 | cons y l2' => exact ⟨y, l2', rfl⟩
    have h1 := hmemh.out y (List.mem_cons_self ..)
    have h2 := hlenh.out
    intro hne
    rw [hne, List.length_nil] at h2
    omega)
  have hch := Lib.hid hcur
  clear hreg hR hl0 hcur
  go_wp2_with fail
  go_loopw [25] (fun i wr => ∃ (j : Nat) (S2 : TS), i = .int .i64 j ∧ j ≤ l2.length ∧ Plays B wr p S2 ∧ KeepP B p w wr ∧ HeldP wr p z (.cells #[.func (.func 188) #[] #[], .func (.func 189) #[] #[], .func (.func 190) #[] #[]] 126) ∧ HeldP wr p g (.cells cur 3) ∧ RegsAt [2, 3, 4] wr p b rs ∧ Hid (Owes R encU B p w ((forP (fun x _ => nodeL 4 rs me x) (l2.drop j) ()).run S2))) (fun i _ => l2.length - (intOf i).toNat)
  case atStart => exact ⟨0, S, rfl, by omega, hP, hK, bx, hg, hl, hOh⟩
  case round =>
    clear hP hK bx hg hl hOh
    obtain ⟨j, S2, rfl, hj, hP, hK, bx, hg, hl, hOh⟩ := hrel
    by_cases hjl : j < l2.length
    · obtain ⟨y, hy⟩ : ∃ y, l2[j]? = some y := ⟨_, List.getElem?_eq_getElem hjl⟩
      have hym := hmemh.out y (List.mem_of_getElem? hy)
      obtain ⟨Y, rfl⟩ : ∃ Y : Nat, y = (Y : Int) := ⟨y.toNat, by omega⟩
      have c_g := hg.at_ hch.out hy
      have hO := hOh.out
      rw [List.drop_eq_getElem_cons hjl, show l2[j] = (Y : Int) from by rw [List.getElem?_eq_getElem hjl] at hy; exact Option.some.inj hy] at hO
      have hOk : Hid (Owes R encU B p w (((nodeL 4 rs me (Y : Int)).bind fun _ => forP (fun x _ => nodeL 4 rs me x) (l2.drop (j + 1)) ()).run S2)) := Lib.hid hO
      clear hO hOh hy
      have hn2 : Y / 2 * 4 ≤ rs.length := by have := hlenh.out; omega
      have hn1 : 1 ≤ Y / 2 := by omega
      have hlen9 : rs.length ≤ 1000000 := by have := hlenh.out; omega
      have hrg := fun w => tregs_p7 b c (Y / 2) rs.length w hn1 hn2 hc1 hc2 hlen9
      have hq1 : IntKind.i64.wrap ((Y : Int) / 2) = ((Y / 2 : Nat) : Int) := by rw [IntWalk.i64_in _ (by omega)]; omega
      have hq2 : (Y : Int).tmod 2 = (Y : Int) % 2 := Int.tmod_eq_emod_of_nonneg (by omega)
      go_wp2_with fail
      have hS : ∀ w', HeldP w' p z (.cells #[.func (.func 188) #[] #[], .func (.func 189) #[] #[], .func (.func 190) #[] #[]] 126) → (∀ i, w'.cell? ⟨z, i, none⟩ = (#[.func (.func 188) #[] #[], .func (.func 189) #[] #[], .func (.func 190) #[] #[]] : Array Value)[i]?) := fun w' x => x.cells
      have c_bx := bx.cells
      refine wp_region_held_drew (S := fun w' => ∀ i, w'.cell? ⟨z, i, none⟩ = (#[.func (.func 188) #[] #[], .func (.func 189) #[] #[], .func (.func 190) #[] #[]] : Array Value)[i]?) rfl (hS _ bx) (fun hHeld => ?_)
      replace hl := hl.extL (Ext.refl wr).drew hP.lt
      replace hP := hP.drew
      replace hK := hK.drew
      replace bx := bx.drew
      replace hg := hg.drew
      refine wpAnyH_take (i := 0) (v := ?_) rfl (by kernel_rfl) (by kernel_rfl) (by kernel_rfl) (fun _ _ _ h => h) (Or.inl ⟨by kernel_rfl, ?_⟩) (by assumption) ?_
      rotate_left
      · (intro w hSw; (try dsimp only at hSw); go_simp; try with_reducible rfl)
      try simp only [put_pack]
      refine wpAnyH_take (i := 1) (v := ?_) rfl (by kernel_rfl) (by kernel_rfl) (by kernel_rfl) (fun _ _ _ h => h) (Or.inl ⟨by kernel_rfl, ?_⟩) (by assumption) ?_
      rotate_left
      · (intro w hSw; (try dsimp only at hSw); go_simp; try with_reducible rfl)
      try simp only [put_pack]
      refine wpAnyH_take (i := 2) (v := ?_) rfl (by kernel_rfl) (by kernel_rfl) (by kernel_rfl) (fun _ _ _ h => h) (Or.inl ⟨by kernel_rfl, ?_⟩) (by assumption) ?_
      rotate_left
      · (intro w hSw; (try dsimp only at hSw); go_simp; try with_reducible rfl)
      try simp only [put_pack]
      refine wpAnyH_take (i := 3) (v := ?_) rfl (by kernel_rfl) (by kernel_rfl) (by kernel_rfl) (fun _ _ _ h => h) (Or.inl ⟨by kernel_rfl, ?_⟩) (by assumption) ?_
      rotate_left
      · (intro w hSw; (try dsimp only at hSw); go_simp; try with_reducible rfl)
      try simp only [put_pack]
      refine wpAnyH_take (i := 4) (v := ?_) rfl (by kernel_rfl) (by kernel_rfl) (by kernel_rfl) (fun _ _ _ h => h) (Or.inl ⟨by kernel_rfl, ?_⟩) (by assumption) ?_
      rotate_left
      · (intro w hSw; (try dsimp only at hSw); go_simp; try with_reducible rfl)
      try simp only [put_pack]
      refine wpAnyH_take (i := 5) (v := ?_) rfl (by kernel_rfl) (by kernel_rfl) (by kernel_rfl) (fun _ _ _ h => h) (Or.inl ⟨by kernel_rfl, ?_⟩) (by assumption) ?_
      rotate_left
      · (intro w hSw; (try dsimp only at hSw); go_simp; try with_reducible rfl)
      try simp only [put_pack]
      refine wpAnyH_take (i := 6) (v := ?_) rfl (by kernel_rfl) (by kernel_rfl) (by kernel_rfl) (fun _ _ _ h => h) (Or.inl ⟨by kernel_rfl, ?_⟩) (by assumption) ?_
      rotate_left
      · (intro w hSw; (try dsimp only at hSw); go_simp; try with_reducible rfl)
      try simp only [put_pack]
      refine wpAnyH_take (i := 8) (v := ?_) rfl (by kernel_rfl) (by kernel_rfl) (by kernel_rfl) (fun _ _ _ h => h) (Or.inl ⟨by kernel_rfl, ?_⟩) (by assumption) ?_
      rotate_left
      · (intro w hSw; (try dsimp only at hSw); go_simp; try with_reducible rfl)
      try simp only [put_pack]
      refine wpAnyH_take (i := 9) (v := ?_) rfl (by kernel_rfl) (by kernel_rfl) (by kernel_rfl) (fun _ _ _ h => h) (Or.inl ⟨by kernel_rfl, ?_⟩) (by assumption) ?_
      rotate_left
      · (intro w hSw; (try dsimp only at hSw); go_simp; try with_reducible rfl)
      try simp only [put_pack]
      refine wpAnyH_take (i := 10) (v := ?_) rfl (by kernel_rfl) (by kernel_rfl) (by kernel_rfl) (fun _ _ _ h => h) (Or.inl ⟨by kernel_rfl, ?_⟩) (by assumption) ?_
      rotate_left
      · (intro w hSw; (try dsimp only at hSw); go_simp; try with_reducible rfl)
      try simp only [put_pack]
      refine wpAnyH_ready (rs := [7]) (by kernel_rfl) (by simp) ?_
      refine AllReadyH.cons rfl (fun K hKK => ?_) AllReadyH.nil
      go_simp
      refine (hrg _).mono ?_
      rintro e w4 ⟨c', rfl, q1, q2, hx⟩
      replace bx := bx.ext hx hP.lt
      replace hg := hg.ext hx hP.lt
      replace hl := hl.extL hx hP.lt
      replace hK := hK.trans (Keep.of_ext hx hP.lt hP.le)
      replace hP := hP.ext hx
      clear hx hrg c_g c_bx
      refine hKK.out _ _ (hS _ bx) (fun hHeld => ?_)
      clear hKK K
      try dsimp only
      refine wpAnyH_ready (rs := [11]) (by kernel_rfl) (by simp) ?_
      refine AllReadyH.cons rfl (fun K hKK => ?_) AllReadyH.nil
      go_simp
      refine tstepL hOk.out hK (node_leave_p7 B p (Y / 2) S2 rs Y me b c' _ hP hl hallh.out hm0 (by omega) hn1 hn2) (fun _ h => ⟨rfl, h⟩) ?_
      clear hK hP hOk
      intro u S3 w5 hlf _ hP hk1 hK hO
      replace bx := bx.keep hk1
      replace hg := hg.keep hk1
      replace hl := hl.keep hk1
      clear hk1 hlf
      refine hKK.out _ _ (hS _ bx) (fun hHeld => ?_)
      clear hKK K
      try dsimp only
      refine wpAnyH_done (by kernel_rfl) ?_ _
      go_simp
      have hf := Lib.hid hO
      clear hO hS
      go_wp2_with fail
      refine ⟨⟨j + 1, S3, by go_num, by omega, hP, hK, bx, hg, hl, hf⟩, ?_⟩
      simp [intOf]; omega
    · obtain rfl : j = l2.length := by omega
      have hO := hOh.out
      rw [List.drop_length] at hO
      have hf := hO.done (v := ()) hP hK
      clear hO hOh hP hK hl hg bx
      go_wp2_with fail
      first | exact hf | (refine bodyPost_ret (results_none rfl _ _ _) rfl ?_; exact hf)
set_option maxRecDepth 100000 in
set_option maxHeartbeats 2000000 in
theorem down_p3 (B p : Nat) (S : TS) (kind : Int) (m place : Nat) (me : Int) (rs : List Reg) (A : Option Addr) (c : Nat) (w : World) (h : Plays B w p S) (hk : kind ≠ 7) (h1 : 1 ≤ m) (h2 : m ≤ 64) (h3 : place < m) (hlen : rs.length = 3 * (2 ^ levels m - 1)) (hc1 : rs.length ≤ c) (hc2 : c ≤ 9223372036854775807)
    (hreg : rs ≠ [] → ∃ b, A = some ⟨b, 0, none⟩ ∧ RegsAt [2, 3, 4] w p b rs) (hall : ∀ r ∈ rs, r.ok ∧ me < r.n ∧ r.told me) (hm0 : 0 ≤ me) :
    Calls Try.prog 66 #[.pointer (some ⟨p, 0, none⟩), .slice A rs.length c, .int .i64 kind, .int .i64 m, .int .i64 place, .int .i64 me] w (Post encU B p w ((forP (fun x _ => nodeL 3 rs me x) (pathL m place).reverse ()).run S)) := by
  generalize hR : Post encU B p w ((forP (fun x _ => nodeL 3 rs me x) (pathL m place).reverse ()).run S) = R
  have hO : Owes R encU B p w ((forP (fun x _ => nodeL 3 rs me x) (pathL m place).reverse ()).run S) := hR ▸ owes _ _ _ _ _
  clear hR
  have hmem := fun y (hy : y ∈ pathL m place) => pathL_mem h2 h3 hy
  have hPth := fun w => path_p m place w h1 h2 h3
  have hlv := lev_le h2
  obtain ⟨p1, p2⟩ := pow_le hlv
  have e : (2 : Int) ^ levels m = ((2 ^ levels m : Nat) : Int) := by rw [Int.natCast_pow]; rfl
  rw [e] at hmem
  have hll : (pathL m place).length ≤ 128 := by
    have := pathN_len (2 ^ levels m + place) (2 ^ levels m + place)
    unfold pathL
    omega
  clear e hlv
  generalize 2 ^ levels m = P at *
  generalize pathL m place = l at *
  have hn : nodeV kind = .agg #[.func (.func 191) #[] #[], .func (.func 192) #[] #[], .func (.func 193) #[] #[]] := by unfold nodeV; rw [if_neg hk]; rfl
  have hN := fun w => nodeOf_p kind w
  rw [hn] at hN
  have hmemh := Lib.hid hmem
  have hallh := Lib.hid hall
  have hlenh := Lib.hid hlen
  have hOh := Lib.hid hO
  clear hn hk hmem hall hlen hO
  go_enter Try.func66, Try.ntmps66
  go_wp2_with fail
  refine (hN _).mono ?_
  rintro e w2 ⟨rfl, hx2⟩
  have hK := Keep.of_ext (ix := [2, 3, 4]) (B := B) hx2 h.lt h.le
  have hP := h.ext hx2
  have hreg2 : rs ≠ [] → ∃ b, A = some ⟨b, 0, none⟩ ∧ RegsAt [2, 3, 4] w2 p b rs := fun hne => by
    obtain ⟨b, e1, e2⟩ := hreg hne
    exact ⟨b, e1, e2.extL hx2 h.lt⟩
  clear hx2 h hreg
  have bx := hP.held (.cells #[.func (.func 191) #[] #[], .func (.func 192) #[] #[], .func (.func 193) #[] #[]] 126)
  replace hK := hK.trans (Keep.alloc (.cells #[.func (.func 191) #[] #[], .func (.func 192) #[] #[], .func (.func 193) #[] #[]] 126) hP.lt hP.le)
  have hreg3 : rs ≠ [] → ∃ b, A = some ⟨b, 0, none⟩ ∧ RegsAt [2, 3, 4] (w2.alloc (.cells #[.func (.func 191) #[] #[], .func (.func 192) #[] #[], .func (.func 193) #[] #[]] 126)) p b rs := fun hne => by
    obtain ⟨b, e1, e2⟩ := hreg2 hne
    exact ⟨b, e1, e2.extL ((Ext.refl w2).alloc (.cells #[.func (.func 191) #[] #[], .func (.func 192) #[] #[], .func (.func 193) #[] #[]] 126)) hP.lt⟩
  replace hP := hP.alloc (.cells #[.func (.func 191) #[] #[], .func (.func 192) #[] #[], .func (.func 193) #[] #[]] 126)
  clear hreg2
  go_wp2_with fail
  generalize w2.heap.size = z at *
  generalize w2.alloc _ = W at *
  refine (hPth _).mono ?_
  rintro e w3 ⟨v3, rfl, hrow, hx3⟩
  go_wp2_with fail
  refine (reverse_p hx3 hrow (by omega)).mono ?_
  rintro e w4 ⟨rfl, hx4, hrow4⟩
  obtain ⟨A3, c3, rfl, hR⟩ := RowH.of_row (p := p) (ix := [2, 3, 4]) hrow4 (fun b hb => hP.fresh hx4 hb)
  replace hK := hK.trans (Keep.of_ext hx4 hP.lt hP.le)
  replace bx := bx.ext hx4 hP.lt
  clear hrow hx3
  have hreg : rs ≠ [] → ∃ b, A = some ⟨b, 0, none⟩ ∧ RegsAt [2, 3, 4] w4 p b rs := fun hne => by
    obtain ⟨b, e1, e2⟩ := hreg3 hne
    exact ⟨b, e1, e2.extL hx4 hP.lt⟩
  replace hP := hP.ext hx4
  clear hreg3 hx4 hrow4 hPth hN
  have hmem2 : ∀ y ∈ l.reverse, 2 ≤ y ∧ y < 2 * ((P : Nat) : Int) := fun y hy => hmemh.out y (List.mem_reverse.1 hy)
  replace hll : l.reverse.length ≤ 128 := by rw [List.length_reverse]; exact hll
  generalize l.reverse = l2 at *
  clear hmemh
  have hmemh := Lib.hid hmem2
  clear hmem2
  by_cases hl0 : l2 = []
  · subst hl0
    have hf := hOh.out.done (v := ()) hP hK
    clear hOh hmemh hR hreg hallh hlenh
    go_wp2_with fail
    go_loopw [25] (fun i wr => i = .int .i64 0 ∧ w4 = wr) (fun _ _ => 0)
    case atStart => exact ⟨rfl, rfl⟩
    case round =>
      obtain ⟨rfl, rfl⟩ := hrel
      go_wp2_with fail
      first | exact hf | (refine bodyPost_ret (results_none rfl _ _ _) rfl ?_; exact hf)
  obtain ⟨g, cur, rfl, hg, hcur⟩ := hR hl0
  obtain ⟨b, rfl, hl⟩ := hreg (by
    obtain ⟨y, l2', rfl⟩ : ∃ y l2', l2 = y :: l2' := by cases l2 with | nil => exact absurd rfl hl0 | cons y l2' => exact ⟨y, l2', rfl⟩
    have h1 := hmemh.out y (List.mem_cons_self ..)
    have h2 := hlenh.out
    intro hne
    rw [hne, List.length_nil] at h2
    omega)
  have hch := Lib.hid hcur
  clear hreg hR hl0 hcur
  go_wp2_with fail
  go_loopw [25] (fun i wr => ∃ (j : Nat) (S2 : TS), i = .int .i64 j ∧ j ≤ l2.length ∧ Plays B wr p S2 ∧ KeepP B p w wr ∧ HeldP wr p z (.cells #[.func (.func 191) #[] #[], .func (.func 192) #[] #[], .func (.func 193) #[] #[]] 126) ∧ HeldP wr p g (.cells cur 3) ∧ RegsAt [2, 3, 4] wr p b rs ∧ Hid (Owes R encU B p w ((forP (fun x _ => nodeL 3 rs me x) (l2.drop j) ()).run S2))) (fun i _ => l2.length - (intOf i).toNat)
  case atStart => exact ⟨0, S, rfl, by omega, hP, hK, bx, hg, hl, hOh⟩
  case round =>
    clear hP hK bx hg hl hOh
    obtain ⟨j, S2, rfl, hj, hP, hK, bx, hg, hl, hOh⟩ := hrel
    by_cases hjl : j < l2.length
    · obtain ⟨y, hy⟩ : ∃ y, l2[j]? = some y := ⟨_, List.getElem?_eq_getElem hjl⟩
      have hym := hmemh.out y (List.mem_of_getElem? hy)
      obtain ⟨Y, rfl⟩ : ∃ Y : Nat, y = (Y : Int) := ⟨y.toNat, by omega⟩
      have c_g := hg.at_ hch.out hy
      have hO := hOh.out
      rw [List.drop_eq_getElem_cons hjl, show l2[j] = (Y : Int) from by rw [List.getElem?_eq_getElem hjl] at hy; exact Option.some.inj hy] at hO
      have hOk : Hid (Owes R encU B p w (((nodeL 3 rs me (Y : Int)).bind fun _ => forP (fun x _ => nodeL 3 rs me x) (l2.drop (j + 1)) ()).run S2)) := Lib.hid hO
      clear hO hOh hy
      have hn2 : Y / 2 * 3 ≤ rs.length := by have := hlenh.out; omega
      have hn1 : 1 ≤ Y / 2 := by omega
      have hlen9 : rs.length ≤ 1000000 := by have := hlenh.out; omega
      have hrg := fun w => tregs_p3 b c (Y / 2) rs.length w hn1 hn2 hc1 hc2 hlen9
      have hq1 : IntKind.i64.wrap ((Y : Int) / 2) = ((Y / 2 : Nat) : Int) := by rw [IntWalk.i64_in _ (by omega)]; omega
      have hq2 : (Y : Int).tmod 2 = (Y : Int) % 2 := Int.tmod_eq_emod_of_nonneg (by omega)
      go_wp2_with fail
      have hS : ∀ w', HeldP w' p z (.cells #[.func (.func 191) #[] #[], .func (.func 192) #[] #[], .func (.func 193) #[] #[]] 126) → (∀ i, w'.cell? ⟨z, i, none⟩ = (#[.func (.func 191) #[] #[], .func (.func 192) #[] #[], .func (.func 193) #[] #[]] : Array Value)[i]?) := fun w' x => x.cells
      have c_bx := bx.cells
      refine wp_region_held_drew (S := fun w' => ∀ i, w'.cell? ⟨z, i, none⟩ = (#[.func (.func 191) #[] #[], .func (.func 192) #[] #[], .func (.func 193) #[] #[]] : Array Value)[i]?) rfl (hS _ bx) (fun hHeld => ?_)
      replace hl := hl.extL (Ext.refl wr).drew hP.lt
      replace hP := hP.drew
      replace hK := hK.drew
      replace bx := bx.drew
      replace hg := hg.drew
      refine wpAnyH_take (i := 0) (v := ?_) rfl (by kernel_rfl) (by kernel_rfl) (by kernel_rfl) (fun _ _ _ h => h) (Or.inl ⟨by kernel_rfl, ?_⟩) (by assumption) ?_
      rotate_left
      · (intro w hSw; (try dsimp only at hSw); go_simp; try with_reducible rfl)
      try simp only [put_pack]
      refine wpAnyH_take (i := 1) (v := ?_) rfl (by kernel_rfl) (by kernel_rfl) (by kernel_rfl) (fun _ _ _ h => h) (Or.inl ⟨by kernel_rfl, ?_⟩) (by assumption) ?_
      rotate_left
      · (intro w hSw; (try dsimp only at hSw); go_simp; try with_reducible rfl)
      try simp only [put_pack]
      refine wpAnyH_take (i := 2) (v := ?_) rfl (by kernel_rfl) (by kernel_rfl) (by kernel_rfl) (fun _ _ _ h => h) (Or.inl ⟨by kernel_rfl, ?_⟩) (by assumption) ?_
      rotate_left
      · (intro w hSw; (try dsimp only at hSw); go_simp; try with_reducible rfl)
      try simp only [put_pack]
      refine wpAnyH_take (i := 3) (v := ?_) rfl (by kernel_rfl) (by kernel_rfl) (by kernel_rfl) (fun _ _ _ h => h) (Or.inl ⟨by kernel_rfl, ?_⟩) (by assumption) ?_
      rotate_left
      · (intro w hSw; (try dsimp only at hSw); go_simp; try with_reducible rfl)
      try simp only [put_pack]
      refine wpAnyH_take (i := 4) (v := ?_) rfl (by kernel_rfl) (by kernel_rfl) (by kernel_rfl) (fun _ _ _ h => h) (Or.inl ⟨by kernel_rfl, ?_⟩) (by assumption) ?_
      rotate_left
      · (intro w hSw; (try dsimp only at hSw); go_simp; try with_reducible rfl)
      try simp only [put_pack]
      refine wpAnyH_take (i := 5) (v := ?_) rfl (by kernel_rfl) (by kernel_rfl) (by kernel_rfl) (fun _ _ _ h => h) (Or.inl ⟨by kernel_rfl, ?_⟩) (by assumption) ?_
      rotate_left
      · (intro w hSw; (try dsimp only at hSw); go_simp; try with_reducible rfl)
      try simp only [put_pack]
      refine wpAnyH_take (i := 6) (v := ?_) rfl (by kernel_rfl) (by kernel_rfl) (by kernel_rfl) (fun _ _ _ h => h) (Or.inl ⟨by kernel_rfl, ?_⟩) (by assumption) ?_
      rotate_left
      · (intro w hSw; (try dsimp only at hSw); go_simp; try with_reducible rfl)
      try simp only [put_pack]
      refine wpAnyH_take (i := 8) (v := ?_) rfl (by kernel_rfl) (by kernel_rfl) (by kernel_rfl) (fun _ _ _ h => h) (Or.inl ⟨by kernel_rfl, ?_⟩) (by assumption) ?_
      rotate_left
      · (intro w hSw; (try dsimp only at hSw); go_simp; try with_reducible rfl)
      try simp only [put_pack]
      refine wpAnyH_take (i := 9) (v := ?_) rfl (by kernel_rfl) (by kernel_rfl) (by kernel_rfl) (fun _ _ _ h => h) (Or.inl ⟨by kernel_rfl, ?_⟩) (by assumption) ?_
      rotate_left
      · (intro w hSw; (try dsimp only at hSw); go_simp; try with_reducible rfl)
      try simp only [put_pack]
      refine wpAnyH_take (i := 10) (v := ?_) rfl (by kernel_rfl) (by kernel_rfl) (by kernel_rfl) (fun _ _ _ h => h) (Or.inl ⟨by kernel_rfl, ?_⟩) (by assumption) ?_
      rotate_left
      · (intro w hSw; (try dsimp only at hSw); go_simp; try with_reducible rfl)
      try simp only [put_pack]
      refine wpAnyH_ready (rs := [7]) (by kernel_rfl) (by simp) ?_
      refine AllReadyH.cons rfl (fun K hKK => ?_) AllReadyH.nil
      go_simp
      refine (hrg _).mono ?_
      rintro e w4 ⟨c', rfl, q1, q2, hx⟩
      replace bx := bx.ext hx hP.lt
      replace hg := hg.ext hx hP.lt
      replace hl := hl.extL hx hP.lt
      replace hK := hK.trans (Keep.of_ext hx hP.lt hP.le)
      replace hP := hP.ext hx
      clear hx hrg c_g c_bx
      refine hKK.out _ _ (hS _ bx) (fun hHeld => ?_)
      clear hKK K
      try dsimp only
      refine wpAnyH_ready (rs := [11]) (by kernel_rfl) (by simp) ?_
      refine AllReadyH.cons rfl (fun K hKK => ?_) AllReadyH.nil
      go_simp
      refine tstepL hOk.out hK (node_leave_p3 B p (Y / 2) S2 rs Y me b c' _ hP hl hallh.out hm0 (by omega) hn1 hn2) (fun _ h => ⟨rfl, h⟩) ?_
      clear hK hP hOk
      intro u S3 w5 hlf _ hP hk1 hK hO
      replace bx := bx.keep hk1
      replace hg := hg.keep hk1
      replace hl := hl.keep hk1
      clear hk1 hlf
      refine hKK.out _ _ (hS _ bx) (fun hHeld => ?_)
      clear hKK K
      try dsimp only
      refine wpAnyH_done (by kernel_rfl) ?_ _
      go_simp
      have hf := Lib.hid hO
      clear hO hS
      go_wp2_with fail
      refine ⟨⟨j + 1, S3, by go_num, by omega, hP, hK, bx, hg, hl, hf⟩, ?_⟩
      simp [intOf]; omega
    · obtain rfl : j = l2.length := by omega
      have hO := hOh.out
      rw [List.drop_length] at hO
      have hf := hO.done (v := ()) hP hK
      clear hO hOh hP hK hl hg bx
      go_wp2_with fail
      first | exact hf | (refine bodyPost_ret (results_none rfl _ _ _) rfl ?_; exact hf)
end Go.Proofs.Ytbphlkaihfbgeaa
/-
  The wants of three locks, as the program and the document list them.
-/
namespace Kv
def filWant (N i : Nat) : Want := if i < N then ⟨i, N⟩ else ⟨-1, N⟩
def filWants (N : Nat) : List Want := (List.range (2 * N - 1)).map (filWant N)
def fastWant (N i : Nat) : Want := if i < 2 then ⟨-1, N⟩ else ⟨i - 2, 1⟩
def fastWants (N : Nat) : List Want := (List.range (N + 2)).map (fastWant N)
def bwWant (N i : Nat) : Want := if i = 0 then ⟨-1, 1⟩ else if i ≤ N then ⟨i - 1, 1⟩ else ⟨i - 1 - N, 4 * N⟩
def bwWants (N : Nat) : List Want := (List.range (2 * N + 1)).map (bwWant N)
end Kv
namespace Go.Proofs.Ytbphlkaihfbgeaa
open Go.RowKit Kv
/-- The first so many wants, as cells. -/
def wantRow (f : Nat → Want) (n : Nat) : List Value := ((List.range n).map f).flatMap wantVals
theorem wants_succ (f : Nat → Want) (j : Nat) : wantRow f (j + 1) = wantRow f j ++ wantVals (f j) := by
  unfold wantRow
  rw [List.range_succ, List.map_append, List.flatMap_append]
  simp
theorem wants_row {w : World} {B : Nat} {v : Value} {n : Nat} {f : Nat → Want} (h : w.ownsRow B 91 2 v n (wantRow f n)) : WantsAt w v ((List.range n).map f) := by
  have := Recs.of_row h
  unfold WantsAt
  rw [List.length_map, List.length_range]
  exact this
end Go.Proofs.Ytbphlkaihfbgeaa
/-
  The program's registers: how many locals one has, whether one may be.
-/
namespace Go.Proofs.Ytbphlkaihfbgeaa
open Go.RowKit Kv
theorem within_p (a m : Int) (w : World) (h : 0 ≤ a ∧ 0 ≤ m ∧ m ≤ 10000) : Calls Try.prog 146 #[.int .i64 a, .int .i64 m, .int .i64 32768] w fun e w' => e = .returned (.bool (decide (a ≤ 32768) && decide (a + m ≤ 32768))) ∧ w = w' := by
  obtain ⟨h0, h1, h2⟩ := h
  by_cases e1 : a ≤ 32768
  · have d : decide (a ≤ 32768) = true := by simpa using e1
    rw [d, Bool.true_and]
    go_enter Try.func146, Try.ntmps146
    go_wp2_with fail
    go_ret
    exact ⟨rfl, rfl⟩
  · have d : decide (a ≤ 32768) = false := by simpa using e1
    rw [d, Bool.false_and]
    go_enter Try.func146, Try.ntmps146
    go_wp2_with fail
    go_ret
    exact ⟨rfl, rfl⟩
theorem greatest1_p (w : World) : Calls Try.prog 145 #[.int .i64 1] w fun e w' => e = .returned (.int .i64 1099511627776) ∧ w = w' := by
  go_enter Try.func145, Try.ntmps145
  go_wp2_with fail
  go_ret
  exact ⟨rfl, rfl⟩
theorem greatest6_p (w : World) : Calls Try.prog 145 #[.int .i64 6] w fun e w' => e = .returned (.int .i64 1048576) ∧ w = w' := by
  go_enter Try.func145, Try.ntmps145
  go_wp2_with fail
  go_ret
  exact ⟨rfl, rfl⟩
theorem greatest7_p (w : World) : Calls Try.prog 145 #[.int .i64 7] w fun e w' => e = .returned (.int .i64 255) ∧ w = w' := by
  go_enter Try.func145, Try.ntmps145
  go_wp2_with fail
  go_ret
  exact ⟨rfl, rfl⟩
theorem mlocals_p (n : Int) (w : World) (h1 : 1 ≤ n) (h2 : n ≤ 8) : Calls Try.prog 120 #[.int .i64 n] w fun e w' => e = .returned (.int .i64 (n * (2 + 18 * (n - 1) * (n - 1)))) ∧ w = w' := by
  have hb := locals_bd n h1 h2
  go_enter Try.func120, Try.ntmps120
  go_wp2_with fail
  refine (mthreads_p n _ h1 h2).mono ?_
  rintro e w' ⟨rfl, rfl⟩
  go_wp2_with fail
  refine (tlocals_p n _ h1 h2).mono ?_
  rintro e w' ⟨rfl, rfl⟩
  go_wp2_with fail
  go_ret
  exact ⟨rfl, rfl⟩
theorem locals_p (r : Reg) (w : World) (hk : r.kind = 1 ∨ r.kind = 6 ∨ r.kind = 7) (hn : 1 ≤ r.n ∧ r.n ≤ 8) : Calls Try.prog 46 #[encR r] w fun e w' => e = .returned (.int .i64 (localsM r)) ∧ Ext w w' := by
  obtain ⟨kind, base, loc, n, wr, rd, top⟩ := r
  simp only at hk hn
  unfold encR localsM
  simp only
  have hX := Ext.refl w
  have b1 := Blk.new w (.cells #[.int .i64 kind, .int .i64 base, .int .i64 loc, .int .i64 n, .int .i64 wr, .int .i64 rd, .int .i64 top] 56)
  replace hX := hX.alloc (.cells #[.int .i64 kind, .int .i64 base, .int .i64 loc, .int .i64 n, .int .i64 wr, .int .i64 rd, .int .i64 top] 56)
  have c_b1 := b1.cells
  rcases hk with rfl | rfl | rfl
  · go_enter Try.func46, Try.ntmps46
    go_wp2_with fail
    go_ret
    exact ⟨rfl, hX⟩
  · go_enter Try.func46, Try.ntmps46
    go_wp2_with fail
    refine (tlocals_p n _ hn.1 hn.2).mono ?_
    rintro e w' ⟨rfl, rfl⟩
    go_wp2_with fail
    go_ret
    exact ⟨rfl, hX⟩
  · go_enter Try.func46, Try.ntmps46
    go_wp2_with fail
    refine (mlocals_p n _ hn.1 hn.2).mono ?_
    rintro e w' ⟨rfl, rfl⟩
    go_wp2_with fail
    go_ret
    exact ⟨rfl, hX⟩
set_option maxRecDepth 100000 in
set_option maxHeartbeats 2000000 in
theorem pfine1_p (base loc n wr top C D : Int) (w : World) (hb : 0 ≤ base) (hl : 0 ≤ loc) (hn : 1 ≤ n ∧ n ≤ 8) (hw : -1 ≤ wr ∧ wr < n) (ht : 1 ≤ top ∧ top ≤ 255) (hz : 0 ≤ C ∧ C ≤ 6272 ∧ 0 ≤ D ∧ D ≤ 7072)
    (hC : ∀ w, Calls Try.prog 45 #[.agg #[.int .i64 1, .int .i64 base, .int .i64 loc, .int .i64 n, .int .i64 wr, .int .i64 (-1), .int .i64 top]] w fun e w' => e = .returned (.int .i64 C) ∧ Ext w w')
    (hL : ∀ w, Calls Try.prog 46 #[.agg #[.int .i64 1, .int .i64 base, .int .i64 loc, .int .i64 n, .int .i64 wr, .int .i64 (-1), .int .i64 top]] w fun e w' => e = .returned (.int .i64 D) ∧ Ext w w') :
    Calls Try.prog 87 #[.agg #[.int .i64 1, .int .i64 base, .int .i64 loc, .int .i64 n, .int .i64 wr, .int .i64 (-1), .int .i64 top]] w fun e w' => e = .returned (.bool (decide (base ≤ 32768) && decide (loc ≤ 32768) && decide (base + C ≤ 32768) && decide (loc + D ≤ 32768))) ∧ Ext w w' := by
  have d3 : decide (n < 1) = false := by simpa using hn.1
  have d4 : decide (8 < n) = false := by simpa using hn.2
  have d5 : decide (top < 1) = false := by simpa using ht.1
  have d6 : decide (1099511627776 < top) = false := by rw [decide_eq_false_iff_not]; omega
  have d7 : decide (wr < -1) = false := by rw [decide_eq_false_iff_not]; omega
  have d8 : decide (n ≤ wr) = false := by rw [decide_eq_false_iff_not]; omega
  have d9 : decide (n ≤ -1) = false := by rw [decide_eq_false_iff_not]; omega
  have hX := Ext.refl w
  have b1 := Blk.new w (.cells #[.int .i64 1, .int .i64 base, .int .i64 loc, .int .i64 n, .int .i64 wr, .int .i64 (-1), .int .i64 top] 56)
  replace hX := hX.alloc (.cells #[.int .i64 1, .int .i64 base, .int .i64 loc, .int .i64 n, .int .i64 wr, .int .i64 (-1), .int .i64 top] 56)
  have c_b1 := b1.cells
  have hW1 := fun w => within_p base C w ⟨hb, by omega⟩
  have hW2 := fun w => within_p loc D w ⟨hl, by omega⟩
  have he : (decide (base ≤ 32768) && decide (loc ≤ 32768) && decide (base + C ≤ 32768) && decide (loc + D ≤ 32768)) = ((decide (base ≤ 32768) && decide (base + C ≤ 32768)) && (decide (loc ≤ 32768) && decide (loc + D ≤ 32768))) := by
    cases decide (base ≤ 32768) <;> cases decide (loc ≤ 32768) <;> simp
  rw [he]
  clear he
  generalize (decide (base ≤ 32768) && decide (base + C ≤ 32768)) = F1 at *
  generalize (decide (loc ≤ 32768) && decide (loc + D ≤ 32768)) = F2 at *
  clear hz hb hl hn hw ht
  go_enter Try.func87, Try.ntmps87
  go_wp2_with fail
  generalize w.alloc (.cells #[.int .i64 1, .int .i64 base, .int .i64 loc, .int .i64 n, .int .i64 wr, .int .i64 (-1), .int .i64 top] 56) = W0 at *
  have hE := hX.drew
  replace b1 := b1.drew
  clear hX c_b1
  have hX := hE
  have c_b1 := b1.cells
  go_region_held2 (fun w' => ∀ i, w'.cell? ⟨w.heap.size, i, none⟩ = (#[.int .i64 1, .int .i64 base, .int .i64 loc, .int .i64 n, .int .i64 wr, .int .i64 (-1), .int .i64 top] : Array Value)[i]?) (exact c_b1)
    (first
      | (go_at_call 145
         refine (greatest1_p _).mono ?_
         rintro e w' ⟨rfl, rfl⟩))
  rename_i hh
  clear hh hE
  generalize W0.drew = W at *
  go_wp2_with fail
  have hS : ∀ w', Ext W w' → (∀ i, w'.cell? ⟨w.heap.size, i, none⟩ = (#[.int .i64 1, .int .i64 base, .int .i64 loc, .int .i64 n, .int .i64 wr, .int .i64 (-1), .int .i64 top] : Array Value)[i]?) := fun w' hx => (b1.ext hx).cells
  have hXW := hX
  clear hX c_b1
  have hX := (Ext.refl W).drew
  cases F1 with
  | true =>
    go_region_held2 (fun w' => ∀ i, w'.cell? ⟨w.heap.size, i, none⟩ = (#[.int .i64 1, .int .i64 base, .int .i64 loc, .int .i64 n, .int .i64 wr, .int .i64 (-1), .int .i64 top] : Array Value)[i]?) (exact hS _ hX)
      (first
          | (go_at_call 45
             refine (hC _).mono ?_
             rintro e w2 ⟨rfl, hx⟩
             replace hX := hX.trans hx
             clear hx)
          | (go_at_call 46
             refine (hL _).mono ?_
             rintro e w2 ⟨rfl, hx⟩
             replace hX := hX.trans hx
             clear hx)
          | (go_at_call_of 146 (Value.int IntKind.i64 base)
             refine (hW1 _).mono ?_
             rintro e w' ⟨rfl, rfl⟩)
          | (go_at_call_of 146 (Value.int IntKind.i64 loc)
             refine (hW2 _).mono ?_
             rintro e w' ⟨rfl, rfl⟩))
    go_wp2_with fail
    go_ret
    exact ⟨rfl, hXW.trans hX⟩
  | false =>
    refine wp_region_held_drew (S := (fun w' => ∀ i, w'.cell? ⟨w.heap.size, i, none⟩ = (#[.int .i64 1, .int .i64 base, .int .i64 loc, .int .i64 n, .int .i64 wr, .int .i64 (-1), .int .i64 top] : Array Value)[i]?)) rfl (hS _ hX) (fun hHeld => ?_)
    refine wpAnyH_take (i := 0) (v := ?_) rfl (by kernel_rfl) (by kernel_rfl) (by kernel_rfl) (fun _ _ _ h => h) (Or.inl ⟨by kernel_rfl, ?_⟩) (by assumption) ?_
    rotate_left
    · (intro w hSw; (try dsimp only at hSw); go_simp; try with_reducible rfl)
    try simp only [put_pack]
    refine wpAnyH_take (i := 1) (v := ?_) rfl (by kernel_rfl) (by kernel_rfl) (by kernel_rfl) (fun _ _ _ h => h) (Or.inl ⟨by kernel_rfl, ?_⟩) (by assumption) ?_
    rotate_left
    · (intro w hSw; (try dsimp only at hSw); go_simp; try with_reducible rfl)
    try simp only [put_pack]
    refine wpAnyH_take (i := 2) (v := ?_) rfl (by kernel_rfl) (by kernel_rfl) (by kernel_rfl) (fun _ _ _ h => h) (Or.inl ⟨by kernel_rfl, ?_⟩) (by assumption) ?_
    rotate_left
    · (intro w hSw; (try dsimp only at hSw); go_simp; try with_reducible rfl)
    try simp only [put_pack]
    refine wpAnyH_ready (rs := [3]) (by kernel_rfl) (by simp) ?_
    refine AllReadyH.cons rfl (fun K hKK => ?_) AllReadyH.nil
    go_simp
    refine (hC _).mono ?_
    rintro e w2 ⟨rfl, hx⟩
    replace hX := hX.trans hx
    clear hx
    refine hKK.out _ _ (hS _ hX) (fun hHeld => ?_)
    clear hKK K
    try dsimp only
    refine wpAnyH_ready (rs := [4]) (by kernel_rfl) (by simp) ?_
    refine AllReadyH.cons rfl (fun K hKK => ?_) AllReadyH.nil
    go_simp
    refine (hW1 _).mono ?_
    rintro e w' ⟨rfl, rfl⟩
    refine hKK.out _ _ (hS _ hX) (fun hHeld => ?_)
    clear hKK K
    try dsimp only
    refine wpAnyH_take (i := 5) (v := ?_) rfl (by kernel_rfl) (by kernel_rfl) (by kernel_rfl) (fun _ _ _ h => h) (Or.inl ⟨by kernel_rfl, ?_⟩) (by assumption) ?_
    rotate_left
    · (intro w hSw; (try dsimp only at hSw); go_simp; try with_reducible rfl)
    try simp only [put_pack]
    refine wpAnyH_take (i := 6) (v := undef) rfl (by kernel_rfl) (by kernel_rfl) (by kernel_rfl) (fun _ _ _ h => h) (Or.inr ⟨by kernel_rfl, rfl⟩) (by assumption) ?_
    try simp only [put_pack]
    refine wpAnyH_take (i := 7) (v := undef) rfl (by kernel_rfl) (by kernel_rfl) (by kernel_rfl) (fun _ _ _ h => h) (Or.inr ⟨by kernel_rfl, rfl⟩) (by assumption) ?_
    try simp only [put_pack]
    refine wpAnyH_take (i := 8) (v := undef) rfl (by kernel_rfl) (by kernel_rfl) (by kernel_rfl) (fun _ _ _ h => h) (Or.inr ⟨by kernel_rfl, rfl⟩) (by assumption) ?_
    try simp only [put_pack]
    refine wpAnyH_take (i := 9) (v := undef) rfl (by kernel_rfl) (by kernel_rfl) (by kernel_rfl) (fun _ _ _ h => h) (Or.inr ⟨by kernel_rfl, rfl⟩) (by assumption) ?_
    try simp only [put_pack]
    refine wpAnyH_take (i := 10) (v := undef) rfl (by kernel_rfl) (by kernel_rfl) (by kernel_rfl) (fun _ _ _ h => h) (Or.inr ⟨by kernel_rfl, rfl⟩) (by assumption) ?_
    try simp only [put_pack]
    refine wpAnyH_take (i := 11) (v := ?_) rfl (by kernel_rfl) (by kernel_rfl) (by kernel_rfl) (fun _ _ _ h => h) (Or.inl ⟨by kernel_rfl, ?_⟩) (by assumption) ?_
    rotate_left
    · (intro w hSw; (try dsimp only at hSw); go_simp; try with_reducible rfl)
    try simp only [put_pack]
    refine wpAnyH_take (i := 12) (v := ?_) rfl (by kernel_rfl) (by kernel_rfl) (by kernel_rfl) (fun _ _ _ h => h) (Or.inl ⟨by kernel_rfl, ?_⟩) (by assumption) ?_
    rotate_left
    · (intro w hSw; (try dsimp only at hSw); go_simp; try with_reducible rfl)
    try simp only [put_pack]
    refine wpAnyH_done (by kernel_rfl) ?_ _
    go_simp
    go_wp2_with fail
    go_ret
    refine ⟨?_, hXW.trans hX⟩
    rfl
set_option maxRecDepth 100000 in
set_option maxHeartbeats 2000000 in
theorem pfine6_p (base loc n wr top C D : Int) (w : World) (hb : 0 ≤ base) (hl : 0 ≤ loc) (hn : 1 ≤ n ∧ n ≤ 8) (hw : 0 ≤ wr ∧ wr < n) (ht : 1 ≤ top ∧ top ≤ 255) (hz : 0 ≤ C ∧ C ≤ 6272 ∧ 0 ≤ D ∧ D ≤ 7072)
    (hC : ∀ w, Calls Try.prog 45 #[.agg #[.int .i64 6, .int .i64 base, .int .i64 loc, .int .i64 n, .int .i64 wr, .int .i64 (-1), .int .i64 top]] w fun e w' => e = .returned (.int .i64 C) ∧ Ext w w')
    (hL : ∀ w, Calls Try.prog 46 #[.agg #[.int .i64 6, .int .i64 base, .int .i64 loc, .int .i64 n, .int .i64 wr, .int .i64 (-1), .int .i64 top]] w fun e w' => e = .returned (.int .i64 D) ∧ Ext w w') :
    Calls Try.prog 87 #[.agg #[.int .i64 6, .int .i64 base, .int .i64 loc, .int .i64 n, .int .i64 wr, .int .i64 (-1), .int .i64 top]] w fun e w' => e = .returned (.bool (decide (base ≤ 32768) && decide (loc ≤ 32768) && decide (base + C ≤ 32768) && decide (loc + D ≤ 32768))) ∧ Ext w w' := by
  have d3 : decide (n < 1) = false := by simpa using hn.1
  have d4 : decide (8 < n) = false := by simpa using hn.2
  have d5 : decide (top < 1) = false := by simpa using ht.1
  have d6 : decide (1048576 < top) = false := by rw [decide_eq_false_iff_not]; omega
  have d7 : decide (wr < -1) = false := by rw [decide_eq_false_iff_not]; omega
  have d8 : decide (n ≤ wr) = false := by rw [decide_eq_false_iff_not]; omega
  have d9 : decide (n ≤ -1) = false := by rw [decide_eq_false_iff_not]; omega
  have dn : (wr == -1) = false := by rw [beq_eq_false_iff_ne]; omega
  have hX := Ext.refl w
  have b1 := Blk.new w (.cells #[.int .i64 6, .int .i64 base, .int .i64 loc, .int .i64 n, .int .i64 wr, .int .i64 (-1), .int .i64 top] 56)
  replace hX := hX.alloc (.cells #[.int .i64 6, .int .i64 base, .int .i64 loc, .int .i64 n, .int .i64 wr, .int .i64 (-1), .int .i64 top] 56)
  have c_b1 := b1.cells
  have hW1 := fun w => within_p base C w ⟨hb, by omega⟩
  have hW2 := fun w => within_p loc D w ⟨hl, by omega⟩
  have he : (decide (base ≤ 32768) && decide (loc ≤ 32768) && decide (base + C ≤ 32768) && decide (loc + D ≤ 32768)) = ((decide (base ≤ 32768) && decide (base + C ≤ 32768)) && (decide (loc ≤ 32768) && decide (loc + D ≤ 32768))) := by
    cases decide (base ≤ 32768) <;> cases decide (loc ≤ 32768) <;> simp
  rw [he]
  clear he
  generalize (decide (base ≤ 32768) && decide (base + C ≤ 32768)) = F1 at *
  generalize (decide (loc ≤ 32768) && decide (loc + D ≤ 32768)) = F2 at *
  clear hz hb hl hn hw ht
  go_enter Try.func87, Try.ntmps87
  go_wp2_with fail
  generalize w.alloc (.cells #[.int .i64 6, .int .i64 base, .int .i64 loc, .int .i64 n, .int .i64 wr, .int .i64 (-1), .int .i64 top] 56) = W0 at *
  have hE := hX.drew
  replace b1 := b1.drew
  clear hX c_b1
  have hX := hE
  have c_b1 := b1.cells
  go_region_held2 (fun w' => ∀ i, w'.cell? ⟨w.heap.size, i, none⟩ = (#[.int .i64 6, .int .i64 base, .int .i64 loc, .int .i64 n, .int .i64 wr, .int .i64 (-1), .int .i64 top] : Array Value)[i]?) (exact c_b1)
    (first
      | (go_at_call 145
         refine (greatest6_p _).mono ?_
         rintro e w' ⟨rfl, rfl⟩))
  rename_i hh
  clear hh hE
  generalize W0.drew = W at *
  go_wp2_with fail
  have hS : ∀ w', Ext W w' → (∀ i, w'.cell? ⟨w.heap.size, i, none⟩ = (#[.int .i64 6, .int .i64 base, .int .i64 loc, .int .i64 n, .int .i64 wr, .int .i64 (-1), .int .i64 top] : Array Value)[i]?) := fun w' hx => (b1.ext hx).cells
  have hXW := hX
  clear hX c_b1
  have hX := (Ext.refl W).drew
  cases F1 with
  | true =>
    go_region_held2 (fun w' => ∀ i, w'.cell? ⟨w.heap.size, i, none⟩ = (#[.int .i64 6, .int .i64 base, .int .i64 loc, .int .i64 n, .int .i64 wr, .int .i64 (-1), .int .i64 top] : Array Value)[i]?) (exact hS _ hX)
      (first
          | (go_at_call 45
             refine (hC _).mono ?_
             rintro e w2 ⟨rfl, hx⟩
             replace hX := hX.trans hx
             clear hx)
          | (go_at_call 46
             refine (hL _).mono ?_
             rintro e w2 ⟨rfl, hx⟩
             replace hX := hX.trans hx
             clear hx)
          | (go_at_call_of 146 (Value.int IntKind.i64 base)
             refine (hW1 _).mono ?_
             rintro e w' ⟨rfl, rfl⟩)
          | (go_at_call_of 146 (Value.int IntKind.i64 loc)
             refine (hW2 _).mono ?_
             rintro e w' ⟨rfl, rfl⟩))
    go_wp2_with fail
    go_ret
    exact ⟨rfl, hXW.trans hX⟩
  | false =>
    refine wp_region_held_drew (S := (fun w' => ∀ i, w'.cell? ⟨w.heap.size, i, none⟩ = (#[.int .i64 6, .int .i64 base, .int .i64 loc, .int .i64 n, .int .i64 wr, .int .i64 (-1), .int .i64 top] : Array Value)[i]?)) rfl (hS _ hX) (fun hHeld => ?_)
    refine wpAnyH_take (i := 0) (v := ?_) rfl (by kernel_rfl) (by kernel_rfl) (by kernel_rfl) (fun _ _ _ h => h) (Or.inl ⟨by kernel_rfl, ?_⟩) (by assumption) ?_
    rotate_left
    · (intro w hSw; (try dsimp only at hSw); go_simp; try with_reducible rfl)
    try simp only [put_pack]
    refine wpAnyH_take (i := 1) (v := ?_) rfl (by kernel_rfl) (by kernel_rfl) (by kernel_rfl) (fun _ _ _ h => h) (Or.inl ⟨by kernel_rfl, ?_⟩) (by assumption) ?_
    rotate_left
    · (intro w hSw; (try dsimp only at hSw); go_simp; try with_reducible rfl)
    try simp only [put_pack]
    refine wpAnyH_take (i := 2) (v := ?_) rfl (by kernel_rfl) (by kernel_rfl) (by kernel_rfl) (fun _ _ _ h => h) (Or.inl ⟨by kernel_rfl, ?_⟩) (by assumption) ?_
    rotate_left
    · (intro w hSw; (try dsimp only at hSw); go_simp; try with_reducible rfl)
    try simp only [put_pack]
    refine wpAnyH_ready (rs := [3]) (by kernel_rfl) (by simp) ?_
    refine AllReadyH.cons rfl (fun K hKK => ?_) AllReadyH.nil
    go_simp
    refine (hC _).mono ?_
    rintro e w2 ⟨rfl, hx⟩
    replace hX := hX.trans hx
    clear hx
    refine hKK.out _ _ (hS _ hX) (fun hHeld => ?_)
    clear hKK K
    try dsimp only
    refine wpAnyH_ready (rs := [4]) (by kernel_rfl) (by simp) ?_
    refine AllReadyH.cons rfl (fun K hKK => ?_) AllReadyH.nil
    go_simp
    refine (hW1 _).mono ?_
    rintro e w' ⟨rfl, rfl⟩
    refine hKK.out _ _ (hS _ hX) (fun hHeld => ?_)
    clear hKK K
    try dsimp only
    refine wpAnyH_take (i := 5) (v := ?_) rfl (by kernel_rfl) (by kernel_rfl) (by kernel_rfl) (fun _ _ _ h => h) (Or.inl ⟨by kernel_rfl, ?_⟩) (by assumption) ?_
    rotate_left
    · (intro w hSw; (try dsimp only at hSw); go_simp; try with_reducible rfl)
    try simp only [put_pack]
    refine wpAnyH_take (i := 6) (v := undef) rfl (by kernel_rfl) (by kernel_rfl) (by kernel_rfl) (fun _ _ _ h => h) (Or.inr ⟨by kernel_rfl, rfl⟩) (by assumption) ?_
    try simp only [put_pack]
    refine wpAnyH_take (i := 7) (v := undef) rfl (by kernel_rfl) (by kernel_rfl) (by kernel_rfl) (fun _ _ _ h => h) (Or.inr ⟨by kernel_rfl, rfl⟩) (by assumption) ?_
    try simp only [put_pack]
    refine wpAnyH_take (i := 8) (v := undef) rfl (by kernel_rfl) (by kernel_rfl) (by kernel_rfl) (fun _ _ _ h => h) (Or.inr ⟨by kernel_rfl, rfl⟩) (by assumption) ?_
    try simp only [put_pack]
    refine wpAnyH_take (i := 9) (v := undef) rfl (by kernel_rfl) (by kernel_rfl) (by kernel_rfl) (fun _ _ _ h => h) (Or.inr ⟨by kernel_rfl, rfl⟩) (by assumption) ?_
    try simp only [put_pack]
    refine wpAnyH_take (i := 10) (v := undef) rfl (by kernel_rfl) (by kernel_rfl) (by kernel_rfl) (fun _ _ _ h => h) (Or.inr ⟨by kernel_rfl, rfl⟩) (by assumption) ?_
    try simp only [put_pack]
    refine wpAnyH_take (i := 11) (v := ?_) rfl (by kernel_rfl) (by kernel_rfl) (by kernel_rfl) (fun _ _ _ h => h) (Or.inl ⟨by kernel_rfl, ?_⟩) (by assumption) ?_
    rotate_left
    · (intro w hSw; (try dsimp only at hSw); go_simp; try with_reducible rfl)
    try simp only [put_pack]
    refine wpAnyH_take (i := 12) (v := ?_) rfl (by kernel_rfl) (by kernel_rfl) (by kernel_rfl) (fun _ _ _ h => h) (Or.inl ⟨by kernel_rfl, ?_⟩) (by assumption) ?_
    rotate_left
    · (intro w hSw; (try dsimp only at hSw); go_simp; try with_reducible rfl)
    try simp only [put_pack]
    refine wpAnyH_done (by kernel_rfl) ?_ _
    go_simp
    go_wp2_with fail
    go_ret
    refine ⟨?_, hXW.trans hX⟩
    rfl
set_option maxRecDepth 100000 in
set_option maxHeartbeats 2000000 in
theorem pfine7_p (base loc n wr top C D : Int) (w : World) (hb : 0 ≤ base) (hl : 0 ≤ loc) (hn : 1 ≤ n ∧ n ≤ 8) (hw : -1 ≤ wr ∧ wr < n) (ht : 1 ≤ top ∧ top ≤ 255) (hz : 0 ≤ C ∧ C ≤ 6272 ∧ 0 ≤ D ∧ D ≤ 7072)
    (hC : ∀ w, Calls Try.prog 45 #[.agg #[.int .i64 7, .int .i64 base, .int .i64 loc, .int .i64 n, .int .i64 wr, .int .i64 (-1), .int .i64 top]] w fun e w' => e = .returned (.int .i64 C) ∧ Ext w w')
    (hL : ∀ w, Calls Try.prog 46 #[.agg #[.int .i64 7, .int .i64 base, .int .i64 loc, .int .i64 n, .int .i64 wr, .int .i64 (-1), .int .i64 top]] w fun e w' => e = .returned (.int .i64 D) ∧ Ext w w') :
    Calls Try.prog 87 #[.agg #[.int .i64 7, .int .i64 base, .int .i64 loc, .int .i64 n, .int .i64 wr, .int .i64 (-1), .int .i64 top]] w fun e w' => e = .returned (.bool (decide (base ≤ 32768) && decide (loc ≤ 32768) && decide (base + C ≤ 32768) && decide (loc + D ≤ 32768))) ∧ Ext w w' := by
  have d3 : decide (n < 1) = false := by simpa using hn.1
  have d4 : decide (8 < n) = false := by simpa using hn.2
  have d5 : decide (top < 1) = false := by simpa using ht.1
  have d6 : decide (255 < top) = false := by rw [decide_eq_false_iff_not]; omega
  have d7 : decide (wr < -1) = false := by rw [decide_eq_false_iff_not]; omega
  have d8 : decide (n ≤ wr) = false := by rw [decide_eq_false_iff_not]; omega
  have d9 : decide (n ≤ -1) = false := by rw [decide_eq_false_iff_not]; omega
  have hX := Ext.refl w
  have b1 := Blk.new w (.cells #[.int .i64 7, .int .i64 base, .int .i64 loc, .int .i64 n, .int .i64 wr, .int .i64 (-1), .int .i64 top] 56)
  replace hX := hX.alloc (.cells #[.int .i64 7, .int .i64 base, .int .i64 loc, .int .i64 n, .int .i64 wr, .int .i64 (-1), .int .i64 top] 56)
  have c_b1 := b1.cells
  have hW1 := fun w => within_p base C w ⟨hb, by omega⟩
  have hW2 := fun w => within_p loc D w ⟨hl, by omega⟩
  have he : (decide (base ≤ 32768) && decide (loc ≤ 32768) && decide (base + C ≤ 32768) && decide (loc + D ≤ 32768)) = ((decide (base ≤ 32768) && decide (base + C ≤ 32768)) && (decide (loc ≤ 32768) && decide (loc + D ≤ 32768))) := by
    cases decide (base ≤ 32768) <;> cases decide (loc ≤ 32768) <;> simp
  rw [he]
  clear he
  generalize (decide (base ≤ 32768) && decide (base + C ≤ 32768)) = F1 at *
  generalize (decide (loc ≤ 32768) && decide (loc + D ≤ 32768)) = F2 at *
  clear hz hb hl hn hw ht
  go_enter Try.func87, Try.ntmps87
  go_wp2_with fail
  generalize w.alloc (.cells #[.int .i64 7, .int .i64 base, .int .i64 loc, .int .i64 n, .int .i64 wr, .int .i64 (-1), .int .i64 top] 56) = W0 at *
  have hE := hX.drew
  replace b1 := b1.drew
  clear hX c_b1
  have hX := hE
  have c_b1 := b1.cells
  go_region_held2 (fun w' => ∀ i, w'.cell? ⟨w.heap.size, i, none⟩ = (#[.int .i64 7, .int .i64 base, .int .i64 loc, .int .i64 n, .int .i64 wr, .int .i64 (-1), .int .i64 top] : Array Value)[i]?) (exact c_b1)
    (first
      | (go_at_call 145
         refine (greatest7_p _).mono ?_
         rintro e w' ⟨rfl, rfl⟩))
  rename_i hh
  clear hh hE
  generalize W0.drew = W at *
  go_wp2_with fail
  have hS : ∀ w', Ext W w' → (∀ i, w'.cell? ⟨w.heap.size, i, none⟩ = (#[.int .i64 7, .int .i64 base, .int .i64 loc, .int .i64 n, .int .i64 wr, .int .i64 (-1), .int .i64 top] : Array Value)[i]?) := fun w' hx => (b1.ext hx).cells
  have hXW := hX
  clear hX c_b1
  have hX := (Ext.refl W).drew
  cases F1 with
  | true =>
    go_region_held2 (fun w' => ∀ i, w'.cell? ⟨w.heap.size, i, none⟩ = (#[.int .i64 7, .int .i64 base, .int .i64 loc, .int .i64 n, .int .i64 wr, .int .i64 (-1), .int .i64 top] : Array Value)[i]?) (exact hS _ hX)
      (first
          | (go_at_call 45
             refine (hC _).mono ?_
             rintro e w2 ⟨rfl, hx⟩
             replace hX := hX.trans hx
             clear hx)
          | (go_at_call 46
             refine (hL _).mono ?_
             rintro e w2 ⟨rfl, hx⟩
             replace hX := hX.trans hx
             clear hx)
          | (go_at_call_of 146 (Value.int IntKind.i64 base)
             refine (hW1 _).mono ?_
             rintro e w' ⟨rfl, rfl⟩)
          | (go_at_call_of 146 (Value.int IntKind.i64 loc)
             refine (hW2 _).mono ?_
             rintro e w' ⟨rfl, rfl⟩))
    go_wp2_with fail
    go_ret
    exact ⟨rfl, hXW.trans hX⟩
  | false =>
    refine wp_region_held_drew (S := (fun w' => ∀ i, w'.cell? ⟨w.heap.size, i, none⟩ = (#[.int .i64 7, .int .i64 base, .int .i64 loc, .int .i64 n, .int .i64 wr, .int .i64 (-1), .int .i64 top] : Array Value)[i]?)) rfl (hS _ hX) (fun hHeld => ?_)
    refine wpAnyH_take (i := 0) (v := ?_) rfl (by kernel_rfl) (by kernel_rfl) (by kernel_rfl) (fun _ _ _ h => h) (Or.inl ⟨by kernel_rfl, ?_⟩) (by assumption) ?_
    rotate_left
    · (intro w hSw; (try dsimp only at hSw); go_simp; try with_reducible rfl)
    try simp only [put_pack]
    refine wpAnyH_take (i := 1) (v := ?_) rfl (by kernel_rfl) (by kernel_rfl) (by kernel_rfl) (fun _ _ _ h => h) (Or.inl ⟨by kernel_rfl, ?_⟩) (by assumption) ?_
    rotate_left
    · (intro w hSw; (try dsimp only at hSw); go_simp; try with_reducible rfl)
    try simp only [put_pack]
    refine wpAnyH_take (i := 2) (v := ?_) rfl (by kernel_rfl) (by kernel_rfl) (by kernel_rfl) (fun _ _ _ h => h) (Or.inl ⟨by kernel_rfl, ?_⟩) (by assumption) ?_
    rotate_left
    · (intro w hSw; (try dsimp only at hSw); go_simp; try with_reducible rfl)
    try simp only [put_pack]
    refine wpAnyH_ready (rs := [3]) (by kernel_rfl) (by simp) ?_
    refine AllReadyH.cons rfl (fun K hKK => ?_) AllReadyH.nil
    go_simp
    refine (hC _).mono ?_
    rintro e w2 ⟨rfl, hx⟩
    replace hX := hX.trans hx
    clear hx
    refine hKK.out _ _ (hS _ hX) (fun hHeld => ?_)
    clear hKK K
    try dsimp only
    refine wpAnyH_ready (rs := [4]) (by kernel_rfl) (by simp) ?_
    refine AllReadyH.cons rfl (fun K hKK => ?_) AllReadyH.nil
    go_simp
    refine (hW1 _).mono ?_
    rintro e w' ⟨rfl, rfl⟩
    refine hKK.out _ _ (hS _ hX) (fun hHeld => ?_)
    clear hKK K
    try dsimp only
    refine wpAnyH_take (i := 5) (v := ?_) rfl (by kernel_rfl) (by kernel_rfl) (by kernel_rfl) (fun _ _ _ h => h) (Or.inl ⟨by kernel_rfl, ?_⟩) (by assumption) ?_
    rotate_left
    · (intro w hSw; (try dsimp only at hSw); go_simp; try with_reducible rfl)
    try simp only [put_pack]
    refine wpAnyH_take (i := 6) (v := undef) rfl (by kernel_rfl) (by kernel_rfl) (by kernel_rfl) (fun _ _ _ h => h) (Or.inr ⟨by kernel_rfl, rfl⟩) (by assumption) ?_
    try simp only [put_pack]
    refine wpAnyH_take (i := 7) (v := undef) rfl (by kernel_rfl) (by kernel_rfl) (by kernel_rfl) (fun _ _ _ h => h) (Or.inr ⟨by kernel_rfl, rfl⟩) (by assumption) ?_
    try simp only [put_pack]
    refine wpAnyH_take (i := 8) (v := undef) rfl (by kernel_rfl) (by kernel_rfl) (by kernel_rfl) (fun _ _ _ h => h) (Or.inr ⟨by kernel_rfl, rfl⟩) (by assumption) ?_
    try simp only [put_pack]
    refine wpAnyH_take (i := 9) (v := undef) rfl (by kernel_rfl) (by kernel_rfl) (by kernel_rfl) (fun _ _ _ h => h) (Or.inr ⟨by kernel_rfl, rfl⟩) (by assumption) ?_
    try simp only [put_pack]
    refine wpAnyH_take (i := 10) (v := undef) rfl (by kernel_rfl) (by kernel_rfl) (by kernel_rfl) (fun _ _ _ h => h) (Or.inr ⟨by kernel_rfl, rfl⟩) (by assumption) ?_
    try simp only [put_pack]
    refine wpAnyH_take (i := 11) (v := ?_) rfl (by kernel_rfl) (by kernel_rfl) (by kernel_rfl) (fun _ _ _ h => h) (Or.inl ⟨by kernel_rfl, ?_⟩) (by assumption) ?_
    rotate_left
    · (intro w hSw; (try dsimp only at hSw); go_simp; try with_reducible rfl)
    try simp only [put_pack]
    refine wpAnyH_take (i := 12) (v := ?_) rfl (by kernel_rfl) (by kernel_rfl) (by kernel_rfl) (fun _ _ _ h => h) (Or.inl ⟨by kernel_rfl, ?_⟩) (by assumption) ?_
    rotate_left
    · (intro w hSw; (try dsimp only at hSw); go_simp; try with_reducible rfl)
    try simp only [put_pack]
    refine wpAnyH_done (by kernel_rfl) ?_ _
    go_simp
    go_wp2_with fail
    go_ret
    refine ⟨?_, hXW.trans hX⟩
    rfl
theorem fine_p (r : Reg) (w : World) (h : Drawn r) (hC : ∀ w, Calls Try.prog 45 #[encR r] w fun e w' => e = .returned (.int .i64 (cellsM r)) ∧ Ext w w') : Calls Try.prog 87 #[encR r] w fun e w' => e = .returned (.bool (fineM r)) ∧ Ext w w' := by
  obtain ⟨hk, hb, hl, hn, hw, hw6, hrd, ht⟩ := h
  have hL := fun w => locals_p r w hk hn
  have hz := cells_nat r hn
  obtain ⟨kind, base, loc, n, wr, rd, top⟩ := r
  simp only at hk hb hl hn hw hw6 hrd ht
  subst hrd
  unfold fineM
  rcases hk with rfl | rfl | rfl
  · exact pfine1_p base loc n wr top _ _ w hb hl hn hw ht hz hC hL
  · exact pfine6_p base loc n wr top _ _ w hb hl hn ⟨hw6 rfl, hw.2⟩ ht hz hC hL
  · exact pfine7_p base loc n wr top _ _ w hb hl hn hw ht hz hC hL
end Go.Proofs.Ytbphlkaihfbgeaa
/-
  Plans of the program: laying registers.
-/
namespace Go.Proofs.Ytbphlkaihfbgeaa
open Go.RowKit Kv
@[go_sem] theorem build_regw (a b c d e : Int) (w : World) : (Instr.build 56 #[(0, .int .i64 a), (3, .int .i64 b), (4, .int .i64 c), (5, .int .i64 d), (6, .int .i64 e)]).run Try.prog w = .ok (.agg #[.int .i64 a, .int .i64 0, .int .i64 0, .int .i64 b, .int .i64 c, .int .i64 d, .int .i64 e]) w := run_build w 56 _ _ (by kernel_rfl)
theorem topM_max (t : Int) : max 1 (min t 255) = topM t := by
  unfold topM clamp within
  split <;> omega
theorem want_p (q : Want) (n mode : Int) (w : World) (hm : mode = 1 ∨ mode = 2) (hq : -1 ≤ q.wr) : Calls Try.prog 185 #[.agg #[.int .i64 q.wr, .int .i64 q.top], .int .i64 n, .int .i64 mode] w fun e w' => e = .returned (encR (regOf n mode 0 0 q)) ∧ Ext w w' := by
  obtain ⟨wr, top⟩ := q
  unfold encR regOf
  simp only at hq ⊢
  have ht := topM_max top
  rcases hm with rfl | rfl
  · rw [show kindM 1 wr = 1 from by unfold kindM; rw [if_neg (by omega)]]
    clear hq
    go_enter Try.func185, Try.ntmps185
    go_wp2_with fail
    refine bodyPost_ret (v := .agg #[.int .i64 1, .int .i64 0, .int .i64 0, .int .i64 n, .int .i64 wr, .int .i64 (-1), .int .i64 (topM top)]) (by simp [results, Try.results185, go_sem]) rfl ⟨rfl, ?_⟩
    exact (((Ext.refl _).alloc _).alloc _).alloc _
  · by_cases h : wr = -1
    · rw [show kindM 2 wr = 7 from by unfold kindM; rw [if_pos rfl, if_neg (by omega)]]
      have d : (wr == -1) = true := by rw [beq_iff_eq]; exact h
      clear hq h
      go_enter Try.func185, Try.ntmps185
      go_wp2_with fail
      refine bodyPost_ret (v := .agg #[.int .i64 7, .int .i64 0, .int .i64 0, .int .i64 n, .int .i64 wr, .int .i64 (-1), .int .i64 (topM top)]) (by simp [results, Try.results185, go_sem]) rfl ⟨rfl, ?_⟩
      exact (((Ext.refl _).alloc _).alloc _).alloc _
    · rw [show kindM 2 wr = 6 from by unfold kindM; rw [if_pos rfl, if_pos (by omega)]]
      have d : (wr == -1) = false := by rw [beq_eq_false_iff_ne]; exact h
      clear hq h
      go_enter Try.func185, Try.ntmps185
      go_wp2_with fail
      refine bodyPost_ret (v := .agg #[.int .i64 6, .int .i64 0, .int .i64 0, .int .i64 n, .int .i64 wr, .int .i64 (-1), .int .i64 (topM top)]) (by simp [results, Try.results185, go_sem]) rfl ⟨rfl, ?_⟩
      exact (((Ext.refl _).alloc _).alloc _).alloc _
set_option maxRecDepth 100000 in
set_option maxHeartbeats 2000000 in
theorem lay_p (va : Value) (l : List Want) (n mode base loc : Int) (w : World) (h : WantsAt w va l) (hlen : l.length ≤ 1000) (hC : ∀ (r : Reg) w, Drawn r → r.n = n → Calls Try.prog 45 #[encR r] w fun e w' => e = .returned (.int .i64 (cellsM r)) ∧ Ext w w') :
    Calls Try.prog 132 #[va, .int .i64 n, .int .i64 mode, .int .i64 base, .int .i64 loc] w (LayPost w.heap.size w (layM l n mode base loc)) := by
  obtain ⟨A, c, rfl, q1, q2, hv⟩ := h
  by_cases h0 : 1 ≤ mode ∧ mode ≤ 2 ∧ 1 ≤ n ∧ n ≤ 8 ∧ 0 ≤ base ∧ 0 ≤ loc
  · have hmd : mode = 1 ∨ mode = 2 := by omega
    rcases hmd with rfl | rfl
    · have hgood := Lib.hid (fun hq => argsM_good (l := l) h0 hq)
      have hbad := Lib.hid (fun (i : Nat) q hq hx => argsM_bad (l := l) (n := n) (mode := 1) (b := base) (c := loc) (i := i) (q := q) hq hx)
      obtain ⟨-, -, n1, n2, b1, l1⟩ := h0
      have d3 : decide (n < 1) = false := by rw [decide_eq_false_iff_not]; omega
      have d4 : decide (8 < n) = false := by rw [decide_eq_false_iff_not]; omega
      have d5 : decide (base < 0) = false := by rw [decide_eq_false_iff_not]; omega
      have d6 : decide (loc < 0) = false := by rw [decide_eq_false_iff_not]; omega
      go_enter Try.func132, Try.ntmps132
      go_wp2_with fail
      go_loopw [40] (fun i wr => ∃ j : Nat, i = .int .i64 j ∧ j ≤ l.length ∧ Hid (∀ (k : Nat) q, k < j → l[k]? = some q → -1 ≤ q.wr ∧ q.wr < n) ∧ Ext w wr) (fun i _ => l.length - (intOf i).toNat)
      case atStart => exact ⟨0, rfl, by omega, fun k q hk => by omega, Ext.refl _⟩
      case round =>
        obtain ⟨j, rfl, hj, hs, hE⟩ := hrel
        by_cases hl : j < l.length
        · obtain ⟨q, hq⟩ : ∃ q, l[j]? = some q := ⟨_, List.getElem?_eq_getElem hl⟩
          obtain ⟨b, rfl, hb, e1, e2⟩ := want_at (hv.ext hE) hq
          have hE2 := hE.alloc (.cells #[.int .i64 q.wr, .int .i64 q.top] 91)
          by_cases f1 : q.wr < -1
          · have d7 : decide (q.wr < -1) = true := by simpa using f1
            have hf := Lib.hid (hbad.out j q hq (by omega))
            clear hq hgood hbad hs
            go_wp2_with fail
            rw [hf.out]
            refine bodyPost_ret (v := .tuple #[.slice none 0 0, .int .i64 1]) (by simp [results, Try.results132, go_sem]) rfl ?_
            exact ⟨hE2, 1, by decide, rfl⟩
          · have d7 : decide (q.wr < -1) = false := by rw [decide_eq_false_iff_not]; omega
            by_cases f2 : n ≤ q.wr
            · have d8 : decide (n ≤ q.wr) = true := by simpa using f2
              have hf := Lib.hid (hbad.out j q hq (by omega))
              clear hq hgood hbad hs
              go_wp2_with fail
              rw [hf.out]
              refine bodyPost_ret (v := .tuple #[.slice none 0 0, .int .i64 1]) (by simp [results, Try.results132, go_sem]) rfl ?_
              exact ⟨hE2, 1, by decide, rfl⟩
            · have d8 : decide (n ≤ q.wr) = false := by rw [decide_eq_false_iff_not]; omega
              have hs2 : Hid (∀ (k : Nat) q, k < j + 1 → l[k]? = some q → -1 ≤ q.wr ∧ q.wr < n) := Lib.hid fun k q' hk hq' => by
                by_cases e : k = j
                · subst e
                  rw [hq] at hq'
                  obtain rfl : q = q' := by simpa using hq'
                  omega
                · exact hs.out k q' (by omega) hq'
              have hE3 := Lib.hid hE2
              clear hq hs hgood hbad hE2
              go_wp2_with fail
              refine ⟨⟨j + 1, by go_num, by omega, hs2, hE3.out⟩, ?_⟩
              simp [intOf]; omega
        · have hlay := Lib.hid (hgood.out fun k q hq => hs.out k q (by have := (List.getElem?_eq_some_iff.1 hq).1; omega) hq)
          have hwr := Lib.hid (fun (k : Nat) (q : Want) (hq : l[k]? = some q) => hs.out k q (by have := (List.getElem?_eq_some_iff.1 hq).1; omega) hq)
          clear hgood hbad hs
          go_wp2_with fail
          have hE0 := Lib.hid hE
          clear hE
          go_loopw [3, 4, 14, 56] (fun b' c' v i wr => ∃ (j : Nat) (bi ci : Int) (pre : List Reg), b' = .int .i64 bi ∧ c' = .int .i64 ci ∧ i = .int .i64 j ∧ j ≤ l.length ∧ pre.length = j ∧ 0 ≤ bi ∧ 0 ≤ ci ∧ Hid (layFrom n 1 l base loc = (layFrom n 1 (l.drop j) bi ci).map (pre ++ ·)) ∧ wr.ownsRow w.heap.size 56 7 v j (pre.flatMap regVals) ∧ Ext w wr) (fun _ _ _ i _ => l.length - (intOf i).toNat)
          case atStart => exact ⟨0, base, loc, [], rfl, rfl, rfl, by omega, rfl, b1, l1, by unfold Hid; simp, World.ownsRow_nil _ _ _ _, hE0.out⟩
          case round =>
            clear hE0
            obtain ⟨j, bi, ci, pre, rfl, rfl, rfl, hj, hpl, hbi, hci, hM, hown, hE⟩ := hrel
            by_cases hl : j < l.length
            · obtain ⟨q, hq⟩ : ∃ q, l[j]? = some q := ⟨_, List.getElem?_eq_getElem hl⟩
              obtain ⟨b, rfl, hb, e1, e2⟩ := want_at (hv.ext hE) hq
              obtain ⟨w1, w2⟩ := hwr.out j q hq
              have hdr : l.drop j = q :: l.drop (j + 1) := by
                rw [List.drop_eq_getElem_cons hl]
                congr 1
                rw [List.getElem?_eq_getElem hl] at hq
                simpa using hq
              have hMh := Lib.hid hM
              have hownh := Lib.hid hown
              clear hM hown hq
              have hrk : regOf n 1 bi ci q = ⟨kindM 1 q.wr, bi, ci, n, q.wr, -1, topM q.top⟩ := rfl
              have hWW := fun W => want_p q n 1 W (by omega) w1
              have hK : kindM 1 q.wr = 1 ∨ kindM 1 q.wr = 6 ∨ kindM 1 q.wr = 7 := by unfold kindM; split <;> (try split) <;> simp
              have hK6 : kindM 1 q.wr = 6 → 0 ≤ q.wr := by unfold kindM; split <;> (try split) <;> omega
              have htm := topM_bd q.top
              have hdn : Drawn ⟨kindM 1 q.wr, bi, ci, n, q.wr, -1, topM q.top⟩ := ⟨hK, hbi, hci, ⟨n1, n2⟩, ⟨w1, w2⟩, hK6, rfl, htm⟩
              have hlf := Lib.hid (show layFrom n 1 (l.drop j) bi ci = if fineM ⟨kindM 1 q.wr, bi, ci, n, q.wr, -1, topM q.top⟩ then (layFrom n 1 (l.drop (j + 1)) (bi + cellsM ⟨kindM 1 q.wr, bi, ci, n, q.wr, -1, topM q.top⟩) (ci + localsM ⟨kindM 1 q.wr, bi, ci, n, q.wr, -1, topM q.top⟩)).map (⟨kindM 1 q.wr, bi, ci, n, q.wr, -1, topM q.top⟩ :: ·) else none from by rw [hdr, layFrom_cons, hrk])
              have hCC := fun W => hC ⟨kindM 1 q.wr, bi, ci, n, q.wr, -1, topM q.top⟩ W hdn rfl
              have hFF := fun W => fine_p ⟨kindM 1 q.wr, bi, ci, n, q.wr, -1, topM q.top⟩ W hdn hCC
              have hLL := fun W => locals_p ⟨kindM 1 q.wr, bi, ci, n, q.wr, -1, topM q.top⟩ W hK ⟨n1, n2⟩
              have hcn := cells_nat ⟨kindM 1 q.wr, bi, ci, n, q.wr, -1, topM q.top⟩ ⟨n1, n2⟩
              have hfb : fineM ⟨kindM 1 q.wr, bi, ci, n, q.wr, -1, topM q.top⟩ = true → bi ≤ 32768 ∧ ci ≤ 32768 := by
                unfold fineM
                simp only [Bool.and_eq_true, decide_eq_true_eq]
                omega
              clear hdn hrk htm hdr hK hK6
              unfold encR regOf at hWW
              unfold encR at hFF hCC hLL
              simp only at hWW hFF hCC hLL
              generalize kindM 1 q.wr = kk at *
              generalize topM q.top = tp at *
              generalize cellsM _ = C at *
              generalize localsM _ = D at *
              generalize hfm : fineM _ = F at *
              clear hfm
              go_wp2_with fail
              refine (hWW _).mono ?_
              rintro e w3 ⟨rfl, hx⟩
              clear hWW
              have g3 := Blk.new w3 (.cells #[.int .i64 kk, .int .i64 bi, .int .i64 ci, .int .i64 n, .int .i64 q.wr, .int .i64 (-1), .int .i64 tp] 56)
              have x3 : Ext wr (w3.alloc (.cells #[.int .i64 kk, .int .i64 bi, .int .i64 ci, .int .i64 n, .int .i64 q.wr, .int .i64 (-1), .int .i64 tp] 56)) := (((Ext.refl wr).alloc _).trans hx).alloc _
              have hz3 : wr.heap.size < w3.heap.size := by have := hx.size; simp at this; omega
              clear hx
              go_wp2_with fail
              generalize w3.alloc _ = W at *
              have c_3 := g3.cells
              refine (hFF _).mono ?_
              rintro e w4 ⟨rfl, hx⟩
              clear hFF c_3
              replace g3 := g3.ext hx
              replace x3 := x3.trans hx
              clear hx
              have c_3 := g3.cells
              cases F with
              | false =>
                have hres := Lib.hid (show layM l n 1 base loc = none from by rw [hlay.out, hMh.out, hlf.out]; rfl)
                go_wp2_with fail
                rw [hres.out]
                exact bodyPost_ret (v := .tuple #[.slice none 0 0, .int .i64 6]) (by simp [results, Try.results132, go_sem]) rfl ⟨hE.trans x3, 6, by decide, rfl⟩
              | true =>
                obtain ⟨hb1, hb2⟩ := hfb rfl
                have s1 := IntWalk.i64_in (bi + C) (by omega)
                have s2 := IntWalk.i64_in (ci + D) (by omega)
                have hown3 := row_ext hownh.out x3
                have hRn : Hid (u14.ownBlock ≠ some w3.heap.size) := Lib.hid fun e => by have := (hownh.out.lt _ e).2; omega
                have hE3 := hE.trans x3
                have hM2 := Lib.hid (show layFrom n 1 l base loc = (layFrom n 1 (l.drop (j + 1)) (bi + C) (ci + D)).map ((pre ++ [⟨kk, bi, ci, n, q.wr, -1, tp⟩]) ++ ·) from by
                  rw [hMh.out, hlf.out]
                  simp only [if_true, Option.map_map]
                  congr 1
                  funext x
                  simp)
                clear hfb hlf hMh hownh hb1 hb2
                go_wp2_with (at_builtin; refine append_rec info_reg Try.underlying44 rfl (by decide) (by decide) rfl _ _ rfl _ j (pre.flatMap regVals) [.int .i64 kk, .int .i64 bi, .int .i64 ci, .int .i64 n, .int .i64 q.wr, .int .i64 (-1), .int .i64 tp] hE3 hown3 rfl rfl rfl (by simp [Value.oneCell']) (by omega) ?_)
                intro v' w5 ho4 hx4 hbk
                have g4 : Blk w5 w3.heap.size _ := (hbk _ g3.lt hRn.out).trans g3
                have c_4 := g4.cells
                clear hbk hown3 hE3 c_3 hRn g3 x3
                go_wp2_with fail
                refine (hCC _).mono ?_
                rintro e w6 ⟨rfl, hx⟩
                replace g4 := g4.ext hx
                replace ho4 := row_ext ho4 hx
                replace hx4 := hx4.trans hx
                clear c_4 hx hCC
                have c_4 := g4.cells
                go_wp2_with fail
                refine (hLL _).mono ?_
                rintro e w7 ⟨rfl, hx⟩
                replace ho4 := row_ext ho4 hx
                replace hx4 := hx4.trans hx
                clear c_4 g4 hx hLL
                have ho5 := Lib.hid ho4
                clear ho4
                go_wp2_with fail
                refine ⟨⟨j + 1, bi + C, ci + D, pre ++ [⟨kk, bi, ci, n, q.wr, -1, tp⟩], rfl, rfl, by go_num, by omega, by simp [hpl], by omega, by omega, hM2, by rw [List.flatMap_append]; exact ho5.out, hx4⟩, ?_⟩
                simp [intOf]; omega
            · have hf : layFrom n 1 l base loc = some pre := by
                rw [hM.out, List.drop_eq_nil_of_le (by omega)]
                simp [layFrom]
              have hres := Lib.hid (hlay.out.trans hf)
              clear hM hf hlay hwr
              have hownh := Lib.hid hown
              clear hown
              go_wp2_with fail
              rw [hres.out]
              refine bodyPost_ret (v := .tuple #[u14, .int .i64 0]) (by simp [results, Try.results132, go_sem]) rfl ?_
              exact ⟨hE, u14, rfl, by rw [hpl]; exact hownh.out⟩
    · have hgood := Lib.hid (fun hq => argsM_good (l := l) h0 hq)
      have hbad := Lib.hid (fun (i : Nat) q hq hx => argsM_bad (l := l) (n := n) (mode := 2) (b := base) (c := loc) (i := i) (q := q) hq hx)
      obtain ⟨-, -, n1, n2, b1, l1⟩ := h0
      have d3 : decide (n < 1) = false := by rw [decide_eq_false_iff_not]; omega
      have d4 : decide (8 < n) = false := by rw [decide_eq_false_iff_not]; omega
      have d5 : decide (base < 0) = false := by rw [decide_eq_false_iff_not]; omega
      have d6 : decide (loc < 0) = false := by rw [decide_eq_false_iff_not]; omega
      go_enter Try.func132, Try.ntmps132
      go_wp2_with fail
      go_loopw [40] (fun i wr => ∃ j : Nat, i = .int .i64 j ∧ j ≤ l.length ∧ Hid (∀ (k : Nat) q, k < j → l[k]? = some q → -1 ≤ q.wr ∧ q.wr < n) ∧ Ext w wr) (fun i _ => l.length - (intOf i).toNat)
      case atStart => exact ⟨0, rfl, by omega, fun k q hk => by omega, Ext.refl _⟩
      case round =>
        obtain ⟨j, rfl, hj, hs, hE⟩ := hrel
        by_cases hl : j < l.length
        · obtain ⟨q, hq⟩ : ∃ q, l[j]? = some q := ⟨_, List.getElem?_eq_getElem hl⟩
          obtain ⟨b, rfl, hb, e1, e2⟩ := want_at (hv.ext hE) hq
          have hE2 := hE.alloc (.cells #[.int .i64 q.wr, .int .i64 q.top] 91)
          by_cases f1 : q.wr < -1
          · have d7 : decide (q.wr < -1) = true := by simpa using f1
            have hf := Lib.hid (hbad.out j q hq (by omega))
            clear hq hgood hbad hs
            go_wp2_with fail
            rw [hf.out]
            refine bodyPost_ret (v := .tuple #[.slice none 0 0, .int .i64 1]) (by simp [results, Try.results132, go_sem]) rfl ?_
            exact ⟨hE2, 1, by decide, rfl⟩
          · have d7 : decide (q.wr < -1) = false := by rw [decide_eq_false_iff_not]; omega
            by_cases f2 : n ≤ q.wr
            · have d8 : decide (n ≤ q.wr) = true := by simpa using f2
              have hf := Lib.hid (hbad.out j q hq (by omega))
              clear hq hgood hbad hs
              go_wp2_with fail
              rw [hf.out]
              refine bodyPost_ret (v := .tuple #[.slice none 0 0, .int .i64 1]) (by simp [results, Try.results132, go_sem]) rfl ?_
              exact ⟨hE2, 1, by decide, rfl⟩
            · have d8 : decide (n ≤ q.wr) = false := by rw [decide_eq_false_iff_not]; omega
              have hs2 : Hid (∀ (k : Nat) q, k < j + 1 → l[k]? = some q → -1 ≤ q.wr ∧ q.wr < n) := Lib.hid fun k q' hk hq' => by
                by_cases e : k = j
                · subst e
                  rw [hq] at hq'
                  obtain rfl : q = q' := by simpa using hq'
                  omega
                · exact hs.out k q' (by omega) hq'
              have hE3 := Lib.hid hE2
              clear hq hs hgood hbad hE2
              go_wp2_with fail
              refine ⟨⟨j + 1, by go_num, by omega, hs2, hE3.out⟩, ?_⟩
              simp [intOf]; omega
        · have hlay := Lib.hid (hgood.out fun k q hq => hs.out k q (by have := (List.getElem?_eq_some_iff.1 hq).1; omega) hq)
          have hwr := Lib.hid (fun (k : Nat) (q : Want) (hq : l[k]? = some q) => hs.out k q (by have := (List.getElem?_eq_some_iff.1 hq).1; omega) hq)
          clear hgood hbad hs
          go_wp2_with fail
          have hE0 := Lib.hid hE
          clear hE
          go_loopw [3, 4, 14, 56] (fun b' c' v i wr => ∃ (j : Nat) (bi ci : Int) (pre : List Reg), b' = .int .i64 bi ∧ c' = .int .i64 ci ∧ i = .int .i64 j ∧ j ≤ l.length ∧ pre.length = j ∧ 0 ≤ bi ∧ 0 ≤ ci ∧ Hid (layFrom n 2 l base loc = (layFrom n 2 (l.drop j) bi ci).map (pre ++ ·)) ∧ wr.ownsRow w.heap.size 56 7 v j (pre.flatMap regVals) ∧ Ext w wr) (fun _ _ _ i _ => l.length - (intOf i).toNat)
          case atStart => exact ⟨0, base, loc, [], rfl, rfl, rfl, by omega, rfl, b1, l1, by unfold Hid; simp, World.ownsRow_nil _ _ _ _, hE0.out⟩
          case round =>
            clear hE0
            obtain ⟨j, bi, ci, pre, rfl, rfl, rfl, hj, hpl, hbi, hci, hM, hown, hE⟩ := hrel
            by_cases hl : j < l.length
            · obtain ⟨q, hq⟩ : ∃ q, l[j]? = some q := ⟨_, List.getElem?_eq_getElem hl⟩
              obtain ⟨b, rfl, hb, e1, e2⟩ := want_at (hv.ext hE) hq
              obtain ⟨w1, w2⟩ := hwr.out j q hq
              have hdr : l.drop j = q :: l.drop (j + 1) := by
                rw [List.drop_eq_getElem_cons hl]
                congr 1
                rw [List.getElem?_eq_getElem hl] at hq
                simpa using hq
              have hMh := Lib.hid hM
              have hownh := Lib.hid hown
              clear hM hown hq
              have hrk : regOf n 2 bi ci q = ⟨kindM 2 q.wr, bi, ci, n, q.wr, -1, topM q.top⟩ := rfl
              have hWW := fun W => want_p q n 2 W (by omega) w1
              have hK : kindM 2 q.wr = 1 ∨ kindM 2 q.wr = 6 ∨ kindM 2 q.wr = 7 := by unfold kindM; split <;> (try split) <;> simp
              have hK6 : kindM 2 q.wr = 6 → 0 ≤ q.wr := by unfold kindM; split <;> (try split) <;> omega
              have htm := topM_bd q.top
              have hdn : Drawn ⟨kindM 2 q.wr, bi, ci, n, q.wr, -1, topM q.top⟩ := ⟨hK, hbi, hci, ⟨n1, n2⟩, ⟨w1, w2⟩, hK6, rfl, htm⟩
              have hlf := Lib.hid (show layFrom n 2 (l.drop j) bi ci = if fineM ⟨kindM 2 q.wr, bi, ci, n, q.wr, -1, topM q.top⟩ then (layFrom n 2 (l.drop (j + 1)) (bi + cellsM ⟨kindM 2 q.wr, bi, ci, n, q.wr, -1, topM q.top⟩) (ci + localsM ⟨kindM 2 q.wr, bi, ci, n, q.wr, -1, topM q.top⟩)).map (⟨kindM 2 q.wr, bi, ci, n, q.wr, -1, topM q.top⟩ :: ·) else none from by rw [hdr, layFrom_cons, hrk])
              have hCC := fun W => hC ⟨kindM 2 q.wr, bi, ci, n, q.wr, -1, topM q.top⟩ W hdn rfl
              have hFF := fun W => fine_p ⟨kindM 2 q.wr, bi, ci, n, q.wr, -1, topM q.top⟩ W hdn hCC
              have hLL := fun W => locals_p ⟨kindM 2 q.wr, bi, ci, n, q.wr, -1, topM q.top⟩ W hK ⟨n1, n2⟩
              have hcn := cells_nat ⟨kindM 2 q.wr, bi, ci, n, q.wr, -1, topM q.top⟩ ⟨n1, n2⟩
              have hfb : fineM ⟨kindM 2 q.wr, bi, ci, n, q.wr, -1, topM q.top⟩ = true → bi ≤ 32768 ∧ ci ≤ 32768 := by
                unfold fineM
                simp only [Bool.and_eq_true, decide_eq_true_eq]
                omega
              clear hdn hrk htm hdr hK hK6
              unfold encR regOf at hWW
              unfold encR at hFF hCC hLL
              simp only at hWW hFF hCC hLL
              generalize kindM 2 q.wr = kk at *
              generalize topM q.top = tp at *
              generalize cellsM _ = C at *
              generalize localsM _ = D at *
              generalize hfm : fineM _ = F at *
              clear hfm
              go_wp2_with fail
              refine (hWW _).mono ?_
              rintro e w3 ⟨rfl, hx⟩
              clear hWW
              have g3 := Blk.new w3 (.cells #[.int .i64 kk, .int .i64 bi, .int .i64 ci, .int .i64 n, .int .i64 q.wr, .int .i64 (-1), .int .i64 tp] 56)
              have x3 : Ext wr (w3.alloc (.cells #[.int .i64 kk, .int .i64 bi, .int .i64 ci, .int .i64 n, .int .i64 q.wr, .int .i64 (-1), .int .i64 tp] 56)) := (((Ext.refl wr).alloc _).trans hx).alloc _
              have hz3 : wr.heap.size < w3.heap.size := by have := hx.size; simp at this; omega
              clear hx
              go_wp2_with fail
              generalize w3.alloc _ = W at *
              have c_3 := g3.cells
              refine (hFF _).mono ?_
              rintro e w4 ⟨rfl, hx⟩
              clear hFF c_3
              replace g3 := g3.ext hx
              replace x3 := x3.trans hx
              clear hx
              have c_3 := g3.cells
              cases F with
              | false =>
                have hres := Lib.hid (show layM l n 2 base loc = none from by rw [hlay.out, hMh.out, hlf.out]; rfl)
                go_wp2_with fail
                rw [hres.out]
                exact bodyPost_ret (v := .tuple #[.slice none 0 0, .int .i64 6]) (by simp [results, Try.results132, go_sem]) rfl ⟨hE.trans x3, 6, by decide, rfl⟩
              | true =>
                obtain ⟨hb1, hb2⟩ := hfb rfl
                have s1 := IntWalk.i64_in (bi + C) (by omega)
                have s2 := IntWalk.i64_in (ci + D) (by omega)
                have hown3 := row_ext hownh.out x3
                have hRn : Hid (u14.ownBlock ≠ some w3.heap.size) := Lib.hid fun e => by have := (hownh.out.lt _ e).2; omega
                have hE3 := hE.trans x3
                have hM2 := Lib.hid (show layFrom n 2 l base loc = (layFrom n 2 (l.drop (j + 1)) (bi + C) (ci + D)).map ((pre ++ [⟨kk, bi, ci, n, q.wr, -1, tp⟩]) ++ ·) from by
                  rw [hMh.out, hlf.out]
                  simp only [if_true, Option.map_map]
                  congr 1
                  funext x
                  simp)
                clear hfb hlf hMh hownh hb1 hb2
                go_wp2_with (at_builtin; refine append_rec info_reg Try.underlying44 rfl (by decide) (by decide) rfl _ _ rfl _ j (pre.flatMap regVals) [.int .i64 kk, .int .i64 bi, .int .i64 ci, .int .i64 n, .int .i64 q.wr, .int .i64 (-1), .int .i64 tp] hE3 hown3 rfl rfl rfl (by simp [Value.oneCell']) (by omega) ?_)
                intro v' w5 ho4 hx4 hbk
                have g4 : Blk w5 w3.heap.size _ := (hbk _ g3.lt hRn.out).trans g3
                have c_4 := g4.cells
                clear hbk hown3 hE3 c_3 hRn g3 x3
                go_wp2_with fail
                refine (hCC _).mono ?_
                rintro e w6 ⟨rfl, hx⟩
                replace g4 := g4.ext hx
                replace ho4 := row_ext ho4 hx
                replace hx4 := hx4.trans hx
                clear c_4 hx hCC
                have c_4 := g4.cells
                go_wp2_with fail
                refine (hLL _).mono ?_
                rintro e w7 ⟨rfl, hx⟩
                replace ho4 := row_ext ho4 hx
                replace hx4 := hx4.trans hx
                clear c_4 g4 hx hLL
                have ho5 := Lib.hid ho4
                clear ho4
                go_wp2_with fail
                refine ⟨⟨j + 1, bi + C, ci + D, pre ++ [⟨kk, bi, ci, n, q.wr, -1, tp⟩], rfl, rfl, by go_num, by omega, by simp [hpl], by omega, by omega, hM2, by rw [List.flatMap_append]; exact ho5.out, hx4⟩, ?_⟩
                simp [intOf]; omega
            · have hf : layFrom n 2 l base loc = some pre := by
                rw [hM.out, List.drop_eq_nil_of_le (by omega)]
                simp [layFrom]
              have hres := Lib.hid (hlay.out.trans hf)
              clear hM hf hlay hwr
              have hownh := Lib.hid hown
              clear hown
              go_wp2_with fail
              rw [hres.out]
              refine bodyPost_ret (v := .tuple #[u14, .int .i64 0]) (by simp [results, Try.results132, go_sem]) rfl ?_
              exact ⟨hE, u14, rfl, by rw [hpl]; exact hownh.out⟩
  · rw [argsM_false h0]
    go_enter Try.func132, Try.ntmps132
    have hfin : LayPost w.heap.size w none (.returned (.tuple #[.slice none 0 0, .int .i64 1])) w := ⟨Ext.refl _, 1, by decide, rfl⟩
    by_cases m1 : mode = 1 ∨ mode = 2
    · by_cases m3 : n < 1
      · have d3 : decide (n < 1) = true := by simpa using m3
        rcases m1 with rfl | rfl
        all_goals
          go_wp2_with fail
          exact bodyPost_ret (v := .tuple #[.slice none 0 0, .int .i64 1]) (by simp [results, Try.results132, go_sem]) rfl hfin
      · have d3 : decide (n < 1) = false := by simpa using m3
        by_cases m4 : 8 < n
        · have d4 : decide (8 < n) = true := by simpa using m4
          rcases m1 with rfl | rfl
          all_goals
            go_wp2_with fail
            exact bodyPost_ret (v := .tuple #[.slice none 0 0, .int .i64 1]) (by simp [results, Try.results132, go_sem]) rfl hfin
        · have d4 : decide (8 < n) = false := by simpa using m4
          by_cases m5 : base < 0
          · have d5 : decide (base < 0) = true := by simpa using m5
            rcases m1 with rfl | rfl
            all_goals
              go_wp2_with fail
              exact bodyPost_ret (v := .tuple #[.slice none 0 0, .int .i64 1]) (by simp [results, Try.results132, go_sem]) rfl hfin
          · have d5 : decide (base < 0) = false := by simpa using m5
            have d6 : decide (loc < 0) = true := by rw [decide_eq_true_eq]; omega
            rcases m1 with rfl | rfl
            all_goals
              go_wp2_with fail
              exact bodyPost_ret (v := .tuple #[.slice none 0 0, .int .i64 1]) (by simp [results, Try.results132, go_sem]) rfl hfin
    · have d1 : (mode != 1) = true := by rw [bne_iff_ne]; omega
      have d2 : (mode != 2) = true := by rw [bne_iff_ne]; omega
      go_wp2_with fail
      exact bodyPost_ret (v := .tuple #[.slice none 0 0, .int .i64 1]) (by simp [results, Try.results132, go_sem]) rfl hfin
end Go.Proofs.Ytbphlkaihfbgeaa
