/-
  TreePlays holds: whoever acquires or releases a tournament does what the document says, access by access, whatever it is answered.
-/
import Derived.Test.YtpcohbpeglledaaGreatJTreePlaysSaid4
/-
  TreePlays: what it plays.
-/
namespace Kv
/-- Climbing, and going down. -/
def treeC (E D : Nat) (rs : List Reg) (N m : Nat) : Prog Int := (forP (fun x _ => nodeE E D rs m x) (pathL N m) ()).bind fun _ => (forP (fun x _ => nodeL E rs m x) (pathL N m).reverse ()).bind fun _ => .ret 0
end Kv
namespace Go.Proofs.YtpcohbpeglledaaGreat
open Go.RowKit Kv
theorem treeclA (B p N D : Nat) (S : TS) (alg mode base loc room : Int) (m : Nat) (rs : List Reg) (bk bt : Nat) (w : World) (h : Plays B w p S) (h1 : 1 ≤ N) (h2 : N ≤ 8) (hm1 : m < N) (hl : layM (treeWants (eachK alg) N) N mode base loc = some rs)
    (hall : ∀ r ∈ rs, r.ok ∧ (m : Int) < r.n ∧ r.told m) (hD : S.left < D) (hn0 : S.nts.length = 0)
    (c1 : ∀ i, w.cell? ⟨bk, i, none⟩ = (#[.int .i64 alg, .int .i64 N, .int .i64 mode, .int .i64 base, .int .i64 loc, .int .i64 room] : Array Value)[i]?) (c2 : w.cell? ⟨bt, 0, none⟩ = some (.int .i64 m)) :
    Calls Tryz.prog 69 #[.pointer (some ⟨p, 0, none⟩), .pointer (some ⟨bk, 0, none⟩), .pointer (some ⟨bt, 0, none⟩)] w (Post encI B p w ((treeA (eachK alg) D rs N m).run S)) := by
  generalize hR : Post encI B p w ((treeA (eachK alg) D rs N m).run S) = R
  have hO : Owes R encI B p w ((treeA (eachK alg) D rs N m).run S) := hR ▸ owes _ _ _ _ _
  clear hR
  have hK := Keep.refl [2, 3, 4] B p w
  have hlh := Lib.hid hl
  clear hl
  go_enter Tryz.func69, Tryz.ntmps69
  go_wp2_with fail
  clear c1 c2
  refine tlast hO hK (treeacq_p B p N D S alg mode base loc room m rs w h h1 (by omega) hm1 hlh.out hall hD hn0) (fun _ h => ⟨rfl, h⟩) ?_
  intro v S1 w1 hr hP1 hk1 hK1 hO1
  have hf := hO1.done hP1 hK1
  clear hO1 hP1 hK1 hr hk1 hO h hK
  go_wp2_with fail
  first | exact hf | (go_ret; exact hf)
theorem treeclR (B p N : Nat) (S : TS) (alg mode base loc room : Int) (m : Nat) (rs : List Reg) (bk bt : Nat) (w : World) (h : Plays B w p S) (h1 : 1 ≤ N) (h2 : N ≤ 8) (hm1 : m < N) (hl : layM (treeWants (eachK alg) N) N mode base loc = some rs)
    (hall : ∀ r ∈ rs, r.ok ∧ (m : Int) < r.n ∧ r.told m) (hn0 : S.nts.length = 0)
    (c1 : ∀ i, w.cell? ⟨bk, i, none⟩ = (#[.int .i64 alg, .int .i64 N, .int .i64 mode, .int .i64 base, .int .i64 loc, .int .i64 room] : Array Value)[i]?) (c2 : w.cell? ⟨bt, 0, none⟩ = some (.int .i64 m)) :
    Calls Tryz.prog 72 #[.pointer (some ⟨p, 0, none⟩), .pointer (some ⟨bk, 0, none⟩), .pointer (some ⟨bt, 0, none⟩)] w (Post encI B p w (((treeR (eachK alg) rs N m).bind fun _ => .ret 0).run S)) := by
  generalize hR : Post encI B p w (((treeR (eachK alg) rs N m).bind fun _ => .ret 0).run S) = R
  have hO : Owes R encI B p w (((treeR (eachK alg) rs N m).bind fun _ => .ret 0).run S) := hR ▸ owes _ _ _ _ _
  clear hR
  have hK := Keep.refl [2, 3, 4] B p w
  have hlh := Lib.hid hl
  clear hl
  go_enter Tryz.func72, Tryz.ntmps72
  go_wp2_with fail
  clear c1 c2
  refine tstep hO hK (treerel_p B p N S alg mode base loc room m rs w h h1 (by omega) hm1 hlh.out hall hn0) (fun _ h => ⟨rfl, h⟩) ?_
  intro v S1 w1 hr hP1 hk1 hK1 hO1
  have hf := hO1.done (v := (0 : Int)) hP1 hK1
  clear hO1 hP1 hK1 hr hk1 hO h hK
  go_wp2_with fail
  first | exact hf | (go_ret; exact hf)
theorem treeWants_le (kind : Int) {N : Nat} (h : N ≤ 64) : (treeWants (eachK kind) N).length ≤ 1000 := by
  unfold treeWants
  rw [List.length_replicate]
  have := Nat.mul_le_mul (each_le kind).2 (show 2 ^ levels (N : Int) - 1 ≤ 63 by have := (pow_le (lev_le h)).2; omega)
  omega
theorem treeclC (B p N D : Nat) (S : TS) (alg mode base loc room : Int) (m : Nat) (rs : List Reg) (bk bt bl : Nat) (A : Option Addr) (c : Nat) (w : World) (h : Plays B w p S) (h1 : 1 ≤ N) (h2 : N ≤ 8) (hm1 : m < N) (hlen : rs.length = eachK alg * (2 ^ levels N - 1)) (hc1 : rs.length ≤ c) (hc2 : c ≤ 9223372036854775807)
    (hreg : rs ≠ [] → ∃ b, A = some ⟨b, 0, none⟩ ∧ RegsAt [2, 3, 4] w p b rs) (hall : ∀ r ∈ rs, r.ok ∧ (m : Int) < r.n ∧ r.told m) (hD : S.left < D)
    (c1 : ∀ i, w.cell? ⟨bk, i, none⟩ = (#[.int .i64 alg, .int .i64 N, .int .i64 mode, .int .i64 base, .int .i64 loc, .int .i64 room] : Array Value)[i]?) (c2 : w.cell? ⟨bt, 0, none⟩ = some (.int .i64 m)) (c3 : w.cell? ⟨bl, 0, none⟩ = some (.slice A rs.length c)) (b1 : bk < B) (b2 : bt < B) (b3 : bl < B) :
    Calls Tryz.prog 76 #[.pointer (some ⟨p, 0, none⟩), .pointer (some ⟨bl, 0, none⟩), .pointer (some ⟨bk, 0, none⟩), .pointer (some ⟨bt, 0, none⟩)] w (Post encI B p w ((treeC (eachK alg) D rs N m).run S)) := by
  generalize hR : Post encI B p w ((treeC (eachK alg) D rs N m).run S) = R
  have hO : Owes R encI B p w ((treeC (eachK alg) D rs N m).run S) := hR ▸ owes _ _ _ _ _
  clear hR
  have hK := Keep.refl [2, 3, 4] B p w
  unfold treeC at hO
  have hlenh := Lib.hid hlen
  have hallh := Lib.hid hall
  have hOh := Lib.hid hO
  clear hlen hall hO
  go_enter Tryz.func76, Tryz.ntmps76
  go_wp2_with fail
  refine tstepL hOh.out hK (climb_p B p D S alg N m m rs A c w h h1 (by omega) hm1 hlenh.out hc1 hc2 hreg hallh.out (by omega) hD) (fun _ h => ⟨rfl, h⟩) ?_
  clear hOh hK
  intro u S1 w1 _ _ hP1 hk1 hK1 hO1
  have e1 : ∀ i, w1.cell? ⟨bk, i, none⟩ = (#[.int .i64 alg, .int .i64 N, .int .i64 mode, .int .i64 base, .int .i64 loc, .int .i64 room] : Array Value)[i]? := fun i => (hk1.below.cell (p := ⟨bk, i, none⟩) b1).trans (c1 i)
  have e2 := (hk1.below.cell (p := ⟨bt, 0, none⟩) b2).trans c2
  have e3 := (hk1.below.cell (p := ⟨bl, 0, none⟩) b3).trans c3
  have hreg2 : rs ≠ [] → ∃ b, A = some ⟨b, 0, none⟩ ∧ RegsAt [2, 3, 4] w1 p b rs := fun hne => by
    obtain ⟨b, q1, q2⟩ := hreg hne
    exact ⟨b, q1, q2.keep hk1⟩
  have hOh := Lib.hid hO1
  clear c1 c2 c3 h hreg hk1 hO1
  go_wp2_with fail
  refine tstep hOh.out hK1 (down_p B p S1 alg N m m rs A c w1 hP1 h1 (by omega) hm1 hlenh.out hc1 hc2 hreg2 hallh.out (by omega)) (fun _ h => ⟨rfl, h⟩) ?_
  intro v S2 w2 hr hP2 hk2 hK2 hO2
  have hf := hO2.done (v := (0 : Int)) hP2 hK2
  clear hO2 hP2 hK2 hr hk2 hOh hP1 hK1 hreg2 e1 e2 e3
  go_wp2_with fail
  first | exact hf | (go_ret; exact hf)
set_option maxRecDepth 100000 in
set_option maxHeartbeats 2000000 in
theorem tree_walk (alg N0 mode base loc room me : Int) (vL vA : Value) (Ll La : List Int) (w : World) (hL : Ints w vL Ll) (hA : Ints w vA La) :
    Calls Tryz.prog 9 #[.agg #[.int .i64 alg, .int .i64 N0, .int .i64 mode, .int .i64 base, .int .i64 loc, .int .i64 room], .int .i64 me, vL, vA] w fun e w' => e = .returned (.bool true) ∧ Ext w w' := by
  obtain ⟨Al, cl, rfl, p1, p2⟩ := hL.slice
  obtain ⟨Aa, ca, rfl, p3, p4⟩ := hA.slice
  have hmf : ∀ (fn : Fn) (first cap : Array Value) (w : World), (Instr.makeFunc fn first cap).run Tryz.prog w = .ok (.func fn first cap) w := fun _ _ _ _ => rfl
  have hX := Ext.refl w
  have b1 := Blk.new w (.cells #[.int .i64 alg, .int .i64 N0, .int .i64 mode, .int .i64 base, .int .i64 loc, .int .i64 room] 52)
  replace hX := hX.alloc (.cells #[.int .i64 alg, .int .i64 N0, .int .i64 mode, .int .i64 base, .int .i64 loc, .int .i64 room] 52)
  have c_b1 := b1.cells
  go_enter Tryz.func9, Tryz.ntmps9
  go_wp2_with fail
  have hXW := hX.drew
  replace b1 := b1.drew
  clear hX c_b1
  have hX := hXW
  have c_b1 := b1.cells
  by_cases h1 : 1000 < Ll.length
  · have d1 : decide ((1000 : Int) < (Ll.length : Int)) = true := by rw [decide_eq_true_eq]; omega
    refine wp_region_held_drew (S := fun w' => ∀ i, w'.cell? ⟨w.heap.size, i, none⟩ = (#[.int .i64 alg, .int .i64 N0, .int .i64 mode, .int .i64 base, .int .i64 loc, .int .i64 room] : Array Value)[i]?) rfl c_b1 (fun hHeld => ?_)
    refine wpAnyH_take (i := 0) (v := ?_) rfl (by kernel_rfl) (by kernel_rfl) (by kernel_rfl) (fun _ _ _ h => h) (Or.inl ⟨by kernel_rfl, ?_⟩) (by assumption) ?_
    rotate_left
    · (intro w hSw; (try dsimp only at hSw); go_simp; try with_reducible rfl)
    try simp only [put_pack]
    refine wpAnyH_take (i := 1) (v := ?_) rfl (by kernel_rfl) (by kernel_rfl) (by kernel_rfl) (fun _ _ _ h => h) (Or.inl ⟨by kernel_rfl, ?_⟩) (by assumption) ?_
    rotate_left
    · (intro w hSw; (try dsimp only at hSw); go_simp; try with_reducible rfl)
    try simp only [put_pack]
    refine wpAnyH_take (i := 2) (v := ?_) rfl (by kernel_rfl) (by kernel_rfl) (by kernel_rfl) (fun _ _ _ h => h) (Or.inl ⟨by kernel_rfl, ?_⟩) (by assumption) ?_
    rotate_left
    · (intro w hSw; (try dsimp only at hSw); go_simp; try with_reducible rfl)
    try simp only [put_pack]
    refine wpAnyH_take (i := 3) (v := ?_) rfl (by kernel_rfl) (by kernel_rfl) (by kernel_rfl) (fun _ _ _ h => h) (Or.inl ⟨by kernel_rfl, ?_⟩) (by assumption) ?_
    rotate_left
    · (intro w hSw; (try dsimp only at hSw); go_simp; try with_reducible rfl)
    try simp only [put_pack]
    refine wpAnyH_take (i := 4) (v := undef) rfl (by kernel_rfl) (by kernel_rfl) (by kernel_rfl) (fun _ _ _ h => h) (Or.inr ⟨by kernel_rfl, rfl⟩) (by assumption) ?_
    try simp only [put_pack]
    refine wpAnyH_take (i := 5) (v := undef) rfl (by kernel_rfl) (by kernel_rfl) (by kernel_rfl) (fun _ _ _ h => h) (Or.inr ⟨by kernel_rfl, rfl⟩) (by assumption) ?_
    try simp only [put_pack]
    refine wpAnyH_take (i := 6) (v := undef) rfl (by kernel_rfl) (by kernel_rfl) (by kernel_rfl) (fun _ _ _ h => h) (Or.inr ⟨by kernel_rfl, rfl⟩) (by assumption) ?_
    try simp only [put_pack]
    refine wpAnyH_take (i := 7) (v := ?_) rfl (by kernel_rfl) (by kernel_rfl) (by kernel_rfl) (fun _ _ _ h => h) (Or.inl ⟨by kernel_rfl, ?_⟩) (by assumption) ?_
    rotate_left
    · (intro w hSw; (try dsimp only at hSw); go_simp; try with_reducible rfl)
    try simp only [put_pack]
    refine wpAnyH_take (i := 8) (v := ?_) rfl (by kernel_rfl) (by kernel_rfl) (by kernel_rfl) (fun _ _ _ h => h) (Or.inl ⟨by kernel_rfl, ?_⟩) (by assumption) ?_
    rotate_left
    · (intro w hSw; (try dsimp only at hSw); go_simp; try with_reducible rfl)
    try simp only [put_pack]
    refine wpAnyH_take (i := 9) (v := undef) rfl (by kernel_rfl) (by kernel_rfl) (by kernel_rfl) (fun _ _ _ h => h) (Or.inr ⟨by kernel_rfl, rfl⟩) (by assumption) ?_
    try simp only [put_pack]
    refine wpAnyH_take (i := 10) (v := undef) rfl (by kernel_rfl) (by kernel_rfl) (by kernel_rfl) (fun _ _ _ h => h) (Or.inr ⟨by kernel_rfl, rfl⟩) (by assumption) ?_
    try simp only [put_pack]
    refine wpAnyH_take (i := 11) (v := undef) rfl (by kernel_rfl) (by kernel_rfl) (by kernel_rfl) (fun _ _ _ h => h) (Or.inr ⟨by kernel_rfl, rfl⟩) (by assumption) ?_
    try simp only [put_pack]
    refine wpAnyH_take (i := 12) (v := ?_) rfl (by kernel_rfl) (by kernel_rfl) (by kernel_rfl) (fun _ _ _ h => h) (Or.inl ⟨by kernel_rfl, ?_⟩) (by assumption) ?_
    rotate_left
    · (intro w hSw; (try dsimp only at hSw); go_simp; try with_reducible rfl)
    try simp only [put_pack]
    refine wpAnyH_take (i := 13) (v := ?_) rfl (by kernel_rfl) (by kernel_rfl) (by kernel_rfl) (fun _ _ _ h => h) (Or.inl ⟨by kernel_rfl, ?_⟩) (by assumption) ?_
    rotate_left
    · (intro w hSw; (try dsimp only at hSw); go_simp; try with_reducible rfl)
    try simp only [put_pack]
    refine wpAnyH_take (i := 14) (v := undef) rfl (by kernel_rfl) (by kernel_rfl) (by kernel_rfl) (fun _ _ _ h => h) (Or.inr ⟨by kernel_rfl, rfl⟩) (by assumption) ?_
    try simp only [put_pack]
    refine wpAnyH_take (i := 15) (v := undef) rfl (by kernel_rfl) (by kernel_rfl) (by kernel_rfl) (fun _ _ _ h => h) (Or.inr ⟨by kernel_rfl, rfl⟩) (by assumption) ?_
    try simp only [put_pack]
    refine wpAnyH_take (i := 16) (v := undef) rfl (by kernel_rfl) (by kernel_rfl) (by kernel_rfl) (fun _ _ _ h => h) (Or.inr ⟨by kernel_rfl, rfl⟩) (by assumption) ?_
    try simp only [put_pack]
    refine wpAnyH_take (i := 17) (v := ?_) rfl (by kernel_rfl) (by kernel_rfl) (by kernel_rfl) (fun _ _ _ h => h) (Or.inl ⟨by kernel_rfl, ?_⟩) (by assumption) ?_
    rotate_left
    · (intro w hSw; (try dsimp only at hSw); go_simp; try with_reducible rfl)
    try simp only [put_pack]
    refine wpAnyH_take (i := 18) (v := ?_) rfl (by kernel_rfl) (by kernel_rfl) (by kernel_rfl) (fun _ _ _ h => h) (Or.inl ⟨by kernel_rfl, ?_⟩) (by assumption) ?_
    rotate_left
    · (intro w hSw; (try dsimp only at hSw); go_simp; try with_reducible rfl)
    try simp only [put_pack]
    refine wpAnyH_take (i := 19) (v := undef) rfl (by kernel_rfl) (by kernel_rfl) (by kernel_rfl) (fun _ _ _ h => h) (Or.inr ⟨by kernel_rfl, rfl⟩) (by assumption) ?_
    try simp only [put_pack]
    refine wpAnyH_take (i := 20) (v := undef) rfl (by kernel_rfl) (by kernel_rfl) (by kernel_rfl) (fun _ _ _ h => h) (Or.inr ⟨by kernel_rfl, rfl⟩) (by assumption) ?_
    try simp only [put_pack]
    refine wpAnyH_take (i := 21) (v := undef) rfl (by kernel_rfl) (by kernel_rfl) (by kernel_rfl) (fun _ _ _ h => h) (Or.inr ⟨by kernel_rfl, rfl⟩) (by assumption) ?_
    try simp only [put_pack]
    refine wpAnyH_take (i := 22) (v := undef) rfl (by kernel_rfl) (by kernel_rfl) (by kernel_rfl) (fun _ _ _ h => h) (Or.inr ⟨by kernel_rfl, rfl⟩) (by assumption) ?_
    try simp only [put_pack]
    refine wpAnyH_take (i := 23) (v := undef) rfl (by kernel_rfl) (by kernel_rfl) (by kernel_rfl) (fun _ _ _ h => h) (Or.inr ⟨by kernel_rfl, rfl⟩) (by assumption) ?_
    try simp only [put_pack]
    refine wpAnyH_take (i := 24) (v := undef) rfl (by kernel_rfl) (by kernel_rfl) (by kernel_rfl) (fun _ _ _ h => h) (Or.inr ⟨by kernel_rfl, rfl⟩) (by assumption) ?_
    try simp only [put_pack]
    refine wpAnyH_take (i := 25) (v := undef) rfl (by kernel_rfl) (by kernel_rfl) (by kernel_rfl) (fun _ _ _ h => h) (Or.inr ⟨by kernel_rfl, rfl⟩) (by assumption) ?_
    try simp only [put_pack]
    refine wpAnyH_take (i := 26) (v := undef) rfl (by kernel_rfl) (by kernel_rfl) (by kernel_rfl) (fun _ _ _ h => h) (Or.inr ⟨by kernel_rfl, rfl⟩) (by assumption) ?_
    try simp only [put_pack]
    refine wpAnyH_take (i := 27) (v := ?_) rfl (by kernel_rfl) (by kernel_rfl) (by kernel_rfl) (fun _ _ _ h => h) (Or.inl ⟨by kernel_rfl, ?_⟩) (by assumption) ?_
    rotate_left
    · (intro w hSw; (try dsimp only at hSw); go_simp; try with_reducible rfl)
    try simp only [put_pack]
    refine wpAnyH_done (by kernel_rfl) ?_ _
    go_simp
    go_wp2_with fail
    refine (alive30 _).mono ?_
    rintro e w7 ⟨rfl, hx7⟩
    have hf := Lib.hid (hX.trans hx7)
    go_wp2_with fail
    go_ret
    exact ⟨rfl, hf.out⟩
  have d1 : decide ((1000 : Int) < (Ll.length : Int)) = false := by rw [decide_eq_false_iff_not]; omega
  by_cases h2 : 1500 < La.length
  · have d2 : decide ((1500 : Int) < (La.length : Int)) = true := by rw [decide_eq_true_eq]; omega
    refine wp_region_held_drew (S := fun w' => ∀ i, w'.cell? ⟨w.heap.size, i, none⟩ = (#[.int .i64 alg, .int .i64 N0, .int .i64 mode, .int .i64 base, .int .i64 loc, .int .i64 room] : Array Value)[i]?) rfl c_b1 (fun hHeld => ?_)
    refine wpAnyH_take (i := 0) (v := ?_) rfl (by kernel_rfl) (by kernel_rfl) (by kernel_rfl) (fun _ _ _ h => h) (Or.inl ⟨by kernel_rfl, ?_⟩) (by assumption) ?_
    rotate_left
    · (intro w hSw; (try dsimp only at hSw); go_simp; try with_reducible rfl)
    try simp only [put_pack]
    refine wpAnyH_take (i := 1) (v := ?_) rfl (by kernel_rfl) (by kernel_rfl) (by kernel_rfl) (fun _ _ _ h => h) (Or.inl ⟨by kernel_rfl, ?_⟩) (by assumption) ?_
    rotate_left
    · (intro w hSw; (try dsimp only at hSw); go_simp; try with_reducible rfl)
    try simp only [put_pack]
    refine wpAnyH_take (i := 2) (v := ?_) rfl (by kernel_rfl) (by kernel_rfl) (by kernel_rfl) (fun _ _ _ h => h) (Or.inl ⟨by kernel_rfl, ?_⟩) (by assumption) ?_
    rotate_left
    · (intro w hSw; (try dsimp only at hSw); go_simp; try with_reducible rfl)
    try simp only [put_pack]
    refine wpAnyH_take (i := 3) (v := ?_) rfl (by kernel_rfl) (by kernel_rfl) (by kernel_rfl) (fun _ _ _ h => h) (Or.inl ⟨by kernel_rfl, ?_⟩) (by assumption) ?_
    rotate_left
    · (intro w hSw; (try dsimp only at hSw); go_simp; try with_reducible rfl)
    try simp only [put_pack]
    refine wpAnyH_take (i := 4) (v := ?_) rfl (by kernel_rfl) (by kernel_rfl) (by kernel_rfl) (fun _ _ _ h => h) (Or.inl ⟨by kernel_rfl, ?_⟩) (by assumption) ?_
    rotate_left
    · (intro w hSw; (try dsimp only at hSw); go_simp; try with_reducible rfl)
    try simp only [put_pack]
    refine wpAnyH_take (i := 5) (v := ?_) rfl (by kernel_rfl) (by kernel_rfl) (by kernel_rfl) (fun _ _ _ h => h) (Or.inl ⟨by kernel_rfl, ?_⟩) (by assumption) ?_
    rotate_left
    · (intro w hSw; (try dsimp only at hSw); go_simp; try with_reducible rfl)
    try simp only [put_pack]
    refine wpAnyH_take (i := 6) (v := ?_) rfl (by kernel_rfl) (by kernel_rfl) (by kernel_rfl) (fun _ _ _ h => h) (Or.inl ⟨by kernel_rfl, ?_⟩) (by assumption) ?_
    rotate_left
    · (intro w hSw; (try dsimp only at hSw); go_simp; try with_reducible rfl)
    try simp only [put_pack]
    refine wpAnyH_take (i := 7) (v := ?_) rfl (by kernel_rfl) (by kernel_rfl) (by kernel_rfl) (fun _ _ _ h => h) (Or.inl ⟨by kernel_rfl, ?_⟩) (by assumption) ?_
    rotate_left
    · (intro w hSw; (try dsimp only at hSw); go_simp; try with_reducible rfl)
    try simp only [put_pack]
    refine wpAnyH_take (i := 8) (v := ?_) rfl (by kernel_rfl) (by kernel_rfl) (by kernel_rfl) (fun _ _ _ h => h) (Or.inl ⟨by kernel_rfl, ?_⟩) (by assumption) ?_
    rotate_left
    · (intro w hSw; (try dsimp only at hSw); go_simp; try with_reducible rfl)
    try simp only [put_pack]
    refine wpAnyH_take (i := 9) (v := undef) rfl (by kernel_rfl) (by kernel_rfl) (by kernel_rfl) (fun _ _ _ h => h) (Or.inr ⟨by kernel_rfl, rfl⟩) (by assumption) ?_
    try simp only [put_pack]
    refine wpAnyH_take (i := 10) (v := undef) rfl (by kernel_rfl) (by kernel_rfl) (by kernel_rfl) (fun _ _ _ h => h) (Or.inr ⟨by kernel_rfl, rfl⟩) (by assumption) ?_
    try simp only [put_pack]
    refine wpAnyH_take (i := 11) (v := undef) rfl (by kernel_rfl) (by kernel_rfl) (by kernel_rfl) (fun _ _ _ h => h) (Or.inr ⟨by kernel_rfl, rfl⟩) (by assumption) ?_
    try simp only [put_pack]
    refine wpAnyH_take (i := 12) (v := ?_) rfl (by kernel_rfl) (by kernel_rfl) (by kernel_rfl) (fun _ _ _ h => h) (Or.inl ⟨by kernel_rfl, ?_⟩) (by assumption) ?_
    rotate_left
    · (intro w hSw; (try dsimp only at hSw); go_simp; try with_reducible rfl)
    try simp only [put_pack]
    refine wpAnyH_take (i := 13) (v := ?_) rfl (by kernel_rfl) (by kernel_rfl) (by kernel_rfl) (fun _ _ _ h => h) (Or.inl ⟨by kernel_rfl, ?_⟩) (by assumption) ?_
    rotate_left
    · (intro w hSw; (try dsimp only at hSw); go_simp; try with_reducible rfl)
    try simp only [put_pack]
    refine wpAnyH_take (i := 14) (v := undef) rfl (by kernel_rfl) (by kernel_rfl) (by kernel_rfl) (fun _ _ _ h => h) (Or.inr ⟨by kernel_rfl, rfl⟩) (by assumption) ?_
    try simp only [put_pack]
    refine wpAnyH_take (i := 15) (v := undef) rfl (by kernel_rfl) (by kernel_rfl) (by kernel_rfl) (fun _ _ _ h => h) (Or.inr ⟨by kernel_rfl, rfl⟩) (by assumption) ?_
    try simp only [put_pack]
    refine wpAnyH_take (i := 16) (v := undef) rfl (by kernel_rfl) (by kernel_rfl) (by kernel_rfl) (fun _ _ _ h => h) (Or.inr ⟨by kernel_rfl, rfl⟩) (by assumption) ?_
    try simp only [put_pack]
    refine wpAnyH_take (i := 17) (v := ?_) rfl (by kernel_rfl) (by kernel_rfl) (by kernel_rfl) (fun _ _ _ h => h) (Or.inl ⟨by kernel_rfl, ?_⟩) (by assumption) ?_
    rotate_left
    · (intro w hSw; (try dsimp only at hSw); go_simp; try with_reducible rfl)
    try simp only [put_pack]
    refine wpAnyH_take (i := 18) (v := ?_) rfl (by kernel_rfl) (by kernel_rfl) (by kernel_rfl) (fun _ _ _ h => h) (Or.inl ⟨by kernel_rfl, ?_⟩) (by assumption) ?_
    rotate_left
    · (intro w hSw; (try dsimp only at hSw); go_simp; try with_reducible rfl)
    try simp only [put_pack]
    refine wpAnyH_take (i := 19) (v := undef) rfl (by kernel_rfl) (by kernel_rfl) (by kernel_rfl) (fun _ _ _ h => h) (Or.inr ⟨by kernel_rfl, rfl⟩) (by assumption) ?_
    try simp only [put_pack]
    refine wpAnyH_take (i := 20) (v := undef) rfl (by kernel_rfl) (by kernel_rfl) (by kernel_rfl) (fun _ _ _ h => h) (Or.inr ⟨by kernel_rfl, rfl⟩) (by assumption) ?_
    try simp only [put_pack]
    refine wpAnyH_take (i := 21) (v := undef) rfl (by kernel_rfl) (by kernel_rfl) (by kernel_rfl) (fun _ _ _ h => h) (Or.inr ⟨by kernel_rfl, rfl⟩) (by assumption) ?_
    try simp only [put_pack]
    refine wpAnyH_take (i := 22) (v := undef) rfl (by kernel_rfl) (by kernel_rfl) (by kernel_rfl) (fun _ _ _ h => h) (Or.inr ⟨by kernel_rfl, rfl⟩) (by assumption) ?_
    try simp only [put_pack]
    refine wpAnyH_take (i := 23) (v := undef) rfl (by kernel_rfl) (by kernel_rfl) (by kernel_rfl) (fun _ _ _ h => h) (Or.inr ⟨by kernel_rfl, rfl⟩) (by assumption) ?_
    try simp only [put_pack]
    refine wpAnyH_take (i := 24) (v := undef) rfl (by kernel_rfl) (by kernel_rfl) (by kernel_rfl) (fun _ _ _ h => h) (Or.inr ⟨by kernel_rfl, rfl⟩) (by assumption) ?_
    try simp only [put_pack]
    refine wpAnyH_take (i := 25) (v := undef) rfl (by kernel_rfl) (by kernel_rfl) (by kernel_rfl) (fun _ _ _ h => h) (Or.inr ⟨by kernel_rfl, rfl⟩) (by assumption) ?_
    try simp only [put_pack]
    refine wpAnyH_take (i := 26) (v := undef) rfl (by kernel_rfl) (by kernel_rfl) (by kernel_rfl) (fun _ _ _ h => h) (Or.inr ⟨by kernel_rfl, rfl⟩) (by assumption) ?_
    try simp only [put_pack]
    refine wpAnyH_take (i := 27) (v := ?_) rfl (by kernel_rfl) (by kernel_rfl) (by kernel_rfl) (fun _ _ _ h => h) (Or.inl ⟨by kernel_rfl, ?_⟩) (by assumption) ?_
    rotate_left
    · (intro w hSw; (try dsimp only at hSw); go_simp; try with_reducible rfl)
    try simp only [put_pack]
    refine wpAnyH_done (by kernel_rfl) ?_ _
    go_simp
    go_wp2_with fail
    refine (alive30 _).mono ?_
    rintro e w7 ⟨rfl, hx7⟩
    have hf := Lib.hid (hX.trans hx7)
    go_wp2_with fail
    go_ret
    exact ⟨rfl, hf.out⟩
  have d2 : decide ((1500 : Int) < (La.length : Int)) = false := by rw [decide_eq_false_iff_not]; omega
  by_cases h3 : N0 < 1
  · have d3 : decide (N0 < 1) = true := by simpa using h3
    refine wp_region_held_drew (S := fun w' => ∀ i, w'.cell? ⟨w.heap.size, i, none⟩ = (#[.int .i64 alg, .int .i64 N0, .int .i64 mode, .int .i64 base, .int .i64 loc, .int .i64 room] : Array Value)[i]?) rfl c_b1 (fun hHeld => ?_)
    refine wpAnyH_take (i := 0) (v := ?_) rfl (by kernel_rfl) (by kernel_rfl) (by kernel_rfl) (fun _ _ _ h => h) (Or.inl ⟨by kernel_rfl, ?_⟩) (by assumption) ?_
    rotate_left
    · (intro w hSw; (try dsimp only at hSw); go_simp; try with_reducible rfl)
    try simp only [put_pack]
    refine wpAnyH_take (i := 1) (v := ?_) rfl (by kernel_rfl) (by kernel_rfl) (by kernel_rfl) (fun _ _ _ h => h) (Or.inl ⟨by kernel_rfl, ?_⟩) (by assumption) ?_
    rotate_left
    · (intro w hSw; (try dsimp only at hSw); go_simp; try with_reducible rfl)
    try simp only [put_pack]
    refine wpAnyH_take (i := 2) (v := ?_) rfl (by kernel_rfl) (by kernel_rfl) (by kernel_rfl) (fun _ _ _ h => h) (Or.inl ⟨by kernel_rfl, ?_⟩) (by assumption) ?_
    rotate_left
    · (intro w hSw; (try dsimp only at hSw); go_simp; try with_reducible rfl)
    try simp only [put_pack]
    refine wpAnyH_take (i := 3) (v := ?_) rfl (by kernel_rfl) (by kernel_rfl) (by kernel_rfl) (fun _ _ _ h => h) (Or.inl ⟨by kernel_rfl, ?_⟩) (by assumption) ?_
    rotate_left
    · (intro w hSw; (try dsimp only at hSw); go_simp; try with_reducible rfl)
    try simp only [put_pack]
    refine wpAnyH_take (i := 4) (v := ?_) rfl (by kernel_rfl) (by kernel_rfl) (by kernel_rfl) (fun _ _ _ h => h) (Or.inl ⟨by kernel_rfl, ?_⟩) (by assumption) ?_
    rotate_left
    · (intro w hSw; (try dsimp only at hSw); go_simp; try with_reducible rfl)
    try simp only [put_pack]
    refine wpAnyH_take (i := 5) (v := ?_) rfl (by kernel_rfl) (by kernel_rfl) (by kernel_rfl) (fun _ _ _ h => h) (Or.inl ⟨by kernel_rfl, ?_⟩) (by assumption) ?_
    rotate_left
    · (intro w hSw; (try dsimp only at hSw); go_simp; try with_reducible rfl)
    try simp only [put_pack]
    refine wpAnyH_take (i := 6) (v := ?_) rfl (by kernel_rfl) (by kernel_rfl) (by kernel_rfl) (fun _ _ _ h => h) (Or.inl ⟨by kernel_rfl, ?_⟩) (by assumption) ?_
    rotate_left
    · (intro w hSw; (try dsimp only at hSw); go_simp; try with_reducible rfl)
    try simp only [put_pack]
    refine wpAnyH_take (i := 7) (v := ?_) rfl (by kernel_rfl) (by kernel_rfl) (by kernel_rfl) (fun _ _ _ h => h) (Or.inl ⟨by kernel_rfl, ?_⟩) (by assumption) ?_
    rotate_left
    · (intro w hSw; (try dsimp only at hSw); go_simp; try with_reducible rfl)
    try simp only [put_pack]
    refine wpAnyH_take (i := 8) (v := ?_) rfl (by kernel_rfl) (by kernel_rfl) (by kernel_rfl) (fun _ _ _ h => h) (Or.inl ⟨by kernel_rfl, ?_⟩) (by assumption) ?_
    rotate_left
    · (intro w hSw; (try dsimp only at hSw); go_simp; try with_reducible rfl)
    try simp only [put_pack]
    refine wpAnyH_take (i := 9) (v := ?_) rfl (by kernel_rfl) (by kernel_rfl) (by kernel_rfl) (fun _ _ _ h => h) (Or.inl ⟨by kernel_rfl, ?_⟩) (by assumption) ?_
    rotate_left
    · (intro w hSw; (try dsimp only at hSw); go_simp; try with_reducible rfl)
    try simp only [put_pack]
    refine wpAnyH_take (i := 10) (v := ?_) rfl (by kernel_rfl) (by kernel_rfl) (by kernel_rfl) (fun _ _ _ h => h) (Or.inl ⟨by kernel_rfl, ?_⟩) (by assumption) ?_
    rotate_left
    · (intro w hSw; (try dsimp only at hSw); go_simp; try with_reducible rfl)
    try simp only [put_pack]
    refine wpAnyH_take (i := 11) (v := ?_) rfl (by kernel_rfl) (by kernel_rfl) (by kernel_rfl) (fun _ _ _ h => h) (Or.inl ⟨by kernel_rfl, ?_⟩) (by assumption) ?_
    rotate_left
    · (intro w hSw; (try dsimp only at hSw); go_simp; try with_reducible rfl)
    try simp only [put_pack]
    refine wpAnyH_take (i := 12) (v := ?_) rfl (by kernel_rfl) (by kernel_rfl) (by kernel_rfl) (fun _ _ _ h => h) (Or.inl ⟨by kernel_rfl, ?_⟩) (by assumption) ?_
    rotate_left
    · (intro w hSw; (try dsimp only at hSw); go_simp; try with_reducible rfl)
    try simp only [put_pack]
    refine wpAnyH_take (i := 13) (v := ?_) rfl (by kernel_rfl) (by kernel_rfl) (by kernel_rfl) (fun _ _ _ h => h) (Or.inl ⟨by kernel_rfl, ?_⟩) (by assumption) ?_
    rotate_left
    · (intro w hSw; (try dsimp only at hSw); go_simp; try with_reducible rfl)
    try simp only [put_pack]
    refine wpAnyH_take (i := 14) (v := undef) rfl (by kernel_rfl) (by kernel_rfl) (by kernel_rfl) (fun _ _ _ h => h) (Or.inr ⟨by kernel_rfl, rfl⟩) (by assumption) ?_
    try simp only [put_pack]
    refine wpAnyH_take (i := 15) (v := undef) rfl (by kernel_rfl) (by kernel_rfl) (by kernel_rfl) (fun _ _ _ h => h) (Or.inr ⟨by kernel_rfl, rfl⟩) (by assumption) ?_
    try simp only [put_pack]
    refine wpAnyH_take (i := 16) (v := undef) rfl (by kernel_rfl) (by kernel_rfl) (by kernel_rfl) (fun _ _ _ h => h) (Or.inr ⟨by kernel_rfl, rfl⟩) (by assumption) ?_
    try simp only [put_pack]
    refine wpAnyH_take (i := 17) (v := ?_) rfl (by kernel_rfl) (by kernel_rfl) (by kernel_rfl) (fun _ _ _ h => h) (Or.inl ⟨by kernel_rfl, ?_⟩) (by assumption) ?_
    rotate_left
    · (intro w hSw; (try dsimp only at hSw); go_simp; try with_reducible rfl)
    try simp only [put_pack]
    refine wpAnyH_take (i := 18) (v := ?_) rfl (by kernel_rfl) (by kernel_rfl) (by kernel_rfl) (fun _ _ _ h => h) (Or.inl ⟨by kernel_rfl, ?_⟩) (by assumption) ?_
    rotate_left
    · (intro w hSw; (try dsimp only at hSw); go_simp; try with_reducible rfl)
    try simp only [put_pack]
    refine wpAnyH_take (i := 19) (v := undef) rfl (by kernel_rfl) (by kernel_rfl) (by kernel_rfl) (fun _ _ _ h => h) (Or.inr ⟨by kernel_rfl, rfl⟩) (by assumption) ?_
    try simp only [put_pack]
    refine wpAnyH_take (i := 20) (v := undef) rfl (by kernel_rfl) (by kernel_rfl) (by kernel_rfl) (fun _ _ _ h => h) (Or.inr ⟨by kernel_rfl, rfl⟩) (by assumption) ?_
    try simp only [put_pack]
    refine wpAnyH_take (i := 21) (v := undef) rfl (by kernel_rfl) (by kernel_rfl) (by kernel_rfl) (fun _ _ _ h => h) (Or.inr ⟨by kernel_rfl, rfl⟩) (by assumption) ?_
    try simp only [put_pack]
    refine wpAnyH_take (i := 22) (v := undef) rfl (by kernel_rfl) (by kernel_rfl) (by kernel_rfl) (fun _ _ _ h => h) (Or.inr ⟨by kernel_rfl, rfl⟩) (by assumption) ?_
    try simp only [put_pack]
    refine wpAnyH_take (i := 23) (v := undef) rfl (by kernel_rfl) (by kernel_rfl) (by kernel_rfl) (fun _ _ _ h => h) (Or.inr ⟨by kernel_rfl, rfl⟩) (by assumption) ?_
    try simp only [put_pack]
    refine wpAnyH_take (i := 24) (v := undef) rfl (by kernel_rfl) (by kernel_rfl) (by kernel_rfl) (fun _ _ _ h => h) (Or.inr ⟨by kernel_rfl, rfl⟩) (by assumption) ?_
    try simp only [put_pack]
    refine wpAnyH_take (i := 25) (v := undef) rfl (by kernel_rfl) (by kernel_rfl) (by kernel_rfl) (fun _ _ _ h => h) (Or.inr ⟨by kernel_rfl, rfl⟩) (by assumption) ?_
    try simp only [put_pack]
    refine wpAnyH_take (i := 26) (v := undef) rfl (by kernel_rfl) (by kernel_rfl) (by kernel_rfl) (fun _ _ _ h => h) (Or.inr ⟨by kernel_rfl, rfl⟩) (by assumption) ?_
    try simp only [put_pack]
    refine wpAnyH_take (i := 27) (v := ?_) rfl (by kernel_rfl) (by kernel_rfl) (by kernel_rfl) (fun _ _ _ h => h) (Or.inl ⟨by kernel_rfl, ?_⟩) (by assumption) ?_
    rotate_left
    · (intro w hSw; (try dsimp only at hSw); go_simp; try with_reducible rfl)
    try simp only [put_pack]
    refine wpAnyH_done (by kernel_rfl) ?_ _
    go_simp
    go_wp2_with fail
    refine (alive30 _).mono ?_
    rintro e w7 ⟨rfl, hx7⟩
    have hf := Lib.hid (hX.trans hx7)
    go_wp2_with fail
    go_ret
    exact ⟨rfl, hf.out⟩
  have d3 : decide (N0 < 1) = false := by simpa using h3
  by_cases h4 : 8 < N0
  · have d4 : decide (8 < N0) = true := by simpa using h4
    refine wp_region_held_drew (S := fun w' => ∀ i, w'.cell? ⟨w.heap.size, i, none⟩ = (#[.int .i64 alg, .int .i64 N0, .int .i64 mode, .int .i64 base, .int .i64 loc, .int .i64 room] : Array Value)[i]?) rfl c_b1 (fun hHeld => ?_)
    refine wpAnyH_take (i := 0) (v := ?_) rfl (by kernel_rfl) (by kernel_rfl) (by kernel_rfl) (fun _ _ _ h => h) (Or.inl ⟨by kernel_rfl, ?_⟩) (by assumption) ?_
    rotate_left
    · (intro w hSw; (try dsimp only at hSw); go_simp; try with_reducible rfl)
    try simp only [put_pack]
    refine wpAnyH_take (i := 1) (v := ?_) rfl (by kernel_rfl) (by kernel_rfl) (by kernel_rfl) (fun _ _ _ h => h) (Or.inl ⟨by kernel_rfl, ?_⟩) (by assumption) ?_
    rotate_left
    · (intro w hSw; (try dsimp only at hSw); go_simp; try with_reducible rfl)
    try simp only [put_pack]
    refine wpAnyH_take (i := 2) (v := ?_) rfl (by kernel_rfl) (by kernel_rfl) (by kernel_rfl) (fun _ _ _ h => h) (Or.inl ⟨by kernel_rfl, ?_⟩) (by assumption) ?_
    rotate_left
    · (intro w hSw; (try dsimp only at hSw); go_simp; try with_reducible rfl)
    try simp only [put_pack]
    refine wpAnyH_take (i := 3) (v := ?_) rfl (by kernel_rfl) (by kernel_rfl) (by kernel_rfl) (fun _ _ _ h => h) (Or.inl ⟨by kernel_rfl, ?_⟩) (by assumption) ?_
    rotate_left
    · (intro w hSw; (try dsimp only at hSw); go_simp; try with_reducible rfl)
    try simp only [put_pack]
    refine wpAnyH_take (i := 4) (v := ?_) rfl (by kernel_rfl) (by kernel_rfl) (by kernel_rfl) (fun _ _ _ h => h) (Or.inl ⟨by kernel_rfl, ?_⟩) (by assumption) ?_
    rotate_left
    · (intro w hSw; (try dsimp only at hSw); go_simp; try with_reducible rfl)
    try simp only [put_pack]
    refine wpAnyH_take (i := 5) (v := ?_) rfl (by kernel_rfl) (by kernel_rfl) (by kernel_rfl) (fun _ _ _ h => h) (Or.inl ⟨by kernel_rfl, ?_⟩) (by assumption) ?_
    rotate_left
    · (intro w hSw; (try dsimp only at hSw); go_simp; try with_reducible rfl)
    try simp only [put_pack]
    refine wpAnyH_take (i := 6) (v := ?_) rfl (by kernel_rfl) (by kernel_rfl) (by kernel_rfl) (fun _ _ _ h => h) (Or.inl ⟨by kernel_rfl, ?_⟩) (by assumption) ?_
    rotate_left
    · (intro w hSw; (try dsimp only at hSw); go_simp; try with_reducible rfl)
    try simp only [put_pack]
    refine wpAnyH_take (i := 7) (v := ?_) rfl (by kernel_rfl) (by kernel_rfl) (by kernel_rfl) (fun _ _ _ h => h) (Or.inl ⟨by kernel_rfl, ?_⟩) (by assumption) ?_
    rotate_left
    · (intro w hSw; (try dsimp only at hSw); go_simp; try with_reducible rfl)
    try simp only [put_pack]
    refine wpAnyH_take (i := 8) (v := ?_) rfl (by kernel_rfl) (by kernel_rfl) (by kernel_rfl) (fun _ _ _ h => h) (Or.inl ⟨by kernel_rfl, ?_⟩) (by assumption) ?_
    rotate_left
    · (intro w hSw; (try dsimp only at hSw); go_simp; try with_reducible rfl)
    try simp only [put_pack]
    refine wpAnyH_take (i := 9) (v := ?_) rfl (by kernel_rfl) (by kernel_rfl) (by kernel_rfl) (fun _ _ _ h => h) (Or.inl ⟨by kernel_rfl, ?_⟩) (by assumption) ?_
    rotate_left
    · (intro w hSw; (try dsimp only at hSw); go_simp; try with_reducible rfl)
    try simp only [put_pack]
    refine wpAnyH_take (i := 10) (v := ?_) rfl (by kernel_rfl) (by kernel_rfl) (by kernel_rfl) (fun _ _ _ h => h) (Or.inl ⟨by kernel_rfl, ?_⟩) (by assumption) ?_
    rotate_left
    · (intro w hSw; (try dsimp only at hSw); go_simp; try with_reducible rfl)
    try simp only [put_pack]
    refine wpAnyH_take (i := 11) (v := ?_) rfl (by kernel_rfl) (by kernel_rfl) (by kernel_rfl) (fun _ _ _ h => h) (Or.inl ⟨by kernel_rfl, ?_⟩) (by assumption) ?_
    rotate_left
    · (intro w hSw; (try dsimp only at hSw); go_simp; try with_reducible rfl)
    try simp only [put_pack]
    refine wpAnyH_take (i := 12) (v := ?_) rfl (by kernel_rfl) (by kernel_rfl) (by kernel_rfl) (fun _ _ _ h => h) (Or.inl ⟨by kernel_rfl, ?_⟩) (by assumption) ?_
    rotate_left
    · (intro w hSw; (try dsimp only at hSw); go_simp; try with_reducible rfl)
    try simp only [put_pack]
    refine wpAnyH_take (i := 13) (v := ?_) rfl (by kernel_rfl) (by kernel_rfl) (by kernel_rfl) (fun _ _ _ h => h) (Or.inl ⟨by kernel_rfl, ?_⟩) (by assumption) ?_
    rotate_left
    · (intro w hSw; (try dsimp only at hSw); go_simp; try with_reducible rfl)
    try simp only [put_pack]
    refine wpAnyH_take (i := 14) (v := ?_) rfl (by kernel_rfl) (by kernel_rfl) (by kernel_rfl) (fun _ _ _ h => h) (Or.inl ⟨by kernel_rfl, ?_⟩) (by assumption) ?_
    rotate_left
    · (intro w hSw; (try dsimp only at hSw); go_simp; try with_reducible rfl)
    try simp only [put_pack]
    refine wpAnyH_take (i := 15) (v := ?_) rfl (by kernel_rfl) (by kernel_rfl) (by kernel_rfl) (fun _ _ _ h => h) (Or.inl ⟨by kernel_rfl, ?_⟩) (by assumption) ?_
    rotate_left
    · (intro w hSw; (try dsimp only at hSw); go_simp; try with_reducible rfl)
    try simp only [put_pack]
    refine wpAnyH_take (i := 16) (v := ?_) rfl (by kernel_rfl) (by kernel_rfl) (by kernel_rfl) (fun _ _ _ h => h) (Or.inl ⟨by kernel_rfl, ?_⟩) (by assumption) ?_
    rotate_left
    · (intro w hSw; (try dsimp only at hSw); go_simp; try with_reducible rfl)
    try simp only [put_pack]
    refine wpAnyH_take (i := 17) (v := ?_) rfl (by kernel_rfl) (by kernel_rfl) (by kernel_rfl) (fun _ _ _ h => h) (Or.inl ⟨by kernel_rfl, ?_⟩) (by assumption) ?_
    rotate_left
    · (intro w hSw; (try dsimp only at hSw); go_simp; try with_reducible rfl)
    try simp only [put_pack]
    refine wpAnyH_take (i := 18) (v := ?_) rfl (by kernel_rfl) (by kernel_rfl) (by kernel_rfl) (fun _ _ _ h => h) (Or.inl ⟨by kernel_rfl, ?_⟩) (by assumption) ?_
    rotate_left
    · (intro w hSw; (try dsimp only at hSw); go_simp; try with_reducible rfl)
    try simp only [put_pack]
    refine wpAnyH_take (i := 19) (v := undef) rfl (by kernel_rfl) (by kernel_rfl) (by kernel_rfl) (fun _ _ _ h => h) (Or.inr ⟨by kernel_rfl, rfl⟩) (by assumption) ?_
    try simp only [put_pack]
    refine wpAnyH_take (i := 20) (v := undef) rfl (by kernel_rfl) (by kernel_rfl) (by kernel_rfl) (fun _ _ _ h => h) (Or.inr ⟨by kernel_rfl, rfl⟩) (by assumption) ?_
    try simp only [put_pack]
    refine wpAnyH_take (i := 21) (v := undef) rfl (by kernel_rfl) (by kernel_rfl) (by kernel_rfl) (fun _ _ _ h => h) (Or.inr ⟨by kernel_rfl, rfl⟩) (by assumption) ?_
    try simp only [put_pack]
    refine wpAnyH_take (i := 22) (v := undef) rfl (by kernel_rfl) (by kernel_rfl) (by kernel_rfl) (fun _ _ _ h => h) (Or.inr ⟨by kernel_rfl, rfl⟩) (by assumption) ?_
    try simp only [put_pack]
    refine wpAnyH_take (i := 23) (v := undef) rfl (by kernel_rfl) (by kernel_rfl) (by kernel_rfl) (fun _ _ _ h => h) (Or.inr ⟨by kernel_rfl, rfl⟩) (by assumption) ?_
    try simp only [put_pack]
    refine wpAnyH_take (i := 24) (v := undef) rfl (by kernel_rfl) (by kernel_rfl) (by kernel_rfl) (fun _ _ _ h => h) (Or.inr ⟨by kernel_rfl, rfl⟩) (by assumption) ?_
    try simp only [put_pack]
    refine wpAnyH_take (i := 25) (v := undef) rfl (by kernel_rfl) (by kernel_rfl) (by kernel_rfl) (fun _ _ _ h => h) (Or.inr ⟨by kernel_rfl, rfl⟩) (by assumption) ?_
    try simp only [put_pack]
    refine wpAnyH_take (i := 26) (v := undef) rfl (by kernel_rfl) (by kernel_rfl) (by kernel_rfl) (fun _ _ _ h => h) (Or.inr ⟨by kernel_rfl, rfl⟩) (by assumption) ?_
    try simp only [put_pack]
    refine wpAnyH_take (i := 27) (v := ?_) rfl (by kernel_rfl) (by kernel_rfl) (by kernel_rfl) (fun _ _ _ h => h) (Or.inl ⟨by kernel_rfl, ?_⟩) (by assumption) ?_
    rotate_left
    · (intro w hSw; (try dsimp only at hSw); go_simp; try with_reducible rfl)
    try simp only [put_pack]
    refine wpAnyH_done (by kernel_rfl) ?_ _
    go_simp
    go_wp2_with fail
    refine (alive30 _).mono ?_
    rintro e w7 ⟨rfl, hx7⟩
    have hf := Lib.hid (hX.trans hx7)
    go_wp2_with fail
    go_ret
    exact ⟨rfl, hf.out⟩
  have d4 : decide (8 < N0) = false := by simpa using h4
  obtain ⟨N, rfl⟩ : ∃ N : Nat, N0 = N := ⟨N0.toNat, by omega⟩
  have n1 : 1 ≤ N := by omega
  have n2 : N ≤ 8 := by omega
  have hMay := fun (va : Value) (w : World) (h : WantsAt w va (treeWants (eachK alg) N)) => may_r va (treeWants (eachK alg) N) alg N mode base loc room w h (treeWants_le alg (by omega))
  clear h3 h4
  generalize w.alloc _ = V0 at *
  have hXV := hX
  clear hX c_b1
  have hX := Ext.refl V0.drew
  have hS : ∀ w', Ext V0.drew w' → (∀ i, w'.cell? ⟨w.heap.size, i, none⟩ = (#[.int .i64 alg, .int .i64 N, .int .i64 mode, .int .i64 base, .int .i64 loc, .int .i64 room] : Array Value)[i]?) := fun w' hx => (b1.ext hx).cells
  cases hl : layM (treeWants (eachK alg) N) N mode base loc with
  | none =>
    rw [hl] at hMay
    clear hl
    go_region_held2 (fun w' => ∀ i, w'.cell? ⟨w.heap.size, i, none⟩ = (#[.int .i64 alg, .int .i64 N, .int .i64 mode, .int .i64 base, .int .i64 loc, .int .i64 room] : Array Value)[i]?) (exact hS _ hX)
      (first
        | (go_at_call 66
           refine (rtwants_r alg N _ (by omega)).mono ?_
           rintro e w2 ⟨v2, rfl, hw2, hx⟩
           replace hX := hX.trans hx
           clear hx)
        | (go_at_call 33
           refine (hMay v2 _ (hw2.ext (Ext.refl _))).mono ?_
           rintro e w3 ⟨rfl, hx⟩
           replace hX := hX.trans hx
           clear hx))
    rename_i hh
    clear hh
    clear hw2
    go_wp2_with fail
    refine (alive30 _).mono ?_
    rintro e w7 ⟨rfl, hx7⟩
    have hf := Lib.hid (hXV.trans (hX.trans hx7))
    go_wp2_with fail
    go_ret
    exact ⟨rfl, hf.out⟩
  | some rs =>
    rw [hl] at hMay
    have hlh := Lib.hid hl
    clear hl
    go_region_held2 (fun w' => ∀ i, w'.cell? ⟨w.heap.size, i, none⟩ = (#[.int .i64 alg, .int .i64 N, .int .i64 mode, .int .i64 base, .int .i64 loc, .int .i64 room] : Array Value)[i]?) (exact hS _ hX)
      (first
        | (go_at_call 66
           refine (rtwants_r alg N _ (by omega)).mono ?_
           rintro e w2 ⟨v2, rfl, hw2, hx⟩
           replace hX := hX.trans hx
           clear hx)
        | (go_at_call 33
           refine (hMay v2 _ (hw2.ext (Ext.refl _))).mono ?_
           rintro e w3 ⟨rfl, hx⟩
           replace hX := hX.trans hx
           clear hx))
    rename_i hh
    clear hh
    clear hw2
    replace b1 := b1.ext hX
    replace hXV := hXV.trans hX
    clear hX hS hMay
    generalize V0.drew = V at *
    have c_b1 := b1.cells
    obtain ⟨m, hm1, hme⟩ := me_at me N n1 n2
    have hmr := fun w => me_r alg mode base loc room me N w n1 n2
    rw [hme] at hmr
    clear hme
    go_wp2_with fail
    refine (hmr _).mono ?_
    rintro e w3 ⟨rfl, hx⟩
    replace b1 := b1.ext hx
    replace hXV := hXV.trans hx
    clear c_b1 hx hmr
    have g2 := Blk.new w3 (.cells #[.int .i64 m] 3)
    replace b1 := b1.alloc (.cells #[.int .i64 m] 3)
    replace hXV := hXV.alloc (.cells #[.int .i64 m] 3)
    go_wp2_with fail
    generalize hz3 : w3.heap.size = bt at *
    generalize w3.alloc _ = W1 at *
    clear hz3
    refine (tame_r _ La 1048576 _ (hA.ext hXV)).mono ?_
    rintro e wA ⟨va, rfl, hra, hxa⟩
    go_wp2_with fail
    refine (tame_r _ Ll 1024 _ (hL.ext (hXV.trans hxa))).mono ?_
    rintro e wB ⟨vl, rfl, hrl, hxl⟩
    have hE := hxa.trans hxl
    have hIa := hra.ints.ext hxl
    have hIl := hrl.ints
    have hba : ∀ k, va.ownBlock = some k → k < wB.heap.size := fun k hk => Nat.lt_of_lt_of_le (hra.lt k hk).2 hxl.size
    have la : (tameL La 1048576).length ≤ 1500 := by unfold tameL; simp; omega
    have ll : (tameL Ll 1024).length ≤ 1000 := by unfold tameL; simp; omega
    clear hra hrl hxa hxl hL hA
    generalize tameL La 1048576 = a at *
    generalize tameL Ll 1024 = l at *
    obtain ⟨Aq, cq, rfl, _, _⟩ := hIa.slice
    obtain ⟨Al', cl', rfl, _, _⟩ := hIl.slice
    have hleft : (TS0 l a).left < a.length + 1 := by unfold TS.left TS0; simp
    have hok := tree_all hlh.out hm1
    have hPl := play_err 69 #[.pointer (some ⟨w.heap.size, 0, none⟩), .pointer (some ⟨bt, 0, none⟩)] (treeA (eachK alg) (a.length + 1) rs N m) Al' cl' l Aq cq a wB hIl (by omega) hIa (by unfold maxAns; omega) hba (fun _ _ => rfl) (fun W p hxW hP =>
      treeclA _ p N (a.length + 1) _ alg mode base loc room m rs w.heap.size bt W hP n1 n2 hm1 hlh.out hok hleft rfl ((b1.ext (hE.trans hxW)).cells) ((g2.ext (hE.trans hxW)).cells 0))
    have hIah := Lib.hid hIa
    have hIlh := Lib.hid hIl
    have hokh := Lib.hid hok
    clear hIa hIl hok
    go_wp2_with fail
    refine hPl.mono ?_
    rintro e w7 ⟨v3, rfl, hO, hx7⟩
    generalize hr : (treeA (eachK alg) (a.length + 1) rs N m).run (TS0 l a) = r at hO ⊢
    clear hPl
    generalize hq : r.1.getD 0 = q
    have hOh := Lib.hid hO
    obtain ⟨A3, c3, A3', c3', As3, k3, n3, rfl⟩ := hO.parts
    clear hO
    go_wp2_with fail
    have g3 := Blk.new w7 (.cells #[.bool r.fst.isSome, .slice A3 r.snd.acc.length c3, .slice A3' r.snd.nts.length c3', .slice As3 n3 k3] 36)
    have x2 := hx7.alloc (.cells #[.bool r.fst.isSome, .slice A3 r.snd.acc.length c3, .slice A3' r.snd.nts.length c3', .slice As3 n3 k3] 36)
    have hOh2 := Lib.hid (hOh.out.ext ((Ext.refl w7).alloc (.cells #[.bool r.fst.isSome, .slice A3 r.snd.acc.length c3, .slice A3' r.snd.nts.length c3', .slice As3 n3 k3] 36)))
    clear hOh hx7
    generalize hz7 : w7.heap.size = b3 at *
    clear hz7
    generalize World.alloc w7 _ = W2 at *
    have hN := new_any Al' cl' l Aq cq a W2 (hIlh.out.ext x2) (hIah.out.ext x2) (by omega) (by unfold maxAns; omega) (fun k hk => Nat.lt_of_lt_of_le (hba k hk) x2.size)
    refine hN.mono ?_
    rintro e w8 ⟨pm, rfl, hR, hx8⟩
    have y2 := g2.ext (hE.trans (x2.trans hx8))
    have y3 := b1.ext (hE.trans (x2.trans hx8))
    have c_y2 := y2.cells
    have c_y3 := y3.cells
    clear hN
    go_wp2_with fail
    refine (treeacq_r W2.heap.size pm N (a.length + 1) false (TS0 l a) alg mode base loc room m rs w8 hR n1 (by omega) hm1 hlh.out hokh.out hleft rfl).mono ?_
    rintro e w9 ⟨u, o', S', rfl, hRef, hR9, hK9⟩
    have hx9 : Ext W2 w9 := Below.trans hx8 hK9.below
    clear y2 y3 c_y2 c_y3
    have hrun := hRef.outcome
    rw [hr] at hrun
    have hsome : r.1.isSome = !o' := by rw [hrun]; cases o' <;> rfl
    have hS2 : r.2 = S' := by rw [hrun]
    have hO9 := hOh2.out.ext hx9
    rw [hsome, hS2] at hO9 g3
    clear hrun hRef hsome hS2 hq hr hR hK9 hx8 hOh2
    replace g3 := g3.ext hx9
    have x3 := x2.trans hx9
    clear x2 hx9
    have hOp := Lib.hid hO9
    have hRp := Lib.hid hR9
    clear hO9 hR9
    have y2 := g2.ext (hE.trans x3)
    have y3 := b1.ext (hE.trans x3)
    have y5 := y3
    have y7 := y2
    have hbb : ∀ k, (Value.slice Aq a.length cq).ownBlock = some k → k < w9.heap.size := fun k hk => Nat.lt_of_lt_of_le (hba k hk) x3.size
    have hXf := hXV.trans (hE.trans x3)
    have hPl := play_int 72 #[.pointer (some ⟨w.heap.size, 0, none⟩), .pointer (some ⟨bt, 0, none⟩)] ((treeR (eachK alg) rs N m).bind fun _ => .ret 0) Al' cl' l Aq cq a w9 (hIlh.out.ext x3) (by omega) (hIah.out.ext x3) (by unfold maxAns; omega) hbb (fun _ _ => rfl) (fun W p hxW hP =>
      treeclR _ p N _ alg mode base loc room m rs w.heap.size bt W hP n1 n2 hm1 hlh.out hokh.out rfl ((y3.ext hxW).cells) ((y2.ext hxW).cells 0))
    clear g2 b1 hE hXV
    have hI2 := Lib.hid (hIah.out.ext x3)
    have hI3 := Lib.hid (hIlh.out.ext x3)
    clear hIah hIlh hba x3
    go_wp2_with fail
    refine hPl.mono ?_
    rintro e wa ⟨v6, rfl, hO, hx7⟩
    generalize hr : ((treeR (eachK alg) rs N m).bind fun _ => Prog.ret (0 : Int)).run (TS0 l a) = r2 at hO ⊢
    clear hPl
    generalize hq : r2.1.getD 0 = qq
    have hOh := Lib.hid hO
    obtain ⟨A6, c6, A6', c6', As6, k6, n6, rfl⟩ := hO.parts
    clear hO
    go_wp2_with fail
    have g6 := Blk.new wa (.cells #[.bool r2.fst.isSome, .slice A6 r2.snd.acc.length c6, .slice A6' r2.snd.nts.length c6', .slice As6 n6 k6] 36)
    have x2 := hx7.alloc (.cells #[.bool r2.fst.isSome, .slice A6 r2.snd.acc.length c6, .slice A6' r2.snd.nts.length c6', .slice As6 n6 k6] 36)
    have hOh2 := Lib.hid (hOh.out.ext ((Ext.refl wa).alloc (.cells #[.bool r2.fst.isSome, .slice A6 r2.snd.acc.length c6, .slice A6' r2.snd.nts.length c6', .slice As6 n6 k6] 36)))
    clear hOh hx7
    generalize hza : wa.heap.size = b6 at *
    clear hza
    generalize World.alloc wa _ = W3 at *
    have hN := new_any Al' cl' l Aq cq a W3 (hI3.out.ext x2) (hI2.out.ext x2) (by omega) (by unfold maxAns; omega) (fun k hk => Nat.lt_of_lt_of_le (hbb k hk) x2.size)
    refine hN.mono ?_
    rintro e wb ⟨pn, rfl, hR, hx8⟩
    replace y2 := y2.ext (x2.trans hx8)
    replace y3 := y3.ext (x2.trans hx8)
    have c_y2 := y2.cells
    have c_y3 := y3.cells
    clear hN
    go_wp2_with fail
    refine (treerel_r W3.heap.size pn N false (TS0 l a) alg mode base loc room m rs wb hR n1 (by omega) hm1 hlh.out hokh.out rfl).mono ?_
    rintro e wc ⟨u2, o6, S6, rfl, hRef, hR9, hK9⟩
    have hx9 : Ext W3 wc := Below.trans hx8 hK9.below
    have hrun := (Ref.bind (f := fun _ => Prog.ret (0 : Int)) hRef (Ref.ret (0 : Int) o6 S6)).outcome
    rw [hr] at hrun
    have hsome : r2.1.isSome = !o6 := by rw [hrun]; cases o6 <;> rfl
    have hS2 : r2.2 = S6 := by rw [hrun]
    have hO9 := hOh2.out.ext hx9
    rw [hsome, hS2] at hO9 g6
    have y4 := y5.ext (x2.trans hx9)
    have y8 := y7.ext (x2.trans hx9)
    clear y5 y7
    clear hrun hRef hsome hS2 hq hr hR hK9 hx8 hOh2 y2 y3 c_y2 c_y3
    replace g6 := g6.ext hx9
    have x3 := x2.trans hx9
    replace g3 := g3.ext x3
    have hOq := Lib.hid hO9
    have hRq := Lib.hid hR9
    have hRp2 := Lib.hid (hRp.out.ext x3)
    have hOp2 := Lib.hid (hOp.out.ext x3)
    have hXg := Lib.hid (hXf.trans x3)
    have hJ2 := hI2.out.ext x3
    have hJ3 := hI3.out.ext x3
    have hbc : ∀ k, (Value.slice Aq a.length cq).ownBlock = some k → k < wc.heap.size := fun k hk => Nat.lt_of_lt_of_le (hbb k hk) x3.size
    have hF := Lib.hid (fun (w' : World) (hx : Ext wc w') => And.intro (y4.ext hx) (And.intro (y8.ext hx) (And.intro (g3.ext hx) (And.intro (g6.ext hx) (And.intro (hOq.out.ext hx) (And.intro (hRq.out.ext hx) (And.intro (hRp2.out.ext hx) (And.intro (hOp2.out.ext hx) (And.intro (hXg.out.trans hx) (And.intro (hJ2.ext hx) (hJ3.ext hx)))))))))))
    have c_y4 := y4.cells
    clear hO9 hR9 hRp hOp hXf x2 x3 hx9 hI2 hI3 hbb hOq hRq hRp2 hOp2 hXg hJ2 hJ3 g3 g6 y8
    have hlen := layM_len hlh.out
    unfold treeWants at hlen
    rw [List.length_replicate] at hlen
    have hlenh := Lib.hid hlen
    clear hlen
    go_wp2_with fail
    refine (treeregs_r alg mode base loc room N rs _ n1 (by omega) hlh.out).mono ?_
    rintro e wd ⟨Ar, cr, rfl, hRg, r1, r2, hxd⟩
    clear c_y4 y4
    have zl := Blk.new wd (.cells #[.slice Ar rs.length cr] 28)
    have hxe := hxd.alloc (.cells #[.slice Ar rs.length cr] 28)
    have hRg2 : rs ≠ [] → ∃ b, Ar = some ⟨b, 0, none⟩ ∧ b < (wd.alloc (.cells #[.slice Ar rs.length cr] 28)).heap.size ∧ (∀ (i : Nat) u, (rs.flatMap regVals)[i]? = some u → (wd.alloc (.cells #[.slice Ar rs.length cr] 28)).cell? ⟨b, i, none⟩ = some u) := fun hne => by
      obtain ⟨b, e1, _, hb, hc⟩ := hRg hne
      have hx1 := (Ext.refl wd).alloc (.cells #[.slice Ar rs.length cr] 28)
      exact ⟨b, e1, Nat.lt_of_lt_of_le hb hx1.size, fun j u hu => (hx1.cell (p := ⟨b, j, none⟩) hb).trans (hc j u hu)⟩
    have hRgh := Lib.hid hRg2
    clear hRg hRg2 hxd
    go_wp2_with fail
    generalize hzd : wd.heap.size = lb at *
    generalize wd.alloc _ = V3 at *
    clear hzd
    obtain ⟨y4, y8, -, -, -, -, -, -, -, hJ2, hJ3⟩ := hF.out V3 hxe
    have hbd : ∀ k, (Value.slice Aq a.length cq).ownBlock = some k → k < V3.heap.size := fun k hk => Nat.lt_of_lt_of_le (hbc k hk) hxe.size
    have hPl := play_int 76 #[.pointer (some ⟨lb, 0, none⟩), .pointer (some ⟨w.heap.size, 0, none⟩), .pointer (some ⟨bt, 0, none⟩)] (treeC (eachK alg) (a.length + 1) rs N m) Al' cl' l Aq cq a V3 hJ3 (by omega) hJ2 (by unfold maxAns; omega) hbd (fun _ _ => rfl) (fun W p hxW hP =>
      treeclC _ p N (a.length + 1) _ alg mode base loc room m rs w.heap.size bt lb Ar cr W hP n1 n2 hm1 hlenh.out r1 r2 (fun hne => by
        obtain ⟨b, e1, hb, hc⟩ := hRgh.out hne
        exact ⟨b, e1, regsP hb hc hxW hP (Nat.le_refl _)⟩) hokh.out hleft ((y4.ext hxW).cells) ((y8.ext hxW).cells 0) ((zl.ext hxW).cells 0) y4.lt y8.lt zl.lt)
    have hJ2h := Lib.hid hJ2
    have hJ3h := Lib.hid hJ3
    clear hJ2 hJ3 y4 y8
    refine hPl.mono ?_
    rintro e wf ⟨v9, rfl, hO, hx7⟩
    generalize hr : (treeC (eachK alg) (a.length + 1) rs N m).run (TS0 l a) = r3 at hO ⊢
    clear hPl
    generalize hq : r3.1.getD 0 = qq3
    have hOh := Lib.hid hO
    obtain ⟨A9, c9, A9', c9', As9, k9, n9, rfl⟩ := hO.parts
    clear hO
    go_wp2_with fail
    have g9 := Blk.new wf (.cells #[.bool r3.fst.isSome, .slice A9 r3.snd.acc.length c9, .slice A9' r3.snd.nts.length c9', .slice As9 n9 k9] 36)
    have x2 := hx7.alloc (.cells #[.bool r3.fst.isSome, .slice A9 r3.snd.acc.length c9, .slice A9' r3.snd.nts.length c9', .slice As9 n9 k9] 36)
    have hOh2 := Lib.hid (hOh.out.ext ((Ext.refl wf).alloc (.cells #[.bool r3.fst.isSome, .slice A9 r3.snd.acc.length c9, .slice A9' r3.snd.nts.length c9', .slice As9 n9 k9] 36)))
    clear hOh hx7
    generalize hzf : wf.heap.size = b9 at *
    clear hzf
    generalize World.alloc wf _ = W4 at *
    have hN := new_any Al' cl' l Aq cq a W4 (hJ3h.out.ext x2) (hJ2h.out.ext x2) (by omega) (by unfold maxAns; omega) (fun k hk => Nat.lt_of_lt_of_le (hbd k hk) x2.size)
    refine hN.mono ?_
    rintro e wg ⟨px, rfl, hR, hx8⟩
    have hx8' := hxe.trans (x2.trans hx8)
    obtain ⟨y4, y8, -, -, -, -, -, -, -, -, -⟩ := hF.out wg hx8'
    have c_y4 := y4.cells
    have c_y8 := y8.cells
    have z2 := zl.ext (x2.trans hx8)
    have c_z2 := z2.cells
    have hreg : rs ≠ [] → ∃ b, Ar = some ⟨b, 0, none⟩ ∧ RegsAt [3, 4, 5] wg px b rs := fun hne => by
      obtain ⟨b, e1, hb, hc⟩ := hRgh.out hne
      exact ⟨b, e1, regsR hb hc (x2.trans hx8) hR x2.size⟩
    clear hN
    go_wp2_with fail
    refine (rclimb_r W4.heap.size px (a.length + 1) false (TS0 l a) alg N m m rs Ar cr wg hR n1 (by omega) hm1 hlenh.out r1 r2 hreg hokh.out (by omega) hleft).mono ?_
    rintro e wh ⟨u9, o9, S9, rfl, hRef9, hR9, hK9⟩
    have hx9 : Ext W4 wh := Below.trans hx8 hK9.below
    have hreg2 : rs ≠ [] → ∃ b, Ar = some ⟨b, 0, none⟩ ∧ RegsAt [3, 4, 5] wh px b rs := fun hne => by
      obtain ⟨b, e1, e2⟩ := hreg hne
      exact ⟨b, e1, e2.keep hK9⟩
    obtain ⟨y5, y9, -, -, -, -, -, -, -, -, -⟩ := hF.out wh (hxe.trans (x2.trans hx9))
    have z3 := zl.ext (x2.trans hx9)
    clear c_y4 c_y8 c_z2 y4 y8 z2 zl hreg hK9 hx8 hx8' hR
    have c_y5 := y5.cells
    have c_y9 := y9.cells
    have c_z3 := z3.cells
    obtain ⟨_, _, _, _, _, hcc⟩ := hR9.cell
    cases o9 with
    | true =>
      have hrun := (Ref.bind (f := fun _ => (forP (fun x _ => nodeL (eachK alg) rs m x) (pathL N m).reverse ()).bind fun _ => Prog.ret (0 : Int)) hRef9 (Ref.over S9 (0 : Int))).outcome
      replace hrun : r3 = _ := hr.symm.trans hrun
      have hsome : r3.1.isSome = !true := by rw [hrun]; rfl
      have hS2 : r3.2 = S9 := by rw [hrun]
      have hO9 := hOh2.out.ext hx9
      rw [hsome, hS2] at hO9 g9
      have g9 := g9.ext hx9
      obtain ⟨-, -, g3, g6, hOq, hRq, hRp, hOp, hXg, -, -⟩ := hF.out wh (hxe.trans (x2.trans hx9))
      have hOqh := Lib.hid hOq
      have hRqh := Lib.hid hRq
      have hRph := Lib.hid hRp
      have hOph := Lib.hid hOp
      have hXgh := Lib.hid hXg
      have hO9h := Lib.hid hO9
      have hR9h := Lib.hid hR9
      clear hOq hRq hRp hOp hXg hO9 hR9 hrun hsome hS2 hr hq hOh2 hF hRgh hbd hJ2h hJ3h hbc hreg2 hRef9
      go_wp2_with fail
      have hE := (Ext.refl wh).drew
      have hS : ∀ w', Ext wh w' → (∀ i, w'.cell? ⟨b3, i, none⟩ = (#[.bool (!o'), .slice A3 S'.acc.length c3, .slice A3' S'.nts.length c3', .slice As3 n3 k3] : Array Value)[i]?) ∧ (∀ i, w'.cell? ⟨b6, i, none⟩ = (#[.bool (!o6), .slice A6 S6.acc.length c6, .slice A6' S6.nts.length c6', .slice As6 n6 k6] : Array Value)[i]?) ∧ (∀ i, w'.cell? ⟨b9, i, none⟩ = (#[.bool (!true), .slice A9 S9.acc.length c9, .slice A9' S9.nts.length c9', .slice As9 n9 k9] : Array Value)[i]?) := fun w' hx => ⟨(g3.ext hx).cells, (g6.ext hx).cells, (g9.ext hx).cells⟩
      go_region_held2 (fun w' => (∀ i, w'.cell? ⟨b3, i, none⟩ = (#[.bool (!o'), .slice A3 S'.acc.length c3, .slice A3' S'.nts.length c3', .slice As3 n3 k3] : Array Value)[i]?) ∧ (∀ i, w'.cell? ⟨b6, i, none⟩ = (#[.bool (!o6), .slice A6 S6.acc.length c6, .slice A6' S6.nts.length c6', .slice As6 n6 k6] : Array Value)[i]?) ∧ (∀ i, w'.cell? ⟨b9, i, none⟩ = (#[.bool (!true), .slice A9 S9.acc.length c9, .slice A9' S9.nts.length c9', .slice As9 n9 k9] : Array Value)[i]?)) (exact hS _ hE)
        (first
          | (go_at_call_of 23 (Value.pointer (some (⟨pm, 0, none⟩ : Addr)))
             refine (dout_r _ pm o' S' _ (hRph.out.ext hE)).mono ?_
             rintro e wk1 ⟨vo1, rfl, hOx, hxd⟩
             replace hE := hE.trans hxd)
          | (go_at_call_of 23 (Value.pointer (some (⟨pn, 0, none⟩ : Addr)))
             refine (dout_r _ pn o6 S6 _ (hRqh.out.ext hE)).mono ?_
             rintro e wk2 ⟨vo2, rfl, hOy, hxe2⟩
             replace hE := hE.trans hxe2)
          | (go_at_call_of 23 (Value.pointer (some (⟨px, 0, none⟩ : Addr)))
             refine (dout_r _ px true S9 _ (hR9h.out.ext hE)).mono ?_
             rintro e wk3 ⟨vo3, rfl, hOz, hxe3⟩
             replace hE := hE.trans hxe3)
          | (go_at_call_of 22 vo1
             refine (same_r _ _ (!o') S' _ (hOph.out.ext hE) hOx).mono ?_
             rintro e wk4 ⟨rfl, hxf⟩
             replace hE := hE.trans hxf)
          | (go_at_call_of 22 vo2
             refine (same_r _ _ (!o6) S6 _ (hOqh.out.ext hE) hOy).mono ?_
             rintro e wk5 ⟨rfl, hxf2⟩
             replace hE := hE.trans hxf2)
          | (go_at_call_of 22 vo3
             refine (same_r _ _ (!true) S9 _ (hO9h.out.ext hE) hOz).mono ?_
             rintro e wk6 ⟨rfl, hxf3⟩
             replace hE := hE.trans hxf3)
          | (go_at_call 65
             refine (alive30 _).mono ?_
             rintro e wk7 ⟨rfl, hxg⟩
             replace hE := hE.trans hxg))
      have hf := Lib.hid (hXgh.out.trans hE)
      go_wp2_with fail
      go_ret
      exact ⟨rfl, hf.out⟩
    | false =>
      go_wp2_with fail
      refine (rdown_r W4.heap.size px false S9 alg N m m rs Ar cr wh hR9 n1 (by omega) hm1 hlenh.out r1 r2 hreg2 hokh.out (by omega)).mono ?_
      rintro e wi ⟨ua, oa, Sa, rfl, hRefa, hRa, hKa⟩
      have hxa : Ext W4 wi := Below.trans hx9 hKa.below
      have hrun := (Ref.bind (f := fun _ => (forP (fun x _ => nodeL (eachK alg) rs m x) (pathL N m).reverse ()).bind fun _ => Prog.ret (0 : Int)) hRef9 (Ref.bind (f := fun _ => Prog.ret (0 : Int)) hRefa (Ref.ret (0 : Int) oa Sa))).outcome
      replace hrun : r3 = _ := hr.symm.trans hrun
      clear hKa hRefa hx9 y5 y9 z3 c_y5 c_y9 c_z3 hcc hR9
      have hsome : r3.1.isSome = !oa := by rw [hrun]; cases oa <;> rfl
      have hS2 : r3.2 = Sa := by rw [hrun]
      have hO9 := hOh2.out.ext hxa
      rw [hsome, hS2] at hO9 g9
      have g9 := g9.ext hxa
      obtain ⟨-, -, g3, g6, hOq, hRq, hRp, hOp, hXg, -, -⟩ := hF.out wi (hxe.trans (x2.trans hxa))
      have hOqh := Lib.hid hOq
      have hRqh := Lib.hid hRq
      have hRph := Lib.hid hRp
      have hOph := Lib.hid hOp
      have hXgh := Lib.hid hXg
      have hO9h := Lib.hid hO9
      have hR9h := Lib.hid hRa
      clear hOq hRq hRp hOp hXg hO9 hRa hrun hsome hS2 hr hq hOh2 hF hRgh hbd hJ2h hJ3h hbc hreg2 hRef9
      go_wp2_with fail
      have hE := (Ext.refl wi).drew
      have hS : ∀ w', Ext wi w' → (∀ i, w'.cell? ⟨b3, i, none⟩ = (#[.bool (!o'), .slice A3 S'.acc.length c3, .slice A3' S'.nts.length c3', .slice As3 n3 k3] : Array Value)[i]?) ∧ (∀ i, w'.cell? ⟨b6, i, none⟩ = (#[.bool (!o6), .slice A6 S6.acc.length c6, .slice A6' S6.nts.length c6', .slice As6 n6 k6] : Array Value)[i]?) ∧ (∀ i, w'.cell? ⟨b9, i, none⟩ = (#[.bool (!oa), .slice A9 Sa.acc.length c9, .slice A9' Sa.nts.length c9', .slice As9 n9 k9] : Array Value)[i]?) := fun w' hx => ⟨(g3.ext hx).cells, (g6.ext hx).cells, (g9.ext hx).cells⟩
      go_region_held2 (fun w' => (∀ i, w'.cell? ⟨b3, i, none⟩ = (#[.bool (!o'), .slice A3 S'.acc.length c3, .slice A3' S'.nts.length c3', .slice As3 n3 k3] : Array Value)[i]?) ∧ (∀ i, w'.cell? ⟨b6, i, none⟩ = (#[.bool (!o6), .slice A6 S6.acc.length c6, .slice A6' S6.nts.length c6', .slice As6 n6 k6] : Array Value)[i]?) ∧ (∀ i, w'.cell? ⟨b9, i, none⟩ = (#[.bool (!oa), .slice A9 Sa.acc.length c9, .slice A9' Sa.nts.length c9', .slice As9 n9 k9] : Array Value)[i]?)) (exact hS _ hE)
        (first
          | (go_at_call_of 23 (Value.pointer (some (⟨pm, 0, none⟩ : Addr)))
             refine (dout_r _ pm o' S' _ (hRph.out.ext hE)).mono ?_
             rintro e wk1 ⟨vo1, rfl, hOx, hxd⟩
             replace hE := hE.trans hxd)
          | (go_at_call_of 23 (Value.pointer (some (⟨pn, 0, none⟩ : Addr)))
             refine (dout_r _ pn o6 S6 _ (hRqh.out.ext hE)).mono ?_
             rintro e wk2 ⟨vo2, rfl, hOy, hxe2⟩
             replace hE := hE.trans hxe2)
          | (go_at_call_of 23 (Value.pointer (some (⟨px, 0, none⟩ : Addr)))
             refine (dout_r _ px oa Sa _ (hR9h.out.ext hE)).mono ?_
             rintro e wk3 ⟨vo3, rfl, hOz, hxe3⟩
             replace hE := hE.trans hxe3)
          | (go_at_call_of 22 vo1
             refine (same_r _ _ (!o') S' _ (hOph.out.ext hE) hOx).mono ?_
             rintro e wk4 ⟨rfl, hxf⟩
             replace hE := hE.trans hxf)
          | (go_at_call_of 22 vo2
             refine (same_r _ _ (!o6) S6 _ (hOqh.out.ext hE) hOy).mono ?_
             rintro e wk5 ⟨rfl, hxf2⟩
             replace hE := hE.trans hxf2)
          | (go_at_call_of 22 vo3
             refine (same_r _ _ (!oa) Sa _ (hO9h.out.ext hE) hOz).mono ?_
             rintro e wk6 ⟨rfl, hxf3⟩
             replace hE := hE.trans hxf3)
          | (go_at_call 65
             refine (alive30 _).mono ?_
             rintro e wk7 ⟨rfl, hxg⟩
             replace hE := hE.trans hxg))
      have hf := Lib.hid (hXgh.out.trans hE)
      go_wp2_with fail
      go_ret
      exact ⟨rfl, hf.out⟩
end Go.Proofs.YtpcohbpeglledaaGreat
/-
  TreePlays: the input opened.
-/
namespace Go.Proofs.YtpcohbpeglledaaGreat.treePlays
open Go.ChangeShapes Go.WideShapes Go.ChangeAt Go.RowKit Kv
set_option maxRecDepth 100000 in
theorem main (H : Type) (enc : TypeId × Value → H) (W : World) (base : Nat) (args : Array Value) (ds : List (DataW H)) (p : List MemPlace)
    (hval : ∀ (j : Nat) t v, Tryz.f9.params[j]? = some t → args[j]? = some v → Value.okWide Tryz.prog W .any base t v)
    (hA : DataW.TrodAll enc Tryz.prog W 0 (fun _ => true) true Tryz.f9.params.toList args.toList ds p) (_hL : laidMetH Tryz.prog Rows.treePlaysRow.laid W) :
    Calls Tryz.prog 9 args W fun e w' => e = .returned (.bool true) ∧ Ext W w' := by
  rw [Tryz.params9] at hA hval
  obtain ⟨v0, vs0, d0, ds0, p0, q0, hargs, rfl, rfl, h0, r0⟩ := trodAll_cons hA
  obtain ⟨v1, vs1, d1, ds1, p1, q1, rfl, rfl, rfl, h1, r1⟩ := trodAll_cons r0
  obtain ⟨v2, vs2, d2, ds2, p2, q2, rfl, rfl, rfl, h2, r2⟩ := trodAll_cons r1
  obtain ⟨v3, vs3, d3, ds3, p3, q3, rfl, rfl, rfl, h3, r3⟩ := trodAll_cons r2
  obtain ⟨rfl, rfl, rfl⟩ := trodAll_nil r3
  obtain rfl : args = #[v0, v1, v2, v3] := by cases args; simp_all
  obtain ⟨c0, c1, c2, c3, c4, c5, y0, y1, y2, y3, y4, y5, m, rfl, g0, g1, g2, g3, g4, g5⟩ := open_agg6 Tryz.underlying52 (by kernel_rfl) (by kernel_rfl) (hval 0 52 v0 rfl rfl) h0
  obtain ⟨x0, e0, -, -⟩ := DataW.trod_int Tryz.underlying3 g0
  obtain ⟨x1, e1, -, -⟩ := DataW.trod_int Tryz.underlying3 g1
  obtain ⟨x2, e2, -, -⟩ := DataW.trod_int Tryz.underlying3 g2
  obtain ⟨x3, e3, -, -⟩ := DataW.trod_int Tryz.underlying3 g3
  obtain ⟨x4, e4, -, -⟩ := DataW.trod_int Tryz.underlying3 g4
  obtain ⟨x5, e5, -, -⟩ := DataW.trod_int Tryz.underlying3 g5
  obtain ⟨Ll, hL, -⟩ := ints_arg (hval 2 22 v2 rfl rfl) h2
  obtain ⟨La, hLa, -⟩ := ints_arg (hval 3 22 v3 rfl rfl) h3
  obtain ⟨x6, rfl, rfl, rfl, -⟩ := open_int Tryz.underlying3 (hval 1 3 v1 rfl rfl) h1
  simp at e0 e1 e2 e3 e4 e5
  subst e0 e1 e2 e3 e4 e5
  exact tree_walk x0 x1 x2 x3 x4 x5 x6 v2 v3 Ll La W hL hLa
end Go.Proofs.YtpcohbpeglledaaGreat.treePlays
/-
  TreePlays holds: whoever acquires or releases a tournament does what the document says, access by access, whatever it is answered.
-/
namespace Go.Proofs.YtpcohbpeglledaaGreat.treePlays
open Go.ChangeShapes Go.WideShapes Go.ChangeAt Go.RowKit

theorem laidOut : laidOutB Tryz.prog = true := by kernel_rfl
set_option maxRecDepth 100000 in
theorem contract (H : Type) (enc : TypeId × Value → H) (W : World) (base : Nat) (args : Array Value) (ds gs : List (DataW H)) (before : List MemPlace)
    (hval : ∀ (j : Nat) t v, Tryz.f9.params[j]? = some t → args[j]? = some v → Value.okWide Tryz.prog W .any base t v)
    (hW : DataW.Whole enc Tryz.prog Tryz.f9.params.toList Rows.treePlaysSpec.vars false W args.toList ds gs before) (hL : laidMetH Tryz.prog Rows.treePlaysRow.laid W) :
    Calls Tryz.prog 9 args W fun e W' => ∃ v, e = .returned v ∧ Rows.treePlaysSpec.post enc Tryz.prog Tryz.f9 false true false false W args v W' := by
  refine (main H enc W base args ds before hval (by obtain ⟨p, q, hA, hV, hpq, _, _⟩ := hW; obtain ⟨_, rfl⟩ := trodVars_none hV; rw [List.append_nil] at hpq; subst hpq; exact hA) hL).mono fun e W' ⟨he, hg⟩ => ⟨_, he, ?_⟩
  refine law_post (tb := 4) laidOut ?_ (by kernel_rfl) Tryz.underlying4 rfl ?_ hW hg
  · rw [Tryz.params9]
    intro t ht
    simp only [List.mem_cons, List.not_mem_nil, or_false] at ht
    rcases ht with rfl | rfl | rfl | rfl <;> exact ⟨by kernel_rfl, of_decide_eq_true (by kernel_rfl)⟩
  · intro ds hl
    rw [Tryz.params9] at hl
    match ds, hl with
    | [d0, d1, d2, d3], _ => rfl
set_option maxRecDepth 100000 in
theorem laid_met (os : Os) : laidMet Tryz.prog Rows.treePlaysRow.laid (((World.holding Tryz.prog os ⟨#[], #[], []⟩)).forCall (fun _ _ => 0) ⟨#[], #[.agg #[.int .i64 0, .int .i64 0, .int .i64 0, .int .i64 0, .int .i64 0, .int .i64 0], .int .i64 0, .slice none 0 0, .slice none 0 0], []⟩).memory :=
  laidMet_of_run' 8 (by kernel_rfl) (by kernel_rfl)
set_option maxRecDepth 100000 in
theorem reads (os : Os) {H : Type} (enc : TypeId × Value → H) : ∃ places, DataW.whole enc Tryz.prog (((World.holding Tryz.prog os ⟨#[], #[], []⟩)).forCall (fun _ _ => 0) ⟨#[], #[.agg #[.int .i64 0, .int .i64 0, .int .i64 0, .int .i64 0, .int .i64 0, .int .i64 0], .int .i64 0, .slice none 0 0, .slice none 0 0], []⟩).memory Tryz.f9.params.toList Rows.treePlaysSpec.vars false (#[.agg #[.int .i64 0, .int .i64 0, .int .i64 0, .int .i64 0, .int .i64 0, .int .i64 0], .int .i64 0, .slice none 0 0, .slice none 0 0] : Array Value).toList 8 = some ([.agg [.lit (.int .i64 0), .lit (.int .i64 0), .lit (.int .i64 0), .lit (.int .i64 0), .lit (.int .i64 0), .lit (.int .i64 0)], .lit (.int .i64 0), .nil, .nil], [], places) :=
  ⟨[], by kernel_rfl⟩
set_option maxRecDepth 100000 in
theorem lifted (os : Os) (started : os.Started) (H : Type) (enc : TypeId × Value → H) (F : Stop.Interp) :
    ReturnsInHanded {} Tryz.checked os 9 .any ((OpenSpec.ofChange Rows.treePlaysSpec).preRow enc Tryz.prog Tryz.f9 Rows.treePlaysRow.domain false Rows.treePlaysRow.laid) (((OpenSpec.ofChange Rows.treePlaysSpec).at F).post enc Tryz.prog Tryz.f9 false true false false) := by
  obtain ⟨places, hx⟩ := reads os enc
  refine returnsInHanded_of_row (C := Tryz.checked) (s := (OpenSpec.ofChange Rows.treePlaysSpec)) own started (by kernel_rfl) Tryz.func9
    (witness_row_at (enc := enc) (C := Tryz.checked) false (World.holding Tryz.prog os ⟨#[], #[], []⟩) #[.agg #[.int .i64 0, .int .i64 0, .int .i64 0, .int .i64 0, .int .i64 0, .int .i64 0], .int .i64 0, .slice none 0 0, .slice none 0 0] rfl (by kernel_rfl) (by kernel_rfl) (by kernel_rfl)
      (OpenSpec.preRow_of_cond 8 hx (by kernel_rfl) (fun k hk => by cases hk) (by kernel_rfl) (laid_met os))) ?_
  intro W base args ds gs before hval hW _ _ _ hL _ _
  exact contract H enc W base args ds gs before hval hW hL
theorem said : Rows.TreePlaysSaid :=
  OpenClaim.holds_of_cond 9 Tryz.f9 rfl rfl rfl rfl rfl rfl rfl ⟨rfl, rfl, rfl, rfl, rfl⟩ rfl rfl rfl rfl rfl (by kernel_rfl) Tryz.func9 (by kernel_rfl)
    (of_decide_eq_true (by kernel_rfl)) (by unfold Func.isWrapper; first | (rw [if_pos (by decide +kernel)]; kernel_rfl) | (rw [if_neg (by decide +kernel)]; exact ⟨rfl, rfl⟩))
    (fun os started H enc _ F => by rw [OpenClaim.pre_eq_preRow]; exact lifted os started H enc F)

end Go.Proofs.YtpcohbpeglledaaGreat.treePlays
