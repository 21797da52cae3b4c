/-
  The wants of three locks, as the program and the document list them.
-/
import Derived.Test.YtpcohbpeglledaaGreatJB6
import Derived.Laws.AppendOwnNone
import Derived.Deep.DeepCutAuto
/-
  The wants of three locks, as the program and the document list them.
-/
namespace Kv
def filWant (N i : Nat) : Want := if i < N then ⟨i, N⟩ else ⟨-1, N⟩
def filWants (N : Nat) : List Want := (List.range (2 * N - 1)).map (filWant N)
def fastWant (N i : Nat) : Want := if i < 2 then ⟨-1, N⟩ else ⟨i - 2, 1⟩
def fastWants (N : Nat) : List Want := (List.range (N + 2)).map (fastWant N)
def bwWant (N i : Nat) : Want := if i = 0 then ⟨-1, 1⟩ else if i ≤ N then ⟨i - 1, 1⟩ else ⟨i - 1 - N, 4 * N⟩
def bwWants (N : Nat) : List Want := (List.range (2 * N + 1)).map (bwWant N)
end Kv
namespace Go.Proofs.YtpcohbpeglledaaGreat
open Go.RowKit Kv
/-- The first so many wants, as cells. -/
def wantRow (f : Nat → Want) (n : Nat) : List Value := ((List.range n).map f).flatMap wantVals
theorem wants_succ (f : Nat → Want) (j : Nat) : wantRow f (j + 1) = wantRow f j ++ wantVals (f j) := by
  unfold wantRow
  rw [List.range_succ, List.map_append, List.flatMap_append]
  simp
theorem wants_row {w : World} {B : Nat} {v : Value} {n : Nat} {f : Nat → Want} (h : w.ownsRow B 64 2 v n (wantRow f n)) : WantsAt w v ((List.range n).map f) := by
  have := Recs.of_row h
  unfold WantsAt
  rw [List.length_map, List.length_range]
  exact this
set_option maxRecDepth 100000 in
theorem filwants_p (N : Nat) (w : World) (h1 : 1 ≤ N) (h2 : N ≤ 8) : Calls Tryz.prog 44 #[.int .i64 N] w fun e w' => ∃ v, e = .returned v ∧ WantsAt w' v (filWants N) ∧ Ext w w' := by
  have hmx : min (max (N : Int) 1) 8 = N := by omega
  go_enter Tryz.func44, Tryz.ntmps44
  go_wp2_with fail
  go_loopw [3, 9] (fun v i wr => ∃ j : Nat, i = .int .i64 j ∧ j ≤ N ∧ wr.ownsRow w.heap.size 64 2 v j (wantRow (filWant N) j) ∧ Ext w wr) (fun _ i _ => N - (intOf i).toNat)
  case atStart => exact ⟨0, rfl, by omega, World.ownsRow_nil _ _ _ _, Ext.refl _⟩
  case round =>
    obtain ⟨j, rfl, hj, hown, hE⟩ := hrel
    by_cases hl : j < N
    · go_wp2_with (at_builtin; refine append_rec info_want Tryz.underlying25 rfl (by decide) (by decide) rfl _ _ rfl _ j _ [.int .i64 j, .int .i64 N] hE hown rfl rfl rfl (by simp [Value.oneCell']) (by omega) ?_)
      intro v' w' ho hx _
      have hoh := Lib.hid ho
      clear hown ho
      go_wp2_with fail
      refine ⟨⟨j + 1, by go_num, by omega, ?_, hx⟩, ?_⟩
      · rw [show (j + 1) = j + 1 from by omega, wants_succ]
        rw [show filWant N (j) = ⟨(j : Int), (N : Int)⟩ from by unfold filWant; rw [if_pos hl]]
        exact hoh.out
      · simp [intOf]; omega
    · obtain rfl : j = N := by omega
      have hsub := IntWalk.i64_in ((j : Int) - 1) (by omega)
      have hE0 := Lib.hid hE
      have hown0 := Lib.hid hown
      clear hown hE
      go_wp2_with fail
      clear hmx hsub
      go_loopw [3, 21] (fun v i wr => ∃ k : Nat, i = .int .i64 k ∧ k ≤ j - 1 ∧ wr.ownsRow w.heap.size 64 2 v (j + k) (wantRow (filWant j) (j + k)) ∧ Ext w wr) (fun _ i _ => (j - 1) - (intOf i).toNat)
      case atStart => exact ⟨0, rfl, by omega, hown0.out, hE0.out⟩
      case round =>
        clear hown0 hE0
        obtain ⟨k, rfl, hk, hown, hE⟩ := hrel
        by_cases hl : k < j - 1
        · have dl : decide ((k : Int) < (j : Int) - 1) = true := by rw [decide_eq_true_eq]; omega
          go_wp2_with (at_builtin; refine append_rec info_want Tryz.underlying25 rfl (by decide) (by decide) rfl _ _ rfl _ (j + k) _ [.int .i64 (-1), .int .i64 j] hE hown rfl rfl rfl (by simp [Value.oneCell']) (by omega) ?_)
          intro v' w' ho hx _
          have hoh := Lib.hid ho
          clear hown ho
          go_wp2_with fail
          refine ⟨⟨k + 1, by go_num, by omega, ?_, hx⟩, ?_⟩
          · rw [show j + (k + 1) = (j + k) + 1 from by omega, wants_succ]
            rw [show filWant j (j + k) = ⟨-1, (j : Int)⟩ from by unfold filWant; rw [if_neg (by omega)]]
            exact hoh.out
          · simp [intOf]; omega
        · have dl : decide ((k : Int) < (j : Int) - 1) = false := by rw [decide_eq_false_iff_not]; omega
          obtain rfl : k = j - 1 := by omega
          have hownh := Lib.hid hown
          clear hown
          go_wp2_with fail
          go_ret
          refine ⟨_, rfl, ?_, hE⟩
          have := hownh.out
          rw [show j + (j - 1) = 2 * j - 1 from by omega] at this
          exact wants_row this
set_option maxRecDepth 100000 in
theorem filwants_r (N : Nat) (w : World) (h1 : 1 ≤ N) (h2 : N ≤ 8) : Calls Tryz.prog 34 #[.int .i64 N] w fun e w' => ∃ v, e = .returned v ∧ WantsAt w' v (filWants N) ∧ Ext w w' := by
  have hN : nM (N : Int) = N := nM_id (by omega) (by omega)
  have hw2 := IntWalk.i64_in (2 * (N : Int)) (by omega)
  have hw3 := IntWalk.i64_in (2 * (N : Int) - 1) (by omega)
  go_enter Tryz.func34, Tryz.ntmps34
  go_wp2_with fail
  refine (rn_any ⟨0, 0, 0, N, 0, 0, 0⟩ _).mono ?_
  rintro e w1 ⟨rfl, hX⟩
  simp only
  rw [hN]
  clear hN
  have hX0 := Lib.hid hX
  clear hX
  go_wp2_with fail
  go_loopw [4, 5] (fun v i wr => ∃ j : Nat, i = .int .i64 j ∧ j ≤ 2 * N - 1 ∧ wr.ownsRow w.heap.size 64 2 v j (wantRow (filWant N) j) ∧ Ext w wr) (fun _ i _ => (2 * N - 1) - (intOf i).toNat)
  case atStart => exact ⟨0, rfl, by omega, World.ownsRow_nil _ _ _ _, hX0.out⟩
  case round =>
    clear hX0
    obtain ⟨j, rfl, hj, hown, hE⟩ := hrel
    by_cases hl : j < 2 * N - 1
    · have dl : decide ((j : Int) < 2 * (N : Int) - 1) = true := by rw [decide_eq_true_eq]; omega
      by_cases hn : j < N
      · go_wp2_with (at_builtin; refine append_rec info_want Tryz.underlying25 rfl (by decide) (by decide) rfl _ _ rfl _ j _ [.int .i64 j, .int .i64 N] hE hown rfl rfl rfl (by simp [Value.oneCell']) (by omega) ?_)
        intro v' w' ho hx _
        have hoh := Lib.hid ho
        clear hown ho
        go_wp2_with fail
        refine ⟨⟨j + 1, by go_num, by omega, ?_, hx⟩, ?_⟩
        · rw [show (j + 1) = j + 1 from by omega, wants_succ]
          rw [show filWant N (j) = ⟨(j : Int), (N : Int)⟩ from by unfold filWant; rw [if_pos hn]]
          exact hoh.out
        · simp [intOf]; omega
      · go_wp2_with (at_builtin; refine append_rec info_want Tryz.underlying25 rfl (by decide) (by decide) rfl _ _ rfl _ j _ [.int .i64 (-1), .int .i64 N] hE hown rfl rfl rfl (by simp [Value.oneCell']) (by omega) ?_)
        intro v' w' ho hx _
        have hoh := Lib.hid ho
        clear hown ho
        go_wp2_with fail
        refine ⟨⟨j + 1, by go_num, by omega, ?_, hx⟩, ?_⟩
        · rw [show (j + 1) = j + 1 from by omega, wants_succ]
          rw [show filWant N (j) = ⟨-1, (N : Int)⟩ from by unfold filWant; rw [if_neg hn]]
          exact hoh.out
        · simp [intOf]; omega
    · have dl : decide ((j : Int) < 2 * (N : Int) - 1) = false := by rw [decide_eq_false_iff_not]; omega
      obtain rfl : j = 2 * N - 1 := by omega
      have hownh := Lib.hid hown
      clear hown
      go_wp2_with fail
      go_ret
      exact ⟨_, rfl, wants_row hownh.out, hE⟩
set_option maxRecDepth 100000 in
theorem fastwants_p (N : Nat) (w : World) (h1 : 1 ≤ N) (h2 : N ≤ 8) : Calls Tryz.prog 53 #[.int .i64 N] w fun e w' => ∃ v, e = .returned v ∧ WantsAt w' v (fastWants N) ∧ Ext w w' := by
  have hmx : min (max (N : Int) 1) 8 = N := by omega
  have hr0 := Lib.hid (row_new w [.int .i64 (-1), .int .i64 N, .int .i64 (-1), .int .i64 N] 64 2 2 rfl (by omega))
  have hx0 := Lib.hid ((Ext.refl w).alloc (.cells [.int .i64 (-1), .int .i64 (N : Int), .int .i64 (-1), .int .i64 (N : Int)].toArray 64))
  go_enter Tryz.func53, Tryz.ntmps53
  go_wp2_with fail
  clear hmx
  go_loopw [3, 14] (fun v i wr => ∃ j : Nat, i = .int .i64 j ∧ j ≤ N ∧ wr.ownsRow w.heap.size 64 2 v (j + 2) (wantRow (fastWant N) (j + 2)) ∧ Ext w wr) (fun _ i _ => N - (intOf i).toNat)
  case atStart => exact ⟨0, rfl, by omega, hr0.out, hx0.out⟩
  case round =>
    clear hr0 hx0
    obtain ⟨j, rfl, hj, hown, hE⟩ := hrel
    by_cases hl : j < N
    · go_wp2_with (at_builtin; refine append_rec info_want Tryz.underlying25 rfl (by decide) (by decide) rfl _ _ rfl _ (j + 2) _ [.int .i64 j, .int .i64 1] hE hown rfl rfl rfl (by simp [Value.oneCell']) (by omega) ?_)
      intro v' w' ho hx _
      have hoh := Lib.hid ho
      clear hown ho
      go_wp2_with fail
      refine ⟨⟨j + 1, by go_num, by omega, ?_, hx⟩, ?_⟩
      · rw [show ((j + 1) + 2) = (j + 2) + 1 from by omega, wants_succ]
        rw [show fastWant N ((j + 2)) = ⟨(j : Int), 1⟩ from by unfold fastWant; rw [if_neg (by omega)]; congr 1; omega]
        exact hoh.out
      · simp [intOf]; omega
    · obtain rfl : j = N := by omega
      have hownh := Lib.hid hown
      clear hown
      go_wp2_with fail
      go_ret
      exact ⟨_, rfl, wants_row hownh.out, hE⟩
set_option maxRecDepth 100000 in
theorem fastwants_r (N : Nat) (w : World) (h1 : 1 ≤ N) (h2 : N ≤ 8) : Calls Tryz.prog 45 #[.int .i64 N] w fun e w' => ∃ v, e = .returned v ∧ WantsAt w' v (fastWants N) ∧ Ext w w' := by
  have hN : nM (N : Int) = N := nM_id (by omega) (by omega)
  go_enter Tryz.func45, Tryz.ntmps45
  go_wp2_with fail
  refine (rn_any ⟨0, 0, 0, N, 0, 0, 0⟩ _).mono ?_
  rintro e w1 ⟨rfl, hX⟩
  simp only
  rw [hN]
  clear hN
  have hX0 := Lib.hid hX
  clear hX
  go_wp2_with fail
  go_loopw [4, 5] (fun v i wr => ∃ j : Nat, i = .int .i64 ((j : Int) - 2) ∧ j ≤ N + 2 ∧ wr.ownsRow w.heap.size 64 2 v j (wantRow (fastWant N) j) ∧ Ext w wr) (fun _ i _ => (N + 2) - (intOf i + 2).toNat)
  case atStart => exact ⟨0, rfl, by omega, World.ownsRow_nil _ _ _ _, hX0.out⟩
  case round =>
    clear hX0
    obtain ⟨j, rfl, hj, hown, hE⟩ := hrel
    have hs := IntWalk.i64_in ((j : Int) - 2 + 1) (by omega)
    by_cases hl : j < N + 2
    · have dl : decide ((j : Int) - 2 < (N : Int)) = true := by rw [decide_eq_true_eq]; omega
      by_cases hn : j < 2
      · have dn : decide ((j : Int) - 2 < 0) = true := by rw [decide_eq_true_eq]; omega
        go_wp2_with (at_builtin; refine append_rec info_want Tryz.underlying25 rfl (by decide) (by decide) rfl _ _ rfl _ j _ [.int .i64 (-1), .int .i64 N] hE hown rfl rfl rfl (by simp [Value.oneCell']) (by omega) ?_)
        intro v' w' ho hx _
        have hoh := Lib.hid ho
        clear hown ho
        go_wp2_with fail
        refine ⟨⟨j + 1, by congr 1; omega, by omega, ?_, hx⟩, ?_⟩
        · rw [show (j + 1) = j + 1 from by omega, wants_succ]
          rw [show fastWant N (j) = ⟨-1, (N : Int)⟩ from by unfold fastWant; rw [if_pos hn]]
          exact hoh.out
        · simp [intOf]; omega
      · have dn : decide ((j : Int) - 2 < 0) = false := by rw [decide_eq_false_iff_not]; omega
        go_wp2_with (at_builtin; refine append_rec info_want Tryz.underlying25 rfl (by decide) (by decide) rfl _ _ rfl _ j _ [.int .i64 ((j : Int) - 2), .int .i64 1] hE hown rfl rfl rfl (by simp [Value.oneCell']) (by omega) ?_)
        intro v' w' ho hx _
        have hoh := Lib.hid ho
        clear hown ho
        go_wp2_with fail
        refine ⟨⟨j + 1, by congr 1; omega, by omega, ?_, hx⟩, ?_⟩
        · rw [show (j + 1) = j + 1 from by omega, wants_succ]
          rw [show fastWant N (j) = ⟨(j : Int) - 2, 1⟩ from by unfold fastWant; rw [if_neg hn]]
          exact hoh.out
        · simp [intOf]; omega
    · have dl : decide ((j : Int) - 2 < (N : Int)) = false := by rw [decide_eq_false_iff_not]; omega
      obtain rfl : j = N + 2 := by omega
      have hownh := Lib.hid hown
      clear hown
      go_wp2_with fail
      go_ret
      exact ⟨_, rfl, wants_row hownh.out, hE⟩
set_option maxRecDepth 100000 in
theorem bwwants_p (N : Nat) (w : World) (h1 : 1 ≤ N) (h2 : N ≤ 8) : Calls Tryz.prog 62 #[.int .i64 N] w fun e w' => ∃ v, e = .returned v ∧ WantsAt w' v (bwWants N) ∧ Ext w w' := by
  have hmx : min (max (N : Int) 1) 8 = N := by omega
  have h4 := IntWalk.i64_in (4 * (N : Int)) (by omega)
  have hr0 := Lib.hid (row_new w [.int .i64 (-1), .int .i64 1] 64 2 1 rfl (by omega))
  have hx0 := Lib.hid ((Ext.refl w).alloc (.cells [.int .i64 (-1), .int .i64 1].toArray 64))
  go_enter Tryz.func62, Tryz.ntmps62
  go_wp2_with fail
  clear hmx
  go_loopw [3, 12] (fun v i wr => ∃ j : Nat, i = .int .i64 j ∧ j ≤ N ∧ wr.ownsRow w.heap.size 64 2 v (j + 1) (wantRow (bwWant N) (j + 1)) ∧ Ext w wr) (fun _ i _ => N - (intOf i).toNat)
  case atStart => exact ⟨0, rfl, by omega, hr0.out, hx0.out⟩
  case round =>
    clear hr0 hx0
    obtain ⟨j, rfl, hj, hown, hE⟩ := hrel
    by_cases hl : j < N
    · go_wp2_with (at_builtin; refine append_rec info_want Tryz.underlying25 rfl (by decide) (by decide) rfl _ _ rfl _ (j + 1) _ [.int .i64 j, .int .i64 1] hE hown rfl rfl rfl (by simp [Value.oneCell']) (by omega) ?_)
      intro v' w' ho hx _
      have hoh := Lib.hid ho
      clear hown ho
      go_wp2_with fail
      refine ⟨⟨j + 1, by go_num, by omega, ?_, hx⟩, ?_⟩
      · rw [show ((j + 1) + 1) = (j + 1) + 1 from by omega, wants_succ]
        rw [show bwWant N ((j + 1)) = ⟨(j : Int), 1⟩ from by unfold bwWant; rw [if_neg (by omega), if_pos (by omega)]; congr 1; omega]
        exact hoh.out
      · simp [intOf]; omega
    · obtain rfl : j = N := by omega
      have hE0 := Lib.hid hE
      have hown0 := Lib.hid hown
      clear hown hE
      go_wp2_with fail
      go_loopw [3, 22] (fun v i wr => ∃ k : Nat, i = .int .i64 k ∧ k ≤ j ∧ wr.ownsRow w.heap.size 64 2 v (j + 1 + k) (wantRow (bwWant j) (j + 1 + k)) ∧ Ext w wr) (fun _ i _ => j - (intOf i).toNat)
      case atStart => exact ⟨0, rfl, by omega, hown0.out, hE0.out⟩
      case round =>
        clear hown0 hE0
        obtain ⟨k, rfl, hk, hown, hE⟩ := hrel
        by_cases hl : k < j
        · go_wp2_with (at_builtin; refine append_rec info_want Tryz.underlying25 rfl (by decide) (by decide) rfl _ _ rfl _ (j + 1 + k) _ [.int .i64 k, .int .i64 (4 * (j : Int))] hE hown rfl rfl rfl (by simp [Value.oneCell']) (by omega) ?_)
          intro v' w' ho hx _
          have hoh := Lib.hid ho
          clear hown ho
          go_wp2_with fail
          refine ⟨⟨k + 1, by go_num, by omega, ?_, hx⟩, ?_⟩
          · rw [show j + 1 + (k + 1) = (j + 1 + k) + 1 from by omega, wants_succ]
            rw [show bwWant j (j + 1 + k) = ⟨(k : Int), 4 * (j : Int)⟩ from by unfold bwWant; rw [if_neg (by omega), if_neg (by omega)]; congr 1; omega]
            exact hoh.out
          · simp [intOf]; omega
        · obtain rfl : k = j := by omega
          have hownh := Lib.hid hown
          clear hown
          go_wp2_with fail
          go_ret
          refine ⟨_, rfl, ?_, hE⟩
          have := hownh.out
          rw [show k + 1 + k = 2 * k + 1 from by omega] at this
          exact wants_row this
set_option maxRecDepth 100000 in
theorem bwwants_r (N : Nat) (w : World) (h1 : 1 ≤ N) (h2 : N ≤ 8) : Calls Tryz.prog 54 #[.int .i64 N] w fun e w' => ∃ v, e = .returned v ∧ WantsAt w' v (bwWants N) ∧ Ext w w' := by
  have hN : nM (N : Int) = N := nM_id (by omega) (by omega)
  have h4 := IntWalk.i64_in (4 * (N : Int)) (by omega)
  have hw2 := IntWalk.i64_in (2 * (N : Int)) (by omega)
  go_enter Tryz.func54, Tryz.ntmps54
  go_wp2_with fail
  refine (rn_any ⟨0, 0, 0, N, 0, 0, 0⟩ _).mono ?_
  rintro e w1 ⟨rfl, hX⟩
  simp only
  rw [hN]
  clear hN
  have hr0 := Lib.hid (row_base (row_new w1 [.int .i64 (-1), .int .i64 1] 64 2 1 rfl (by omega)) hX.size)
  have hX0 := Lib.hid (hX.alloc (.cells [.int .i64 (-1), .int .i64 1].toArray 64))
  clear hX
  go_wp2_with fail
  go_loopw [4, 5] (fun v i wr => ∃ j : Nat, i = .int .i64 j ∧ j ≤ 2 * N ∧ wr.ownsRow w.heap.size 64 2 v (j + 1) (wantRow (bwWant N) (j + 1)) ∧ Ext w wr) (fun _ i _ => (2 * N) - (intOf i).toNat)
  case atStart => exact ⟨0, rfl, by omega, hr0.out, hX0.out⟩
  case round =>
    clear hr0 hX0
    obtain ⟨j, rfl, hj, hown, hE⟩ := hrel
    by_cases hl : j < 2 * N
    · have dl : decide ((j : Int) < 2 * (N : Int)) = true := by rw [decide_eq_true_eq]; omega
      by_cases hn : j < N
      · have dn : decide ((N : Int) ≤ (j : Int)) = false := by rw [decide_eq_false_iff_not]; omega
        have hE1 := hE.alloc (.cells #[.int .i64 j, .int .i64 1] 64)
        have ho1 := World.ownsRow.alloc hown (.cells #[.int .i64 j, .int .i64 1] 64)
        clear hown hE
        go_wp2_with (at_builtin; refine append_rec info_want Tryz.underlying25 rfl (by decide) (by decide) rfl _ _ rfl _ (j + 1) _ [.int .i64 j, .int .i64 1] hE1 ho1 rfl (by simp [Act.eval, World.size_alloc]) rfl (by simp [Value.oneCell']) (by omega) ?_)
        intro v' w' ho hx _
        have hoh := Lib.hid ho
        clear ho1 ho
        go_wp2_with fail
        refine ⟨⟨j + 1, by go_num, by omega, ?_, hx⟩, ?_⟩
        · rw [wants_succ]
          rw [show bwWant N (j + 1) = ⟨(j : Int), 1⟩ from by unfold bwWant; rw [if_neg (by omega), if_pos (by omega)]; congr 1; omega]
          exact hoh.out
        · simp [intOf]; omega
      · have dn : decide ((N : Int) ≤ (j : Int)) = true := by rw [decide_eq_true_eq]; omega
        have hs := IntWalk.i64_in ((j : Int) - (N : Int)) (by omega)
        have hE1 := hE.alloc (.cells #[.int .i64 ((j : Int) - (N : Int)), .int .i64 (4 * (N : Int))] 64)
        have ho1 := World.ownsRow.alloc hown (.cells #[.int .i64 ((j : Int) - (N : Int)), .int .i64 (4 * (N : Int))] 64)
        clear hown hE
        go_wp2_with (at_builtin; refine append_rec info_want Tryz.underlying25 rfl (by decide) (by decide) rfl _ _ rfl _ (j + 1) _ [.int .i64 ((j : Int) - (N : Int)), .int .i64 (4 * (N : Int))] hE1 ho1 rfl (by simp [Act.eval, World.size_alloc]) rfl (by simp [Value.oneCell']) (by omega) ?_)
        intro v' w' ho hx _
        have hoh := Lib.hid ho
        clear ho1 ho
        go_wp2_with fail
        refine ⟨⟨j + 1, by go_num, by omega, ?_, hx⟩, ?_⟩
        · rw [wants_succ]
          rw [show bwWant N (j + 1) = ⟨(j : Int) - (N : Int), 4 * (N : Int)⟩ from by unfold bwWant; rw [if_neg (by omega), if_neg (by omega)]; congr 1; omega]
          exact hoh.out
        · simp [intOf]; omega
    · have dl : decide ((j : Int) < 2 * (N : Int)) = false := by rw [decide_eq_false_iff_not]; omega
      obtain rfl : j = 2 * N := by omega
      have hownh := Lib.hid hown
      clear hown
      go_wp2_with fail
      go_ret
      exact ⟨_, rfl, wants_row hownh.out, hE⟩
end Go.Proofs.YtpcohbpeglledaaGreat
/-
  The program's registers: how many locals one has, whether one may be.
-/
namespace Go.Proofs.YtpcohbpeglledaaGreat
open Go.RowKit Kv
theorem within_p (a m : Int) (w : World) (h : 0 ≤ a ∧ 0 ≤ m ∧ m ≤ 10000) : Calls Tryz.prog 230 #[.int .i64 a, .int .i64 m, .int .i64 32768] w fun e w' => e = .returned (.bool (decide (a ≤ 32768) && decide (a + m ≤ 32768))) ∧ w = w' := by
  obtain ⟨h0, h1, h2⟩ := h
  by_cases e1 : a ≤ 32768
  · have d : decide (a ≤ 32768) = true := by simpa using e1
    rw [d, Bool.true_and]
    go_enter Tryz.func230, Tryz.ntmps230
    go_wp2_with fail
    go_ret
    exact ⟨rfl, rfl⟩
  · have d : decide (a ≤ 32768) = false := by simpa using e1
    rw [d, Bool.false_and]
    go_enter Tryz.func230, Tryz.ntmps230
    go_wp2_with fail
    go_ret
    exact ⟨rfl, rfl⟩
theorem greatest1_p (w : World) : Calls Tryz.prog 229 #[.int .i64 1] w fun e w' => e = .returned (.int .i64 1099511627776) ∧ w = w' := by
  go_enter Tryz.func229, Tryz.ntmps229
  go_wp2_with fail
  go_ret
  exact ⟨rfl, rfl⟩
theorem greatest6_p (w : World) : Calls Tryz.prog 229 #[.int .i64 6] w fun e w' => e = .returned (.int .i64 1048576) ∧ w = w' := by
  go_enter Tryz.func229, Tryz.ntmps229
  go_wp2_with fail
  go_ret
  exact ⟨rfl, rfl⟩
theorem greatest7_p (w : World) : Calls Tryz.prog 229 #[.int .i64 7] w fun e w' => e = .returned (.int .i64 255) ∧ w = w' := by
  go_enter Tryz.func229, Tryz.ntmps229
  go_wp2_with fail
  go_ret
  exact ⟨rfl, rfl⟩
theorem mlocals_p (n : Int) (w : World) (h1 : 1 ≤ n) (h2 : n ≤ 8) : Calls Tryz.prog 235 #[.int .i64 n] w fun e w' => e = .returned (.int .i64 (n * (2 + 18 * (n - 1) * (n - 1)))) ∧ w = w' := by
  have hb := locals_bd n h1 h2
  go_enter Tryz.func235, Tryz.ntmps235
  go_wp2_with fail
  refine (mthreads_p n _ h1 h2).mono ?_
  rintro e w' ⟨rfl, rfl⟩
  go_wp2_with fail
  refine (tlocals_p n _ h1 h2).mono ?_
  rintro e w' ⟨rfl, rfl⟩
  go_wp2_with fail
  go_ret
  exact ⟨rfl, rfl⟩
theorem locals_p (r : Reg) (w : World) (hk : r.kind = 1 ∨ r.kind = 6 ∨ r.kind = 7) (hn : 1 ≤ r.n ∧ r.n ≤ 8) : Calls Tryz.prog 224 #[encR r] w fun e w' => e = .returned (.int .i64 (localsM r)) ∧ Ext w w' := by
  obtain ⟨kind, base, loc, n, wr, rd, top⟩ := r
  simp only at hk hn
  unfold encR localsM
  simp only
  have hX := Ext.refl w
  have b1 := Blk.new w (.cells #[.int .i64 kind, .int .i64 base, .int .i64 loc, .int .i64 n, .int .i64 wr, .int .i64 rd, .int .i64 top] 77)
  replace hX := hX.alloc (.cells #[.int .i64 kind, .int .i64 base, .int .i64 loc, .int .i64 n, .int .i64 wr, .int .i64 rd, .int .i64 top] 77)
  have c_b1 := b1.cells
  rcases hk with rfl | rfl | rfl
  · go_enter Tryz.func224, Tryz.ntmps224
    go_wp2_with fail
    go_ret
    exact ⟨rfl, hX⟩
  · go_enter Tryz.func224, Tryz.ntmps224
    go_wp2_with fail
    refine (tlocals_p n _ hn.1 hn.2).mono ?_
    rintro e w' ⟨rfl, rfl⟩
    go_wp2_with fail
    go_ret
    exact ⟨rfl, hX⟩
  · go_enter Tryz.func224, Tryz.ntmps224
    go_wp2_with fail
    refine (mlocals_p n _ hn.1 hn.2).mono ?_
    rintro e w' ⟨rfl, rfl⟩
    go_wp2_with fail
    go_ret
    exact ⟨rfl, hX⟩
set_option maxRecDepth 100000 in
set_option maxHeartbeats 2000000 in
theorem pfine1_p (base loc n wr top C D : Int) (w : World) (hb : 0 ≤ base) (hl : 0 ≤ loc) (hn : 1 ≤ n ∧ n ≤ 8) (hw : -1 ≤ wr ∧ wr < n) (ht : 1 ≤ top ∧ top ≤ 255) (hz : 0 ≤ C ∧ C ≤ 6272 ∧ 0 ≤ D ∧ D ≤ 7072)
    (hC : ∀ w, Calls Tryz.prog 100 #[.agg #[.int .i64 1, .int .i64 base, .int .i64 loc, .int .i64 n, .int .i64 wr, .int .i64 (-1), .int .i64 top]] w fun e w' => e = .returned (.int .i64 C) ∧ Ext w w')
    (hL : ∀ w, Calls Tryz.prog 224 #[.agg #[.int .i64 1, .int .i64 base, .int .i64 loc, .int .i64 n, .int .i64 wr, .int .i64 (-1), .int .i64 top]] w fun e w' => e = .returned (.int .i64 D) ∧ Ext w w') :
    Calls Tryz.prog 223 #[.agg #[.int .i64 1, .int .i64 base, .int .i64 loc, .int .i64 n, .int .i64 wr, .int .i64 (-1), .int .i64 top]] w fun e w' => e = .returned (.bool (decide (base ≤ 32768) && decide (loc ≤ 32768) && decide (base + C ≤ 32768) && decide (loc + D ≤ 32768))) ∧ Ext w w' := by
  have d3 : decide (n < 1) = false := by simpa using hn.1
  have d4 : decide (8 < n) = false := by simpa using hn.2
  have d5 : decide (top < 1) = false := by simpa using ht.1
  have d6 : decide (1099511627776 < top) = false := by rw [decide_eq_false_iff_not]; omega
  have d7 : decide (wr < -1) = false := by rw [decide_eq_false_iff_not]; omega
  have d8 : decide (n ≤ wr) = false := by rw [decide_eq_false_iff_not]; omega
  have d9 : decide (n ≤ -1) = false := by rw [decide_eq_false_iff_not]; omega
  have hX := Ext.refl w
  have b1 := Blk.new w (.cells #[.int .i64 1, .int .i64 base, .int .i64 loc, .int .i64 n, .int .i64 wr, .int .i64 (-1), .int .i64 top] 77)
  replace hX := hX.alloc (.cells #[.int .i64 1, .int .i64 base, .int .i64 loc, .int .i64 n, .int .i64 wr, .int .i64 (-1), .int .i64 top] 77)
  have c_b1 := b1.cells
  have hW1 := fun w => within_p base C w ⟨hb, by omega⟩
  have hW2 := fun w => within_p loc D w ⟨hl, by omega⟩
  have he : (decide (base ≤ 32768) && decide (loc ≤ 32768) && decide (base + C ≤ 32768) && decide (loc + D ≤ 32768)) = ((decide (base ≤ 32768) && decide (base + C ≤ 32768)) && (decide (loc ≤ 32768) && decide (loc + D ≤ 32768))) := by
    cases decide (base ≤ 32768) <;> cases decide (loc ≤ 32768) <;> simp
  rw [he]
  clear he
  generalize (decide (base ≤ 32768) && decide (base + C ≤ 32768)) = F1 at *
  generalize (decide (loc ≤ 32768) && decide (loc + D ≤ 32768)) = F2 at *
  clear hz hb hl hn hw ht
  go_enter Tryz.func223, Tryz.ntmps223
  go_wp2_with fail
  generalize w.alloc (.cells #[.int .i64 1, .int .i64 base, .int .i64 loc, .int .i64 n, .int .i64 wr, .int .i64 (-1), .int .i64 top] 77) = W0 at *
  have hE := hX.drew
  replace b1 := b1.drew
  clear hX c_b1
  have hX := hE
  have c_b1 := b1.cells
  go_region_held2 (fun w' => ∀ i, w'.cell? ⟨w.heap.size, i, none⟩ = (#[.int .i64 1, .int .i64 base, .int .i64 loc, .int .i64 n, .int .i64 wr, .int .i64 (-1), .int .i64 top] : Array Value)[i]?) (exact c_b1)
    (first
      | (go_at_call 229
         refine (greatest1_p _).mono ?_
         rintro e w' ⟨rfl, rfl⟩))
  rename_i hh
  clear hh hE
  generalize W0.drew = W at *
  go_wp2_with fail
  have hS : ∀ w', Ext W w' → (∀ i, w'.cell? ⟨w.heap.size, i, none⟩ = (#[.int .i64 1, .int .i64 base, .int .i64 loc, .int .i64 n, .int .i64 wr, .int .i64 (-1), .int .i64 top] : Array Value)[i]?) := fun w' hx => (b1.ext hx).cells
  have hXW := hX
  clear hX c_b1
  have hX := (Ext.refl W).drew
  cases F1 with
  | true =>
    go_region_held2 (fun w' => ∀ i, w'.cell? ⟨w.heap.size, i, none⟩ = (#[.int .i64 1, .int .i64 base, .int .i64 loc, .int .i64 n, .int .i64 wr, .int .i64 (-1), .int .i64 top] : Array Value)[i]?) (exact hS _ hX)
      (first
          | (go_at_call 100
             refine (hC _).mono ?_
             rintro e w2 ⟨rfl, hx⟩
             replace hX := hX.trans hx
             clear hx)
          | (go_at_call 224
             refine (hL _).mono ?_
             rintro e w2 ⟨rfl, hx⟩
             replace hX := hX.trans hx
             clear hx)
          | (go_at_call_of 230 (Value.int IntKind.i64 base)
             refine (hW1 _).mono ?_
             rintro e w' ⟨rfl, rfl⟩)
          | (go_at_call_of 230 (Value.int IntKind.i64 loc)
             refine (hW2 _).mono ?_
             rintro e w' ⟨rfl, rfl⟩))
    go_wp2_with fail
    go_ret
    exact ⟨rfl, hXW.trans hX⟩
  | false =>
    refine wp_region_held_drew (S := (fun w' => ∀ i, w'.cell? ⟨w.heap.size, i, none⟩ = (#[.int .i64 1, .int .i64 base, .int .i64 loc, .int .i64 n, .int .i64 wr, .int .i64 (-1), .int .i64 top] : Array Value)[i]?)) rfl (hS _ hX) (fun hHeld => ?_)
    refine wpAnyH_take (i := 0) (v := ?_) rfl (by kernel_rfl) (by kernel_rfl) (by kernel_rfl) (fun _ _ _ h => h) (Or.inl ⟨by kernel_rfl, ?_⟩) (by assumption) ?_
    rotate_left
    · (intro w hSw; (try dsimp only at hSw); go_simp; try with_reducible rfl)
    try simp only [put_pack]
    refine wpAnyH_take (i := 1) (v := ?_) rfl (by kernel_rfl) (by kernel_rfl) (by kernel_rfl) (fun _ _ _ h => h) (Or.inl ⟨by kernel_rfl, ?_⟩) (by assumption) ?_
    rotate_left
    · (intro w hSw; (try dsimp only at hSw); go_simp; try with_reducible rfl)
    try simp only [put_pack]
    refine wpAnyH_take (i := 2) (v := ?_) rfl (by kernel_rfl) (by kernel_rfl) (by kernel_rfl) (fun _ _ _ h => h) (Or.inl ⟨by kernel_rfl, ?_⟩) (by assumption) ?_
    rotate_left
    · (intro w hSw; (try dsimp only at hSw); go_simp; try with_reducible rfl)
    try simp only [put_pack]
    refine wpAnyH_ready (rs := [3]) (by kernel_rfl) (by simp) ?_
    refine AllReadyH.cons rfl (fun K hKK => ?_) AllReadyH.nil
    go_simp
    refine (hC _).mono ?_
    rintro e w2 ⟨rfl, hx⟩
    replace hX := hX.trans hx
    clear hx
    refine hKK.out _ _ (hS _ hX) (fun hHeld => ?_)
    clear hKK K
    try dsimp only
    refine wpAnyH_ready (rs := [4]) (by kernel_rfl) (by simp) ?_
    refine AllReadyH.cons rfl (fun K hKK => ?_) AllReadyH.nil
    go_simp
    refine (hW1 _).mono ?_
    rintro e w' ⟨rfl, rfl⟩
    refine hKK.out _ _ (hS _ hX) (fun hHeld => ?_)
    clear hKK K
    try dsimp only
    refine wpAnyH_take (i := 5) (v := ?_) rfl (by kernel_rfl) (by kernel_rfl) (by kernel_rfl) (fun _ _ _ h => h) (Or.inl ⟨by kernel_rfl, ?_⟩) (by assumption) ?_
    rotate_left
    · (intro w hSw; (try dsimp only at hSw); go_simp; try with_reducible rfl)
    try simp only [put_pack]
    refine wpAnyH_take (i := 6) (v := undef) rfl (by kernel_rfl) (by kernel_rfl) (by kernel_rfl) (fun _ _ _ h => h) (Or.inr ⟨by kernel_rfl, rfl⟩) (by assumption) ?_
    try simp only [put_pack]
    refine wpAnyH_take (i := 7) (v := undef) rfl (by kernel_rfl) (by kernel_rfl) (by kernel_rfl) (fun _ _ _ h => h) (Or.inr ⟨by kernel_rfl, rfl⟩) (by assumption) ?_
    try simp only [put_pack]
    refine wpAnyH_take (i := 8) (v := undef) rfl (by kernel_rfl) (by kernel_rfl) (by kernel_rfl) (fun _ _ _ h => h) (Or.inr ⟨by kernel_rfl, rfl⟩) (by assumption) ?_
    try simp only [put_pack]
    refine wpAnyH_take (i := 9) (v := undef) rfl (by kernel_rfl) (by kernel_rfl) (by kernel_rfl) (fun _ _ _ h => h) (Or.inr ⟨by kernel_rfl, rfl⟩) (by assumption) ?_
    try simp only [put_pack]
    refine wpAnyH_take (i := 10) (v := undef) rfl (by kernel_rfl) (by kernel_rfl) (by kernel_rfl) (fun _ _ _ h => h) (Or.inr ⟨by kernel_rfl, rfl⟩) (by assumption) ?_
    try simp only [put_pack]
    refine wpAnyH_take (i := 11) (v := ?_) rfl (by kernel_rfl) (by kernel_rfl) (by kernel_rfl) (fun _ _ _ h => h) (Or.inl ⟨by kernel_rfl, ?_⟩) (by assumption) ?_
    rotate_left
    · (intro w hSw; (try dsimp only at hSw); go_simp; try with_reducible rfl)
    try simp only [put_pack]
    refine wpAnyH_take (i := 12) (v := ?_) rfl (by kernel_rfl) (by kernel_rfl) (by kernel_rfl) (fun _ _ _ h => h) (Or.inl ⟨by kernel_rfl, ?_⟩) (by assumption) ?_
    rotate_left
    · (intro w hSw; (try dsimp only at hSw); go_simp; try with_reducible rfl)
    try simp only [put_pack]
    refine wpAnyH_done (by kernel_rfl) ?_ _
    go_simp
    go_wp2_with fail
    go_ret
    refine ⟨?_, hXW.trans hX⟩
    rfl
set_option maxRecDepth 100000 in
set_option maxHeartbeats 2000000 in
theorem pfine6_p (base loc n wr top C D : Int) (w : World) (hb : 0 ≤ base) (hl : 0 ≤ loc) (hn : 1 ≤ n ∧ n ≤ 8) (hw : 0 ≤ wr ∧ wr < n) (ht : 1 ≤ top ∧ top ≤ 255) (hz : 0 ≤ C ∧ C ≤ 6272 ∧ 0 ≤ D ∧ D ≤ 7072)
    (hC : ∀ w, Calls Tryz.prog 100 #[.agg #[.int .i64 6, .int .i64 base, .int .i64 loc, .int .i64 n, .int .i64 wr, .int .i64 (-1), .int .i64 top]] w fun e w' => e = .returned (.int .i64 C) ∧ Ext w w')
    (hL : ∀ w, Calls Tryz.prog 224 #[.agg #[.int .i64 6, .int .i64 base, .int .i64 loc, .int .i64 n, .int .i64 wr, .int .i64 (-1), .int .i64 top]] w fun e w' => e = .returned (.int .i64 D) ∧ Ext w w') :
    Calls Tryz.prog 223 #[.agg #[.int .i64 6, .int .i64 base, .int .i64 loc, .int .i64 n, .int .i64 wr, .int .i64 (-1), .int .i64 top]] w fun e w' => e = .returned (.bool (decide (base ≤ 32768) && decide (loc ≤ 32768) && decide (base + C ≤ 32768) && decide (loc + D ≤ 32768))) ∧ Ext w w' := by
  have d3 : decide (n < 1) = false := by simpa using hn.1
  have d4 : decide (8 < n) = false := by simpa using hn.2
  have d5 : decide (top < 1) = false := by simpa using ht.1
  have d6 : decide (1048576 < top) = false := by rw [decide_eq_false_iff_not]; omega
  have d7 : decide (wr < -1) = false := by rw [decide_eq_false_iff_not]; omega
  have d8 : decide (n ≤ wr) = false := by rw [decide_eq_false_iff_not]; omega
  have d9 : decide (n ≤ -1) = false := by rw [decide_eq_false_iff_not]; omega
  have dn : (wr == -1) = false := by rw [beq_eq_false_iff_ne]; omega
  have hX := Ext.refl w
  have b1 := Blk.new w (.cells #[.int .i64 6, .int .i64 base, .int .i64 loc, .int .i64 n, .int .i64 wr, .int .i64 (-1), .int .i64 top] 77)
  replace hX := hX.alloc (.cells #[.int .i64 6, .int .i64 base, .int .i64 loc, .int .i64 n, .int .i64 wr, .int .i64 (-1), .int .i64 top] 77)
  have c_b1 := b1.cells
  have hW1 := fun w => within_p base C w ⟨hb, by omega⟩
  have hW2 := fun w => within_p loc D w ⟨hl, by omega⟩
  have he : (decide (base ≤ 32768) && decide (loc ≤ 32768) && decide (base + C ≤ 32768) && decide (loc + D ≤ 32768)) = ((decide (base ≤ 32768) && decide (base + C ≤ 32768)) && (decide (loc ≤ 32768) && decide (loc + D ≤ 32768))) := by
    cases decide (base ≤ 32768) <;> cases decide (loc ≤ 32768) <;> simp
  rw [he]
  clear he
  generalize (decide (base ≤ 32768) && decide (base + C ≤ 32768)) = F1 at *
  generalize (decide (loc ≤ 32768) && decide (loc + D ≤ 32768)) = F2 at *
  clear hz hb hl hn hw ht
  go_enter Tryz.func223, Tryz.ntmps223
  go_wp2_with fail
  generalize w.alloc (.cells #[.int .i64 6, .int .i64 base, .int .i64 loc, .int .i64 n, .int .i64 wr, .int .i64 (-1), .int .i64 top] 77) = W0 at *
  have hE := hX.drew
  replace b1 := b1.drew
  clear hX c_b1
  have hX := hE
  have c_b1 := b1.cells
  go_region_held2 (fun w' => ∀ i, w'.cell? ⟨w.heap.size, i, none⟩ = (#[.int .i64 6, .int .i64 base, .int .i64 loc, .int .i64 n, .int .i64 wr, .int .i64 (-1), .int .i64 top] : Array Value)[i]?) (exact c_b1)
    (first
      | (go_at_call 229
         refine (greatest6_p _).mono ?_
         rintro e w' ⟨rfl, rfl⟩))
  rename_i hh
  clear hh hE
  generalize W0.drew = W at *
  go_wp2_with fail
  have hS : ∀ w', Ext W w' → (∀ i, w'.cell? ⟨w.heap.size, i, none⟩ = (#[.int .i64 6, .int .i64 base, .int .i64 loc, .int .i64 n, .int .i64 wr, .int .i64 (-1), .int .i64 top] : Array Value)[i]?) := fun w' hx => (b1.ext hx).cells
  have hXW := hX
  clear hX c_b1
  have hX := (Ext.refl W).drew
  cases F1 with
  | true =>
    go_region_held2 (fun w' => ∀ i, w'.cell? ⟨w.heap.size, i, none⟩ = (#[.int .i64 6, .int .i64 base, .int .i64 loc, .int .i64 n, .int .i64 wr, .int .i64 (-1), .int .i64 top] : Array Value)[i]?) (exact hS _ hX)
      (first
          | (go_at_call 100
             refine (hC _).mono ?_
             rintro e w2 ⟨rfl, hx⟩
             replace hX := hX.trans hx
             clear hx)
          | (go_at_call 224
             refine (hL _).mono ?_
             rintro e w2 ⟨rfl, hx⟩
             replace hX := hX.trans hx
             clear hx)
          | (go_at_call_of 230 (Value.int IntKind.i64 base)
             refine (hW1 _).mono ?_
             rintro e w' ⟨rfl, rfl⟩)
          | (go_at_call_of 230 (Value.int IntKind.i64 loc)
             refine (hW2 _).mono ?_
             rintro e w' ⟨rfl, rfl⟩))
    go_wp2_with fail
    go_ret
    exact ⟨rfl, hXW.trans hX⟩
  | false =>
    refine wp_region_held_drew (S := (fun w' => ∀ i, w'.cell? ⟨w.heap.size, i, none⟩ = (#[.int .i64 6, .int .i64 base, .int .i64 loc, .int .i64 n, .int .i64 wr, .int .i64 (-1), .int .i64 top] : Array Value)[i]?)) rfl (hS _ hX) (fun hHeld => ?_)
    refine wpAnyH_take (i := 0) (v := ?_) rfl (by kernel_rfl) (by kernel_rfl) (by kernel_rfl) (fun _ _ _ h => h) (Or.inl ⟨by kernel_rfl, ?_⟩) (by assumption) ?_
    rotate_left
    · (intro w hSw; (try dsimp only at hSw); go_simp; try with_reducible rfl)
    try simp only [put_pack]
    refine wpAnyH_take (i := 1) (v := ?_) rfl (by kernel_rfl) (by kernel_rfl) (by kernel_rfl) (fun _ _ _ h => h) (Or.inl ⟨by kernel_rfl, ?_⟩) (by assumption) ?_
    rotate_left
    · (intro w hSw; (try dsimp only at hSw); go_simp; try with_reducible rfl)
    try simp only [put_pack]
    refine wpAnyH_take (i := 2) (v := ?_) rfl (by kernel_rfl) (by kernel_rfl) (by kernel_rfl) (fun _ _ _ h => h) (Or.inl ⟨by kernel_rfl, ?_⟩) (by assumption) ?_
    rotate_left
    · (intro w hSw; (try dsimp only at hSw); go_simp; try with_reducible rfl)
    try simp only [put_pack]
    refine wpAnyH_ready (rs := [3]) (by kernel_rfl) (by simp) ?_
    refine AllReadyH.cons rfl (fun K hKK => ?_) AllReadyH.nil
    go_simp
    refine (hC _).mono ?_
    rintro e w2 ⟨rfl, hx⟩
    replace hX := hX.trans hx
    clear hx
    refine hKK.out _ _ (hS _ hX) (fun hHeld => ?_)
    clear hKK K
    try dsimp only
    refine wpAnyH_ready (rs := [4]) (by kernel_rfl) (by simp) ?_
    refine AllReadyH.cons rfl (fun K hKK => ?_) AllReadyH.nil
    go_simp
    refine (hW1 _).mono ?_
    rintro e w' ⟨rfl, rfl⟩
    refine hKK.out _ _ (hS _ hX) (fun hHeld => ?_)
    clear hKK K
    try dsimp only
    refine wpAnyH_take (i := 5) (v := ?_) rfl (by kernel_rfl) (by kernel_rfl) (by kernel_rfl) (fun _ _ _ h => h) (Or.inl ⟨by kernel_rfl, ?_⟩) (by assumption) ?_
    rotate_left
    · (intro w hSw; (try dsimp only at hSw); go_simp; try with_reducible rfl)
    try simp only [put_pack]
    refine wpAnyH_take (i := 6) (v := undef) rfl (by kernel_rfl) (by kernel_rfl) (by kernel_rfl) (fun _ _ _ h => h) (Or.inr ⟨by kernel_rfl, rfl⟩) (by assumption) ?_
    try simp only [put_pack]
    refine wpAnyH_take (i := 7) (v := undef) rfl (by kernel_rfl) (by kernel_rfl) (by kernel_rfl) (fun _ _ _ h => h) (Or.inr ⟨by kernel_rfl, rfl⟩) (by assumption) ?_
    try simp only [put_pack]
    refine wpAnyH_take (i := 8) (v := undef) rfl (by kernel_rfl) (by kernel_rfl) (by kernel_rfl) (fun _ _ _ h => h) (Or.inr ⟨by kernel_rfl, rfl⟩) (by assumption) ?_
    try simp only [put_pack]
    refine wpAnyH_take (i := 9) (v := undef) rfl (by kernel_rfl) (by kernel_rfl) (by kernel_rfl) (fun _ _ _ h => h) (Or.inr ⟨by kernel_rfl, rfl⟩) (by assumption) ?_
    try simp only [put_pack]
    refine wpAnyH_take (i := 10) (v := undef) rfl (by kernel_rfl) (by kernel_rfl) (by kernel_rfl) (fun _ _ _ h => h) (Or.inr ⟨by kernel_rfl, rfl⟩) (by assumption) ?_
    try simp only [put_pack]
    refine wpAnyH_take (i := 11) (v := ?_) rfl (by kernel_rfl) (by kernel_rfl) (by kernel_rfl) (fun _ _ _ h => h) (Or.inl ⟨by kernel_rfl, ?_⟩) (by assumption) ?_
    rotate_left
    · (intro w hSw; (try dsimp only at hSw); go_simp; try with_reducible rfl)
    try simp only [put_pack]
    refine wpAnyH_take (i := 12) (v := ?_) rfl (by kernel_rfl) (by kernel_rfl) (by kernel_rfl) (fun _ _ _ h => h) (Or.inl ⟨by kernel_rfl, ?_⟩) (by assumption) ?_
    rotate_left
    · (intro w hSw; (try dsimp only at hSw); go_simp; try with_reducible rfl)
    try simp only [put_pack]
    refine wpAnyH_done (by kernel_rfl) ?_ _
    go_simp
    go_wp2_with fail
    go_ret
    refine ⟨?_, hXW.trans hX⟩
    rfl
set_option maxRecDepth 100000 in
set_option maxHeartbeats 2000000 in
theorem pfine7_p (base loc n wr top C D : Int) (w : World) (hb : 0 ≤ base) (hl : 0 ≤ loc) (hn : 1 ≤ n ∧ n ≤ 8) (hw : -1 ≤ wr ∧ wr < n) (ht : 1 ≤ top ∧ top ≤ 255) (hz : 0 ≤ C ∧ C ≤ 6272 ∧ 0 ≤ D ∧ D ≤ 7072)
    (hC : ∀ w, Calls Tryz.prog 100 #[.agg #[.int .i64 7, .int .i64 base, .int .i64 loc, .int .i64 n, .int .i64 wr, .int .i64 (-1), .int .i64 top]] w fun e w' => e = .returned (.int .i64 C) ∧ Ext w w')
    (hL : ∀ w, Calls Tryz.prog 224 #[.agg #[.int .i64 7, .int .i64 base, .int .i64 loc, .int .i64 n, .int .i64 wr, .int .i64 (-1), .int .i64 top]] w fun e w' => e = .returned (.int .i64 D) ∧ Ext w w') :
    Calls Tryz.prog 223 #[.agg #[.int .i64 7, .int .i64 base, .int .i64 loc, .int .i64 n, .int .i64 wr, .int .i64 (-1), .int .i64 top]] w fun e w' => e = .returned (.bool (decide (base ≤ 32768) && decide (loc ≤ 32768) && decide (base + C ≤ 32768) && decide (loc + D ≤ 32768))) ∧ Ext w w' := by
  have d3 : decide (n < 1) = false := by simpa using hn.1
  have d4 : decide (8 < n) = false := by simpa using hn.2
  have d5 : decide (top < 1) = false := by simpa using ht.1
  have d6 : decide (255 < top) = false := by rw [decide_eq_false_iff_not]; omega
  have d7 : decide (wr < -1) = false := by rw [decide_eq_false_iff_not]; omega
  have d8 : decide (n ≤ wr) = false := by rw [decide_eq_false_iff_not]; omega
  have d9 : decide (n ≤ -1) = false := by rw [decide_eq_false_iff_not]; omega
  have hX := Ext.refl w
  have b1 := Blk.new w (.cells #[.int .i64 7, .int .i64 base, .int .i64 loc, .int .i64 n, .int .i64 wr, .int .i64 (-1), .int .i64 top] 77)
  replace hX := hX.alloc (.cells #[.int .i64 7, .int .i64 base, .int .i64 loc, .int .i64 n, .int .i64 wr, .int .i64 (-1), .int .i64 top] 77)
  have c_b1 := b1.cells
  have hW1 := fun w => within_p base C w ⟨hb, by omega⟩
  have hW2 := fun w => within_p loc D w ⟨hl, by omega⟩
  have he : (decide (base ≤ 32768) && decide (loc ≤ 32768) && decide (base + C ≤ 32768) && decide (loc + D ≤ 32768)) = ((decide (base ≤ 32768) && decide (base + C ≤ 32768)) && (decide (loc ≤ 32768) && decide (loc + D ≤ 32768))) := by
    cases decide (base ≤ 32768) <;> cases decide (loc ≤ 32768) <;> simp
  rw [he]
  clear he
  generalize (decide (base ≤ 32768) && decide (base + C ≤ 32768)) = F1 at *
  generalize (decide (loc ≤ 32768) && decide (loc + D ≤ 32768)) = F2 at *
  clear hz hb hl hn hw ht
  go_enter Tryz.func223, Tryz.ntmps223
  go_wp2_with fail
  generalize w.alloc (.cells #[.int .i64 7, .int .i64 base, .int .i64 loc, .int .i64 n, .int .i64 wr, .int .i64 (-1), .int .i64 top] 77) = W0 at *
  have hE := hX.drew
  replace b1 := b1.drew
  clear hX c_b1
  have hX := hE
  have c_b1 := b1.cells
  go_region_held2 (fun w' => ∀ i, w'.cell? ⟨w.heap.size, i, none⟩ = (#[.int .i64 7, .int .i64 base, .int .i64 loc, .int .i64 n, .int .i64 wr, .int .i64 (-1), .int .i64 top] : Array Value)[i]?) (exact c_b1)
    (first
      | (go_at_call 229
         refine (greatest7_p _).mono ?_
         rintro e w' ⟨rfl, rfl⟩))
  rename_i hh
  clear hh hE
  generalize W0.drew = W at *
  go_wp2_with fail
  have hS : ∀ w', Ext W w' → (∀ i, w'.cell? ⟨w.heap.size, i, none⟩ = (#[.int .i64 7, .int .i64 base, .int .i64 loc, .int .i64 n, .int .i64 wr, .int .i64 (-1), .int .i64 top] : Array Value)[i]?) := fun w' hx => (b1.ext hx).cells
  have hXW := hX
  clear hX c_b1
  have hX := (Ext.refl W).drew
  cases F1 with
  | true =>
    go_region_held2 (fun w' => ∀ i, w'.cell? ⟨w.heap.size, i, none⟩ = (#[.int .i64 7, .int .i64 base, .int .i64 loc, .int .i64 n, .int .i64 wr, .int .i64 (-1), .int .i64 top] : Array Value)[i]?) (exact hS _ hX)
      (first
          | (go_at_call 100
             refine (hC _).mono ?_
             rintro e w2 ⟨rfl, hx⟩
             replace hX := hX.trans hx
             clear hx)
          | (go_at_call 224
             refine (hL _).mono ?_
             rintro e w2 ⟨rfl, hx⟩
             replace hX := hX.trans hx
             clear hx)
          | (go_at_call_of 230 (Value.int IntKind.i64 base)
             refine (hW1 _).mono ?_
             rintro e w' ⟨rfl, rfl⟩)
          | (go_at_call_of 230 (Value.int IntKind.i64 loc)
             refine (hW2 _).mono ?_
             rintro e w' ⟨rfl, rfl⟩))
    go_wp2_with fail
    go_ret
    exact ⟨rfl, hXW.trans hX⟩
  | false =>
    refine wp_region_held_drew (S := (fun w' => ∀ i, w'.cell? ⟨w.heap.size, i, none⟩ = (#[.int .i64 7, .int .i64 base, .int .i64 loc, .int .i64 n, .int .i64 wr, .int .i64 (-1), .int .i64 top] : Array Value)[i]?)) rfl (hS _ hX) (fun hHeld => ?_)
    refine wpAnyH_take (i := 0) (v := ?_) rfl (by kernel_rfl) (by kernel_rfl) (by kernel_rfl) (fun _ _ _ h => h) (Or.inl ⟨by kernel_rfl, ?_⟩) (by assumption) ?_
    rotate_left
    · (intro w hSw; (try dsimp only at hSw); go_simp; try with_reducible rfl)
    try simp only [put_pack]
    refine wpAnyH_take (i := 1) (v := ?_) rfl (by kernel_rfl) (by kernel_rfl) (by kernel_rfl) (fun _ _ _ h => h) (Or.inl ⟨by kernel_rfl, ?_⟩) (by assumption) ?_
    rotate_left
    · (intro w hSw; (try dsimp only at hSw); go_simp; try with_reducible rfl)
    try simp only [put_pack]
    refine wpAnyH_take (i := 2) (v := ?_) rfl (by kernel_rfl) (by kernel_rfl) (by kernel_rfl) (fun _ _ _ h => h) (Or.inl ⟨by kernel_rfl, ?_⟩) (by assumption) ?_
    rotate_left
    · (intro w hSw; (try dsimp only at hSw); go_simp; try with_reducible rfl)
    try simp only [put_pack]
    refine wpAnyH_ready (rs := [3]) (by kernel_rfl) (by simp) ?_
    refine AllReadyH.cons rfl (fun K hKK => ?_) AllReadyH.nil
    go_simp
    refine (hC _).mono ?_
    rintro e w2 ⟨rfl, hx⟩
    replace hX := hX.trans hx
    clear hx
    refine hKK.out _ _ (hS _ hX) (fun hHeld => ?_)
    clear hKK K
    try dsimp only
    refine wpAnyH_ready (rs := [4]) (by kernel_rfl) (by simp) ?_
    refine AllReadyH.cons rfl (fun K hKK => ?_) AllReadyH.nil
    go_simp
    refine (hW1 _).mono ?_
    rintro e w' ⟨rfl, rfl⟩
    refine hKK.out _ _ (hS _ hX) (fun hHeld => ?_)
    clear hKK K
    try dsimp only
    refine wpAnyH_take (i := 5) (v := ?_) rfl (by kernel_rfl) (by kernel_rfl) (by kernel_rfl) (fun _ _ _ h => h) (Or.inl ⟨by kernel_rfl, ?_⟩) (by assumption) ?_
    rotate_left
    · (intro w hSw; (try dsimp only at hSw); go_simp; try with_reducible rfl)
    try simp only [put_pack]
    refine wpAnyH_take (i := 6) (v := undef) rfl (by kernel_rfl) (by kernel_rfl) (by kernel_rfl) (fun _ _ _ h => h) (Or.inr ⟨by kernel_rfl, rfl⟩) (by assumption) ?_
    try simp only [put_pack]
    refine wpAnyH_take (i := 7) (v := undef) rfl (by kernel_rfl) (by kernel_rfl) (by kernel_rfl) (fun _ _ _ h => h) (Or.inr ⟨by kernel_rfl, rfl⟩) (by assumption) ?_
    try simp only [put_pack]
    refine wpAnyH_take (i := 8) (v := undef) rfl (by kernel_rfl) (by kernel_rfl) (by kernel_rfl) (fun _ _ _ h => h) (Or.inr ⟨by kernel_rfl, rfl⟩) (by assumption) ?_
    try simp only [put_pack]
    refine wpAnyH_take (i := 9) (v := undef) rfl (by kernel_rfl) (by kernel_rfl) (by kernel_rfl) (fun _ _ _ h => h) (Or.inr ⟨by kernel_rfl, rfl⟩) (by assumption) ?_
    try simp only [put_pack]
    refine wpAnyH_take (i := 10) (v := undef) rfl (by kernel_rfl) (by kernel_rfl) (by kernel_rfl) (fun _ _ _ h => h) (Or.inr ⟨by kernel_rfl, rfl⟩) (by assumption) ?_
    try simp only [put_pack]
    refine wpAnyH_take (i := 11) (v := ?_) rfl (by kernel_rfl) (by kernel_rfl) (by kernel_rfl) (fun _ _ _ h => h) (Or.inl ⟨by kernel_rfl, ?_⟩) (by assumption) ?_
    rotate_left
    · (intro w hSw; (try dsimp only at hSw); go_simp; try with_reducible rfl)
    try simp only [put_pack]
    refine wpAnyH_take (i := 12) (v := ?_) rfl (by kernel_rfl) (by kernel_rfl) (by kernel_rfl) (fun _ _ _ h => h) (Or.inl ⟨by kernel_rfl, ?_⟩) (by assumption) ?_
    rotate_left
    · (intro w hSw; (try dsimp only at hSw); go_simp; try with_reducible rfl)
    try simp only [put_pack]
    refine wpAnyH_done (by kernel_rfl) ?_ _
    go_simp
    go_wp2_with fail
    go_ret
    refine ⟨?_, hXW.trans hX⟩
    rfl
theorem fine_p (r : Reg) (w : World) (h : Drawn r) (hC : ∀ w, Calls Tryz.prog 100 #[encR r] w fun e w' => e = .returned (.int .i64 (cellsM r)) ∧ Ext w w') : Calls Tryz.prog 223 #[encR r] w fun e w' => e = .returned (.bool (fineM r)) ∧ Ext w w' := by
  obtain ⟨hk, hb, hl, hn, hw, hw6, hrd, ht⟩ := h
  have hL := fun w => locals_p r w hk hn
  have hz := cells_nat r hn
  obtain ⟨kind, base, loc, n, wr, rd, top⟩ := r
  simp only at hk hb hl hn hw hw6 hrd ht
  subst hrd
  unfold fineM
  rcases hk with rfl | rfl | rfl
  · exact pfine1_p base loc n wr top _ _ w hb hl hn hw ht hz hC hL
  · exact pfine6_p base loc n wr top _ _ w hb hl hn ⟨hw6 rfl, hw.2⟩ ht hz hC hL
  · exact pfine7_p base loc n wr top _ _ w hb hl hn hw ht hz hC hL
end Go.Proofs.YtpcohbpeglledaaGreat
/-
  Plans of the program: laying registers.
-/
namespace Go.Proofs.YtpcohbpeglledaaGreat
open Go.RowKit Kv
@[go_sem] theorem build_regw (a b c d e : Int) (w : World) : (Instr.build 77 #[(0, .int .i64 a), (3, .int .i64 b), (4, .int .i64 c), (5, .int .i64 d), (6, .int .i64 e)]).run Tryz.prog w = .ok (.agg #[.int .i64 a, .int .i64 0, .int .i64 0, .int .i64 b, .int .i64 c, .int .i64 d, .int .i64 e]) w := run_build w 77 _ _ (by kernel_rfl)
theorem topM_max (t : Int) : max 1 (min t 255) = topM t := by
  unfold topM clamp within
  split <;> omega
theorem want_p (q : Want) (n mode : Int) (w : World) (hm : mode = 1 ∨ mode = 2) (hq : -1 ≤ q.wr) : Calls Tryz.prog 222 #[.agg #[.int .i64 q.wr, .int .i64 q.top], .int .i64 n, .int .i64 mode] w fun e w' => e = .returned (encR (regOf n mode 0 0 q)) ∧ Ext w w' := by
  obtain ⟨wr, top⟩ := q
  unfold encR regOf
  simp only at hq ⊢
  have ht := topM_max top
  rcases hm with rfl | rfl
  · rw [show kindM 1 wr = 1 from by unfold kindM; rw [if_neg (by omega)]]
    clear hq
    go_enter Tryz.func222, Tryz.ntmps222
    go_wp2_with fail
    refine bodyPost_ret (v := .agg #[.int .i64 1, .int .i64 0, .int .i64 0, .int .i64 n, .int .i64 wr, .int .i64 (-1), .int .i64 (topM top)]) (by simp [results, Tryz.results222, go_sem]) rfl ⟨rfl, ?_⟩
    exact (((Ext.refl _).alloc _).alloc _).alloc _
  · by_cases h : wr = -1
    · rw [show kindM 2 wr = 7 from by unfold kindM; rw [if_pos rfl, if_neg (by omega)]]
      have d : (wr == -1) = true := by rw [beq_iff_eq]; exact h
      clear hq h
      go_enter Tryz.func222, Tryz.ntmps222
      go_wp2_with fail
      refine bodyPost_ret (v := .agg #[.int .i64 7, .int .i64 0, .int .i64 0, .int .i64 n, .int .i64 wr, .int .i64 (-1), .int .i64 (topM top)]) (by simp [results, Tryz.results222, go_sem]) rfl ⟨rfl, ?_⟩
      exact (((Ext.refl _).alloc _).alloc _).alloc _
    · rw [show kindM 2 wr = 6 from by unfold kindM; rw [if_pos rfl, if_pos (by omega)]]
      have d : (wr == -1) = false := by rw [beq_eq_false_iff_ne]; exact h
      clear hq h
      go_enter Tryz.func222, Tryz.ntmps222
      go_wp2_with fail
      refine bodyPost_ret (v := .agg #[.int .i64 6, .int .i64 0, .int .i64 0, .int .i64 n, .int .i64 wr, .int .i64 (-1), .int .i64 (topM top)]) (by simp [results, Tryz.results222, go_sem]) rfl ⟨rfl, ?_⟩
      exact (((Ext.refl _).alloc _).alloc _).alloc _
set_option maxRecDepth 100000 in
set_option maxHeartbeats 2000000 in
theorem lay_p (va : Value) (l : List Want) (n mode base loc : Int) (w : World) (h : WantsAt w va l) (hlen : l.length ≤ 1000) (hC : ∀ (r : Reg) w, Drawn r → r.n = n → Calls Tryz.prog 100 #[encR r] w fun e w' => e = .returned (.int .i64 (cellsM r)) ∧ Ext w w') :
    Calls Tryz.prog 174 #[va, .int .i64 n, .int .i64 mode, .int .i64 base, .int .i64 loc] w (LayPost w.heap.size w (layM l n mode base loc)) := by
  obtain ⟨A, c, rfl, q1, q2, hv⟩ := h
  by_cases h0 : 1 ≤ mode ∧ mode ≤ 2 ∧ 1 ≤ n ∧ n ≤ 8 ∧ 0 ≤ base ∧ 0 ≤ loc
  · have hmd : mode = 1 ∨ mode = 2 := by omega
    rcases hmd with rfl | rfl
    · have hgood := Lib.hid (fun hq => argsM_good (l := l) h0 hq)
      have hbad := Lib.hid (fun (i : Nat) q hq hx => argsM_bad (l := l) (n := n) (mode := 1) (b := base) (c := loc) (i := i) (q := q) hq hx)
      obtain ⟨-, -, n1, n2, b1, l1⟩ := h0
      have d3 : decide (n < 1) = false := by rw [decide_eq_false_iff_not]; omega
      have d4 : decide (8 < n) = false := by rw [decide_eq_false_iff_not]; omega
      have d5 : decide (base < 0) = false := by rw [decide_eq_false_iff_not]; omega
      have d6 : decide (loc < 0) = false := by rw [decide_eq_false_iff_not]; omega
      go_enter Tryz.func174, Tryz.ntmps174
      go_wp2_with fail
      go_loopw [40] (fun i wr => ∃ j : Nat, i = .int .i64 j ∧ j ≤ l.length ∧ Hid (∀ (k : Nat) q, k < j → l[k]? = some q → -1 ≤ q.wr ∧ q.wr < n) ∧ Ext w wr) (fun i _ => l.length - (intOf i).toNat)
      case atStart => exact ⟨0, rfl, by omega, fun k q hk => by omega, Ext.refl _⟩
      case round =>
        obtain ⟨j, rfl, hj, hs, hE⟩ := hrel
        by_cases hl : j < l.length
        · obtain ⟨q, hq⟩ : ∃ q, l[j]? = some q := ⟨_, List.getElem?_eq_getElem hl⟩
          obtain ⟨b, rfl, hb, e1, e2⟩ := want_at (hv.ext hE) hq
          have hE2 := hE.alloc (.cells #[.int .i64 q.wr, .int .i64 q.top] 64)
          by_cases f1 : q.wr < -1
          · have d7 : decide (q.wr < -1) = true := by simpa using f1
            have hf := Lib.hid (hbad.out j q hq (by omega))
            clear hq hgood hbad hs
            go_wp2_with fail
            rw [hf.out]
            refine bodyPost_ret (v := .tuple #[.slice none 0 0, .int .i64 1]) (by simp [results, Tryz.results174, go_sem]) rfl ?_
            exact ⟨hE2, 1, by decide, rfl⟩
          · have d7 : decide (q.wr < -1) = false := by rw [decide_eq_false_iff_not]; omega
            by_cases f2 : n ≤ q.wr
            · have d8 : decide (n ≤ q.wr) = true := by simpa using f2
              have hf := Lib.hid (hbad.out j q hq (by omega))
              clear hq hgood hbad hs
              go_wp2_with fail
              rw [hf.out]
              refine bodyPost_ret (v := .tuple #[.slice none 0 0, .int .i64 1]) (by simp [results, Tryz.results174, go_sem]) rfl ?_
              exact ⟨hE2, 1, by decide, rfl⟩
            · have d8 : decide (n ≤ q.wr) = false := by rw [decide_eq_false_iff_not]; omega
              have hs2 : Hid (∀ (k : Nat) q, k < j + 1 → l[k]? = some q → -1 ≤ q.wr ∧ q.wr < n) := Lib.hid fun k q' hk hq' => by
                by_cases e : k = j
                · subst e
                  rw [hq] at hq'
                  obtain rfl : q = q' := by simpa using hq'
                  omega
                · exact hs.out k q' (by omega) hq'
              have hE3 := Lib.hid hE2
              clear hq hs hgood hbad hE2
              go_wp2_with fail
              refine ⟨⟨j + 1, by go_num, by omega, hs2, hE3.out⟩, ?_⟩
              simp [intOf]; omega
        · have hlay := Lib.hid (hgood.out fun k q hq => hs.out k q (by have := (List.getElem?_eq_some_iff.1 hq).1; omega) hq)
          have hwr := Lib.hid (fun (k : Nat) (q : Want) (hq : l[k]? = some q) => hs.out k q (by have := (List.getElem?_eq_some_iff.1 hq).1; omega) hq)
          clear hgood hbad hs
          go_wp2_with fail
          have hE0 := Lib.hid hE
          clear hE
          go_loopw [3, 4, 14, 56] (fun b' c' v i wr => ∃ (j : Nat) (bi ci : Int) (pre : List Reg), b' = .int .i64 bi ∧ c' = .int .i64 ci ∧ i = .int .i64 j ∧ j ≤ l.length ∧ pre.length = j ∧ 0 ≤ bi ∧ 0 ≤ ci ∧ Hid (layFrom n 1 l base loc = (layFrom n 1 (l.drop j) bi ci).map (pre ++ ·)) ∧ wr.ownsRow w.heap.size 77 7 v j (pre.flatMap regVals) ∧ Ext w wr) (fun _ _ _ i _ => l.length - (intOf i).toNat)
          case atStart => exact ⟨0, base, loc, [], rfl, rfl, rfl, by omega, rfl, b1, l1, by unfold Hid; simp, World.ownsRow_nil _ _ _ _, hE0.out⟩
          case round =>
            clear hE0
            obtain ⟨j, bi, ci, pre, rfl, rfl, rfl, hj, hpl, hbi, hci, hM, hown, hE⟩ := hrel
            by_cases hl : j < l.length
            · obtain ⟨q, hq⟩ : ∃ q, l[j]? = some q := ⟨_, List.getElem?_eq_getElem hl⟩
              obtain ⟨b, rfl, hb, e1, e2⟩ := want_at (hv.ext hE) hq
              obtain ⟨w1, w2⟩ := hwr.out j q hq
              have hdr : l.drop j = q :: l.drop (j + 1) := by
                rw [List.drop_eq_getElem_cons hl]
                congr 1
                rw [List.getElem?_eq_getElem hl] at hq
                simpa using hq
              have hMh := Lib.hid hM
              have hownh := Lib.hid hown
              clear hM hown hq
              have hrk : regOf n 1 bi ci q = ⟨kindM 1 q.wr, bi, ci, n, q.wr, -1, topM q.top⟩ := rfl
              have hWW := fun W => want_p q n 1 W (by omega) w1
              have hK : kindM 1 q.wr = 1 ∨ kindM 1 q.wr = 6 ∨ kindM 1 q.wr = 7 := by unfold kindM; split <;> (try split) <;> simp
              have hK6 : kindM 1 q.wr = 6 → 0 ≤ q.wr := by unfold kindM; split <;> (try split) <;> omega
              have htm := topM_bd q.top
              have hdn : Drawn ⟨kindM 1 q.wr, bi, ci, n, q.wr, -1, topM q.top⟩ := ⟨hK, hbi, hci, ⟨n1, n2⟩, ⟨w1, w2⟩, hK6, rfl, htm⟩
              have hlf := Lib.hid (show layFrom n 1 (l.drop j) bi ci = if fineM ⟨kindM 1 q.wr, bi, ci, n, q.wr, -1, topM q.top⟩ then (layFrom n 1 (l.drop (j + 1)) (bi + cellsM ⟨kindM 1 q.wr, bi, ci, n, q.wr, -1, topM q.top⟩) (ci + localsM ⟨kindM 1 q.wr, bi, ci, n, q.wr, -1, topM q.top⟩)).map (⟨kindM 1 q.wr, bi, ci, n, q.wr, -1, topM q.top⟩ :: ·) else none from by rw [hdr, layFrom_cons, hrk])
              have hCC := fun W => hC ⟨kindM 1 q.wr, bi, ci, n, q.wr, -1, topM q.top⟩ W hdn rfl
              have hFF := fun W => fine_p ⟨kindM 1 q.wr, bi, ci, n, q.wr, -1, topM q.top⟩ W hdn hCC
              have hLL := fun W => locals_p ⟨kindM 1 q.wr, bi, ci, n, q.wr, -1, topM q.top⟩ W hK ⟨n1, n2⟩
              have hcn := cells_nat ⟨kindM 1 q.wr, bi, ci, n, q.wr, -1, topM q.top⟩ ⟨n1, n2⟩
              have hfb : fineM ⟨kindM 1 q.wr, bi, ci, n, q.wr, -1, topM q.top⟩ = true → bi ≤ 32768 ∧ ci ≤ 32768 := by
                unfold fineM
                simp only [Bool.and_eq_true, decide_eq_true_eq]
                omega
              clear hdn hrk htm hdr hK hK6
              unfold encR regOf at hWW
              unfold encR at hFF hCC hLL
              simp only at hWW hFF hCC hLL
              generalize kindM 1 q.wr = kk at *
              generalize topM q.top = tp at *
              generalize cellsM _ = C at *
              generalize localsM _ = D at *
              generalize hfm : fineM _ = F at *
              clear hfm
              go_wp2_with fail
              refine (hWW _).mono ?_
              rintro e w3 ⟨rfl, hx⟩
              clear hWW
              have g3 := Blk.new w3 (.cells #[.int .i64 kk, .int .i64 bi, .int .i64 ci, .int .i64 n, .int .i64 q.wr, .int .i64 (-1), .int .i64 tp] 77)
              have x3 : Ext wr (w3.alloc (.cells #[.int .i64 kk, .int .i64 bi, .int .i64 ci, .int .i64 n, .int .i64 q.wr, .int .i64 (-1), .int .i64 tp] 77)) := (((Ext.refl wr).alloc _).trans hx).alloc _
              have hz3 : wr.heap.size < w3.heap.size := by have := hx.size; simp at this; omega
              clear hx
              go_wp2_with fail
              generalize w3.alloc _ = W at *
              have c_3 := g3.cells
              refine (hFF _).mono ?_
              rintro e w4 ⟨rfl, hx⟩
              clear hFF c_3
              replace g3 := g3.ext hx
              replace x3 := x3.trans hx
              clear hx
              have c_3 := g3.cells
              cases F with
              | false =>
                have hres := Lib.hid (show layM l n 1 base loc = none from by rw [hlay.out, hMh.out, hlf.out]; rfl)
                go_wp2_with fail
                rw [hres.out]
                exact bodyPost_ret (v := .tuple #[.slice none 0 0, .int .i64 6]) (by simp [results, Tryz.results174, go_sem]) rfl ⟨hE.trans x3, 6, by decide, rfl⟩
              | true =>
                obtain ⟨hb1, hb2⟩ := hfb rfl
                have s1 := IntWalk.i64_in (bi + C) (by omega)
                have s2 := IntWalk.i64_in (ci + D) (by omega)
                have hown3 := row_ext hownh.out x3
                have hRn : Hid (u14.ownBlock ≠ some w3.heap.size) := Lib.hid fun e => by have := (hownh.out.lt _ e).2; omega
                have hE3 := hE.trans x3
                have hM2 := Lib.hid (show layFrom n 1 l base loc = (layFrom n 1 (l.drop (j + 1)) (bi + C) (ci + D)).map ((pre ++ [⟨kk, bi, ci, n, q.wr, -1, tp⟩]) ++ ·) from by
                  rw [hMh.out, hlf.out]
                  simp only [if_true, Option.map_map]
                  congr 1
                  funext x
                  simp)
                clear hfb hlf hMh hownh hb1 hb2
                go_wp2_with (at_builtin; refine append_rec info_reg Tryz.underlying28 rfl (by decide) (by decide) rfl _ _ rfl _ j (pre.flatMap regVals) [.int .i64 kk, .int .i64 bi, .int .i64 ci, .int .i64 n, .int .i64 q.wr, .int .i64 (-1), .int .i64 tp] hE3 hown3 rfl rfl rfl (by simp [Value.oneCell']) (by omega) ?_)
                intro v' w5 ho4 hx4 hbk
                have g4 : Blk w5 w3.heap.size _ := (hbk _ g3.lt hRn.out).trans g3
                have c_4 := g4.cells
                clear hbk hown3 hE3 c_3 hRn g3 x3
                go_wp2_with fail
                refine (hCC _).mono ?_
                rintro e w6 ⟨rfl, hx⟩
                replace g4 := g4.ext hx
                replace ho4 := row_ext ho4 hx
                replace hx4 := hx4.trans hx
                clear c_4 hx hCC
                have c_4 := g4.cells
                go_wp2_with fail
                refine (hLL _).mono ?_
                rintro e w7 ⟨rfl, hx⟩
                replace ho4 := row_ext ho4 hx
                replace hx4 := hx4.trans hx
                clear c_4 g4 hx hLL
                have ho5 := Lib.hid ho4
                clear ho4
                go_wp2_with fail
                refine ⟨⟨j + 1, bi + C, ci + D, pre ++ [⟨kk, bi, ci, n, q.wr, -1, tp⟩], rfl, rfl, by go_num, by omega, by simp [hpl], by omega, by omega, hM2, by rw [List.flatMap_append]; exact ho5.out, hx4⟩, ?_⟩
                simp [intOf]; omega
            · have hf : layFrom n 1 l base loc = some pre := by
                rw [hM.out, List.drop_eq_nil_of_le (by omega)]
                simp [layFrom]
              have hres := Lib.hid (hlay.out.trans hf)
              clear hM hf hlay hwr
              have hownh := Lib.hid hown
              clear hown
              go_wp2_with fail
              rw [hres.out]
              refine bodyPost_ret (v := .tuple #[u14, .int .i64 0]) (by simp [results, Tryz.results174, go_sem]) rfl ?_
              exact ⟨hE, u14, rfl, by rw [hpl]; exact hownh.out⟩
    · have hgood := Lib.hid (fun hq => argsM_good (l := l) h0 hq)
      have hbad := Lib.hid (fun (i : Nat) q hq hx => argsM_bad (l := l) (n := n) (mode := 2) (b := base) (c := loc) (i := i) (q := q) hq hx)
      obtain ⟨-, -, n1, n2, b1, l1⟩ := h0
      have d3 : decide (n < 1) = false := by rw [decide_eq_false_iff_not]; omega
      have d4 : decide (8 < n) = false := by rw [decide_eq_false_iff_not]; omega
      have d5 : decide (base < 0) = false := by rw [decide_eq_false_iff_not]; omega
      have d6 : decide (loc < 0) = false := by rw [decide_eq_false_iff_not]; omega
      go_enter Tryz.func174, Tryz.ntmps174
      go_wp2_with fail
      go_loopw [40] (fun i wr => ∃ j : Nat, i = .int .i64 j ∧ j ≤ l.length ∧ Hid (∀ (k : Nat) q, k < j → l[k]? = some q → -1 ≤ q.wr ∧ q.wr < n) ∧ Ext w wr) (fun i _ => l.length - (intOf i).toNat)
      case atStart => exact ⟨0, rfl, by omega, fun k q hk => by omega, Ext.refl _⟩
      case round =>
        obtain ⟨j, rfl, hj, hs, hE⟩ := hrel
        by_cases hl : j < l.length
        · obtain ⟨q, hq⟩ : ∃ q, l[j]? = some q := ⟨_, List.getElem?_eq_getElem hl⟩
          obtain ⟨b, rfl, hb, e1, e2⟩ := want_at (hv.ext hE) hq
          have hE2 := hE.alloc (.cells #[.int .i64 q.wr, .int .i64 q.top] 64)
          by_cases f1 : q.wr < -1
          · have d7 : decide (q.wr < -1) = true := by simpa using f1
            have hf := Lib.hid (hbad.out j q hq (by omega))
            clear hq hgood hbad hs
            go_wp2_with fail
            rw [hf.out]
            refine bodyPost_ret (v := .tuple #[.slice none 0 0, .int .i64 1]) (by simp [results, Tryz.results174, go_sem]) rfl ?_
            exact ⟨hE2, 1, by decide, rfl⟩
          · have d7 : decide (q.wr < -1) = false := by rw [decide_eq_false_iff_not]; omega
            by_cases f2 : n ≤ q.wr
            · have d8 : decide (n ≤ q.wr) = true := by simpa using f2
              have hf := Lib.hid (hbad.out j q hq (by omega))
              clear hq hgood hbad hs
              go_wp2_with fail
              rw [hf.out]
              refine bodyPost_ret (v := .tuple #[.slice none 0 0, .int .i64 1]) (by simp [results, Tryz.results174, go_sem]) rfl ?_
              exact ⟨hE2, 1, by decide, rfl⟩
            · have d8 : decide (n ≤ q.wr) = false := by rw [decide_eq_false_iff_not]; omega
              have hs2 : Hid (∀ (k : Nat) q, k < j + 1 → l[k]? = some q → -1 ≤ q.wr ∧ q.wr < n) := Lib.hid fun k q' hk hq' => by
                by_cases e : k = j
                · subst e
                  rw [hq] at hq'
                  obtain rfl : q = q' := by simpa using hq'
                  omega
                · exact hs.out k q' (by omega) hq'
              have hE3 := Lib.hid hE2
              clear hq hs hgood hbad hE2
              go_wp2_with fail
              refine ⟨⟨j + 1, by go_num, by omega, hs2, hE3.out⟩, ?_⟩
              simp [intOf]; omega
        · have hlay := Lib.hid (hgood.out fun k q hq => hs.out k q (by have := (List.getElem?_eq_some_iff.1 hq).1; omega) hq)
          have hwr := Lib.hid (fun (k : Nat) (q : Want) (hq : l[k]? = some q) => hs.out k q (by have := (List.getElem?_eq_some_iff.1 hq).1; omega) hq)
          clear hgood hbad hs
          go_wp2_with fail
          have hE0 := Lib.hid hE
          clear hE
          go_loopw [3, 4, 14, 56] (fun b' c' v i wr => ∃ (j : Nat) (bi ci : Int) (pre : List Reg), b' = .int .i64 bi ∧ c' = .int .i64 ci ∧ i = .int .i64 j ∧ j ≤ l.length ∧ pre.length = j ∧ 0 ≤ bi ∧ 0 ≤ ci ∧ Hid (layFrom n 2 l base loc = (layFrom n 2 (l.drop j) bi ci).map (pre ++ ·)) ∧ wr.ownsRow w.heap.size 77 7 v j (pre.flatMap regVals) ∧ Ext w wr) (fun _ _ _ i _ => l.length - (intOf i).toNat)
          case atStart => exact ⟨0, base, loc, [], rfl, rfl, rfl, by omega, rfl, b1, l1, by unfold Hid; simp, World.ownsRow_nil _ _ _ _, hE0.out⟩
          case round =>
            clear hE0
            obtain ⟨j, bi, ci, pre, rfl, rfl, rfl, hj, hpl, hbi, hci, hM, hown, hE⟩ := hrel
            by_cases hl : j < l.length
            · obtain ⟨q, hq⟩ : ∃ q, l[j]? = some q := ⟨_, List.getElem?_eq_getElem hl⟩
              obtain ⟨b, rfl, hb, e1, e2⟩ := want_at (hv.ext hE) hq
              obtain ⟨w1, w2⟩ := hwr.out j q hq
              have hdr : l.drop j = q :: l.drop (j + 1) := by
                rw [List.drop_eq_getElem_cons hl]
                congr 1
                rw [List.getElem?_eq_getElem hl] at hq
                simpa using hq
              have hMh := Lib.hid hM
              have hownh := Lib.hid hown
              clear hM hown hq
              have hrk : regOf n 2 bi ci q = ⟨kindM 2 q.wr, bi, ci, n, q.wr, -1, topM q.top⟩ := rfl
              have hWW := fun W => want_p q n 2 W (by omega) w1
              have hK : kindM 2 q.wr = 1 ∨ kindM 2 q.wr = 6 ∨ kindM 2 q.wr = 7 := by unfold kindM; split <;> (try split) <;> simp
              have hK6 : kindM 2 q.wr = 6 → 0 ≤ q.wr := by unfold kindM; split <;> (try split) <;> omega
              have htm := topM_bd q.top
              have hdn : Drawn ⟨kindM 2 q.wr, bi, ci, n, q.wr, -1, topM q.top⟩ := ⟨hK, hbi, hci, ⟨n1, n2⟩, ⟨w1, w2⟩, hK6, rfl, htm⟩
              have hlf := Lib.hid (show layFrom n 2 (l.drop j) bi ci = if fineM ⟨kindM 2 q.wr, bi, ci, n, q.wr, -1, topM q.top⟩ then (layFrom n 2 (l.drop (j + 1)) (bi + cellsM ⟨kindM 2 q.wr, bi, ci, n, q.wr, -1, topM q.top⟩) (ci + localsM ⟨kindM 2 q.wr, bi, ci, n, q.wr, -1, topM q.top⟩)).map (⟨kindM 2 q.wr, bi, ci, n, q.wr, -1, topM q.top⟩ :: ·) else none from by rw [hdr, layFrom_cons, hrk])
              have hCC := fun W => hC ⟨kindM 2 q.wr, bi, ci, n, q.wr, -1, topM q.top⟩ W hdn rfl
              have hFF := fun W => fine_p ⟨kindM 2 q.wr, bi, ci, n, q.wr, -1, topM q.top⟩ W hdn hCC
              have hLL := fun W => locals_p ⟨kindM 2 q.wr, bi, ci, n, q.wr, -1, topM q.top⟩ W hK ⟨n1, n2⟩
              have hcn := cells_nat ⟨kindM 2 q.wr, bi, ci, n, q.wr, -1, topM q.top⟩ ⟨n1, n2⟩
              have hfb : fineM ⟨kindM 2 q.wr, bi, ci, n, q.wr, -1, topM q.top⟩ = true → bi ≤ 32768 ∧ ci ≤ 32768 := by
                unfold fineM
                simp only [Bool.and_eq_true, decide_eq_true_eq]
                omega
              clear hdn hrk htm hdr hK hK6
              unfold encR regOf at hWW
              unfold encR at hFF hCC hLL
              simp only at hWW hFF hCC hLL
              generalize kindM 2 q.wr = kk at *
              generalize topM q.top = tp at *
              generalize cellsM _ = C at *
              generalize localsM _ = D at *
              generalize hfm : fineM _ = F at *
              clear hfm
              go_wp2_with fail
              refine (hWW _).mono ?_
              rintro e w3 ⟨rfl, hx⟩
              clear hWW
              have g3 := Blk.new w3 (.cells #[.int .i64 kk, .int .i64 bi, .int .i64 ci, .int .i64 n, .int .i64 q.wr, .int .i64 (-1), .int .i64 tp] 77)
              have x3 : Ext wr (w3.alloc (.cells #[.int .i64 kk, .int .i64 bi, .int .i64 ci, .int .i64 n, .int .i64 q.wr, .int .i64 (-1), .int .i64 tp] 77)) := (((Ext.refl wr).alloc _).trans hx).alloc _
              have hz3 : wr.heap.size < w3.heap.size := by have := hx.size; simp at this; omega
              clear hx
              go_wp2_with fail
              generalize w3.alloc _ = W at *
              have c_3 := g3.cells
              refine (hFF _).mono ?_
              rintro e w4 ⟨rfl, hx⟩
              clear hFF c_3
              replace g3 := g3.ext hx
              replace x3 := x3.trans hx
              clear hx
              have c_3 := g3.cells
              cases F with
              | false =>
                have hres := Lib.hid (show layM l n 2 base loc = none from by rw [hlay.out, hMh.out, hlf.out]; rfl)
                go_wp2_with fail
                rw [hres.out]
                exact bodyPost_ret (v := .tuple #[.slice none 0 0, .int .i64 6]) (by simp [results, Tryz.results174, go_sem]) rfl ⟨hE.trans x3, 6, by decide, rfl⟩
              | true =>
                obtain ⟨hb1, hb2⟩ := hfb rfl
                have s1 := IntWalk.i64_in (bi + C) (by omega)
                have s2 := IntWalk.i64_in (ci + D) (by omega)
                have hown3 := row_ext hownh.out x3
                have hRn : Hid (u14.ownBlock ≠ some w3.heap.size) := Lib.hid fun e => by have := (hownh.out.lt _ e).2; omega
                have hE3 := hE.trans x3
                have hM2 := Lib.hid (show layFrom n 2 l base loc = (layFrom n 2 (l.drop (j + 1)) (bi + C) (ci + D)).map ((pre ++ [⟨kk, bi, ci, n, q.wr, -1, tp⟩]) ++ ·) from by
                  rw [hMh.out, hlf.out]
                  simp only [if_true, Option.map_map]
                  congr 1
                  funext x
                  simp)
                clear hfb hlf hMh hownh hb1 hb2
                go_wp2_with (at_builtin; refine append_rec info_reg Tryz.underlying28 rfl (by decide) (by decide) rfl _ _ rfl _ j (pre.flatMap regVals) [.int .i64 kk, .int .i64 bi, .int .i64 ci, .int .i64 n, .int .i64 q.wr, .int .i64 (-1), .int .i64 tp] hE3 hown3 rfl rfl rfl (by simp [Value.oneCell']) (by omega) ?_)
                intro v' w5 ho4 hx4 hbk
                have g4 : Blk w5 w3.heap.size _ := (hbk _ g3.lt hRn.out).trans g3
                have c_4 := g4.cells
                clear hbk hown3 hE3 c_3 hRn g3 x3
                go_wp2_with fail
                refine (hCC _).mono ?_
                rintro e w6 ⟨rfl, hx⟩
                replace g4 := g4.ext hx
                replace ho4 := row_ext ho4 hx
                replace hx4 := hx4.trans hx
                clear c_4 hx hCC
                have c_4 := g4.cells
                go_wp2_with fail
                refine (hLL _).mono ?_
                rintro e w7 ⟨rfl, hx⟩
                replace ho4 := row_ext ho4 hx
                replace hx4 := hx4.trans hx
                clear c_4 g4 hx hLL
                have ho5 := Lib.hid ho4
                clear ho4
                go_wp2_with fail
                refine ⟨⟨j + 1, bi + C, ci + D, pre ++ [⟨kk, bi, ci, n, q.wr, -1, tp⟩], rfl, rfl, by go_num, by omega, by simp [hpl], by omega, by omega, hM2, by rw [List.flatMap_append]; exact ho5.out, hx4⟩, ?_⟩
                simp [intOf]; omega
            · have hf : layFrom n 2 l base loc = some pre := by
                rw [hM.out, List.drop_eq_nil_of_le (by omega)]
                simp [layFrom]
              have hres := Lib.hid (hlay.out.trans hf)
              clear hM hf hlay hwr
              have hownh := Lib.hid hown
              clear hown
              go_wp2_with fail
              rw [hres.out]
              refine bodyPost_ret (v := .tuple #[u14, .int .i64 0]) (by simp [results, Tryz.results174, go_sem]) rfl ?_
              exact ⟨hE, u14, rfl, by rw [hpl]; exact hownh.out⟩
  · rw [argsM_false h0]
    go_enter Tryz.func174, Tryz.ntmps174
    have hfin : LayPost w.heap.size w none (.returned (.tuple #[.slice none 0 0, .int .i64 1])) w := ⟨Ext.refl _, 1, by decide, rfl⟩
    by_cases m1 : mode = 1 ∨ mode = 2
    · by_cases m3 : n < 1
      · have d3 : decide (n < 1) = true := by simpa using m3
        rcases m1 with rfl | rfl
        all_goals
          go_wp2_with fail
          exact bodyPost_ret (v := .tuple #[.slice none 0 0, .int .i64 1]) (by simp [results, Tryz.results174, go_sem]) rfl hfin
      · have d3 : decide (n < 1) = false := by simpa using m3
        by_cases m4 : 8 < n
        · have d4 : decide (8 < n) = true := by simpa using m4
          rcases m1 with rfl | rfl
          all_goals
            go_wp2_with fail
            exact bodyPost_ret (v := .tuple #[.slice none 0 0, .int .i64 1]) (by simp [results, Tryz.results174, go_sem]) rfl hfin
        · have d4 : decide (8 < n) = false := by simpa using m4
          by_cases m5 : base < 0
          · have d5 : decide (base < 0) = true := by simpa using m5
            rcases m1 with rfl | rfl
            all_goals
              go_wp2_with fail
              exact bodyPost_ret (v := .tuple #[.slice none 0 0, .int .i64 1]) (by simp [results, Tryz.results174, go_sem]) rfl hfin
          · have d5 : decide (base < 0) = false := by simpa using m5
            have d6 : decide (loc < 0) = true := by rw [decide_eq_true_eq]; omega
            rcases m1 with rfl | rfl
            all_goals
              go_wp2_with fail
              exact bodyPost_ret (v := .tuple #[.slice none 0 0, .int .i64 1]) (by simp [results, Tryz.results174, go_sem]) rfl hfin
    · have d1 : (mode != 1) = true := by rw [bne_iff_ne]; omega
      have d2 : (mode != 2) = true := by rw [bne_iff_ne]; omega
      go_wp2_with fail
      exact bodyPost_ret (v := .tuple #[.slice none 0 0, .int .i64 1]) (by simp [results, Tryz.results174, go_sem]) rfl hfin
end Go.Proofs.YtpcohbpeglledaaGreat
/-
  The cells of any register that a plan lays.
-/
namespace Go.Proofs.YtpcohbpeglledaaGreat
open Go.RowKit Kv
theorem append_none {w : World} {ops : Array Oper} {rest : List Oper} {o : Oper} {a : Act} {Q : Exit → Act → World → Prop} {z : Value} {e t : TypeId} {size bytes : Nat}
    (hinfo : (Tryz.prog.info? e).map (fun i => (i.zero, i.size, i.bytes)) = some (some z, size, bytes)) (hund : Tryz.prog.underlying t = some (.slice e)) (hgd : o.guard = none) (s x : Operand)
    (ho : o.op = .call { callee := .builtin .append, args := #[s, x], argTypes := #[t, t] }) (base : Nat) (v : Value) (n : Nat) (xs : List Value) (hown : w.ownsRow base e size v n xs) (hs : a.eval s = v) (hx : a.eval x = .slice none 0 0)
    (h : wpList Tryz.prog ops Q rest (a.put o.dst v) w) : wpList Tryz.prog ops Q (o :: rest) a w := by
  obtain ⟨i0, hi, hz0, hz1, hz2⟩ := info_parts hinfo
  exact wpList_append_own_none hgd s x t ho base e i0 size hund hi v n xs hs hown hx h
set_option maxRecDepth 100000 in
theorem mstrips1_p (w : World) : Calls Tryz.prog 221 #[.int .i64 1] w fun e w' => ∃ A c, e = .returned (.slice A 0 c) ∧ Ext w w' := by
  go_enter Tryz.func221, Tryz.ntmps221
  go_wp2_with fail
  refine (mthreads_p 1 _ (by omega) (by omega)).mono ?_
  rintro e w' ⟨rfl, rfl⟩
  go_wp2_with fail
  go_loopw [3, 6] (fun v i wr => ∃ j : Nat, i = .int .i64 j ∧ j ≤ 1 ∧ wr.ownsRow w.heap.size 129 3 v 0 [] ∧ Ext w wr) (fun _ i _ => 1 - (intOf i).toNat)
  case atStart => exact ⟨0, rfl, by omega, World.ownsRow_nil _ _ _ _, Ext.refl _⟩
  case round =>
    obtain ⟨j, rfl, hj, hown, hX⟩ := hrel
    by_cases hl : j < 1
    · obtain rfl : j = 0 := by omega
      go_wp2_with fail
      refine (tstrips_p 1 _ (by omega) (by omega)).mono ?_
      rintro e w2 ⟨v2, rfl, hr2, hx2⟩
      rw [show 2 * ((1 - 1 : Int).toNat * (1 - 1 : Int).toNat) = 0 from rfl, show pairVals ((1 - 1 : Int).toNat * (1 - 1 : Int).toNat) = [] from rfl] at hr2
      replace hown := row_ext hown hx2
      replace hX := hX.trans hx2
      clear hx2
      rcases hr2.2 with ⟨rfl, -⟩ | ⟨g, cap, cur, rfl, q1, q2, q3, q4, -⟩
      · clear hr2
        go_wp2_with (at_builtin; refine append_none info_strip Tryz.underlying126 rfl _ _ rfl w.heap.size _ 0 [] hown rfl rfl ?_)
        have hoh := Lib.hid hown
        clear hown
        go_wp2_with fail
        refine ⟨⟨1, by go_num, by omega, hoh.out, hX⟩, ?_⟩
        simp [intOf]
      · clear hr2
        go_wp2_with (at_builtin; refine append_recs info_strip Tryz.underlying126 rfl (by decide) (by decide) rfl _ _ rfl _ 0 [] [] ⟨g, 0, none⟩ 0 cap hX hown rfl rfl rfl (fun i u hu => by simp at hu) (fun u hu => by simp at hu) (by omega) (by omega) ?_)
        intro v' w' ho hx'
        have hoh := Lib.hid ho
        clear hown ho q1 q2 q3 q4
        go_wp2_with fail
        refine ⟨⟨1, by go_num, by omega, hoh.out, hx'⟩, ?_⟩
        simp [intOf]
    · obtain rfl : j = 1 := by omega
      obtain ⟨A, c, rfl, -⟩ := Recs.of_row hown
      clear hown
      go_wp2_with fail
      go_ret
      exact ⟨_, _, rfl, hX⟩
set_option maxRecDepth 100000 in
theorem cells71_p (base loc wr rd top : Int) (w : World) : Calls Tryz.prog 100 #[.agg #[.int .i64 7, .int .i64 base, .int .i64 loc, .int .i64 1, .int .i64 wr, .int .i64 rd, .int .i64 top]] w fun e w' => e = .returned (.int .i64 0) ∧ Ext w w' := by
  have hS : ∀ w, Calls Tryz.prog 173 #[.agg #[.int .i64 7, .int .i64 base, .int .i64 loc, .int .i64 1, .int .i64 wr, .int .i64 rd, .int .i64 top]] w fun e w' => ∃ A c, e = .returned (.slice A 0 c) ∧ Ext w w' := by
    intro w
    have hX := Ext.refl w
    have b1 := Blk.new w (.cells #[.int .i64 7, .int .i64 base, .int .i64 loc, .int .i64 1, .int .i64 wr, .int .i64 rd, .int .i64 top] 77)
    replace hX := hX.alloc (.cells #[.int .i64 7, .int .i64 base, .int .i64 loc, .int .i64 1, .int .i64 wr, .int .i64 rd, .int .i64 top] 77)
    have c_b1 := b1.cells
    go_enter Tryz.func173, Tryz.ntmps173
    go_wp2_with fail
    refine (mstrips1_p _).mono ?_
    rintro e w2 ⟨A, c, rfl, hx⟩
    have hf := Lib.hid (hX.trans hx)
    clear hx
    go_wp2_with fail
    go_ret
    exact ⟨_, _, rfl, hf.out⟩
  have hX := Ext.refl w
  have b1 := Blk.new w (.cells #[.int .i64 7, .int .i64 base, .int .i64 loc, .int .i64 1, .int .i64 wr, .int .i64 rd, .int .i64 top] 77)
  replace hX := hX.alloc (.cells #[.int .i64 7, .int .i64 base, .int .i64 loc, .int .i64 1, .int .i64 wr, .int .i64 rd, .int .i64 top] 77)
  have c_b1 := b1.cells
  go_enter Tryz.func100, Tryz.ntmps100
  go_wp2_with fail
  refine (hS _).mono ?_
  rintro e w2 ⟨A, c, rfl, hx⟩
  have hf := Lib.hid (hX.trans hx)
  clear hx hS c_b1 b1 hX
  go_wp2_with fail
  go_loopw [3, 9] (fun s i wr => i = .int .i64 0 ∧ s = .int .i64 0 ∧ w2 = wr) (fun _ _ _ => 0)
  case atStart => exact ⟨rfl, rfl, rfl⟩
  case round =>
    obtain ⟨rfl, rfl, rfl⟩ := hrel
    go_wp2_with fail
    go_ret
    exact ⟨rfl, hf.out⟩
theorem cells_all (r : Reg) (w : World) (hk : r.kind = 1 ∨ r.kind = 6 ∨ r.kind = 7) (hn : 1 ≤ r.n ∧ r.n ≤ 8) : Calls Tryz.prog 100 #[encR r] w fun e w' => e = .returned (.int .i64 (cellsM r)) ∧ Ext w w' := by
  by_cases h : r.kind = 7 ∧ r.n = 1
  · obtain ⟨kind, base, loc, n, wr, rd, top⟩ := r
    obtain ⟨rfl, rfl⟩ := h
    exact cells71_p base loc wr rd top w
  · exact cells_p r w (by omega) hn (fun w => mthreads_p r.n w hn.1 hn.2)
/-- A plan laid by the program. -/
theorem plan_p (va : Value) (l : List Want) (n mode base loc : Int) (w : World) (h : WantsAt w va l) (hlen : l.length ≤ 1000) :
    Calls Tryz.prog 174 #[va, .int .i64 n, .int .i64 mode, .int .i64 base, .int .i64 loc] w (LayPost w.heap.size w (layM l n mode base loc)) :=
  lay_p va l n mode base loc w h hlen fun r w hd _ => cells_all r w hd.kind hd.n
end Go.Proofs.YtpcohbpeglledaaGreat
/-
  The splitter: passing it, by the program.
-/
namespace Go.Proofs.YtpcohbpeglledaaGreat
open Go.RowKit Kv
theorem RegsAt.ext {ix : List Nat} {p b : Nat} {w w' : World} {l : List Reg} (h : RegsAt ix w p b l) (hx : Ext w w') (hp : p < w.heap.size) : RegsAt ix w' p b l := h.keep (B := 0) (Keep.of_ext hx hp (Nat.zero_le _))
theorem two_boxes {B p : Nat} {w : World} {S : TS} (h : Plays B w p S) (o1 o2 : Obj) :
    HeldP ((w.alloc o1).alloc o2).drew p w.heap.size o1 ∧ HeldP ((w.alloc o1).alloc o2).drew p (w.heap.size + 1) o2 ∧ Plays B ((w.alloc o1).alloc o2).drew p S ∧ KeepP B p w ((w.alloc o1).alloc o2).drew := by
  have h2 := (h.alloc o1).held o2
  rw [World.size_alloc] at h2
  exact ⟨((h.held o1).alloc o2 (h.alloc o1).lt).drew, h2.drew, ((h.alloc o1).alloc o2).drew, ((Keep.alloc o1 h.lt h.le).trans (Keep.alloc o2 (h.alloc o1).lt (h.alloc o1).le)).drew⟩
set_option maxRecDepth 100000 in
set_option maxHeartbeats 4000000 in
theorem pass_p (B p : Nat) (S : TS) (x y : Reg) (me : Int) (b c : Nat) (w : World) (h : Plays B w p S) (hl : RegsAt [2, 3, 4] w p b [x, y]) (hx : x.ok) (hy : y.ok) (hm : 0 ≤ me) (hmx : me < x.n) (hmy : me < y.n) :
    Calls Tryz.prog 19 #[.pointer (some ⟨p, 0, none⟩), .slice (some ⟨b, 0, none⟩) 2 c, .int .i64 me] w (Post encI B p w ((passM x y me).run S)) := by
  generalize hR : Post encI B p w ((passM x y me).run S) = R
  have hO : Owes R encI B p w ((passM x y me).run S) := hR ▸ owes _ _ _ _ _
  clear hR
  have hmw := IntWalk.i64_in (me + 1) (by have := hx.n; omega)
  obtain ⟨⟨c0, c1, c2, c3, c4, c5, c6⟩, ⟨c7, c8, c9, c10, c11, c12, c13⟩⟩ := hl.two
  have hn := hx.n
  have hK := Keep.refl [2, 3, 4] B p w
  have hP := h
  clear h
  unfold passM at hO
  go_enter Tryz.func19, Tryz.ntmps19
  go_wp2_with fail
  go_region_held2 (fun w' => (w'.cell? ⟨b, 0, none⟩ = some (.int .i64 x.kind) ∧ w'.cell? ⟨b, 1, none⟩ = some (.int .i64 x.base) ∧ w'.cell? ⟨b, 2, none⟩ = some (.int .i64 x.loc) ∧ w'.cell? ⟨b, 3, none⟩ = some (.int .i64 x.n) ∧ w'.cell? ⟨b, 4, none⟩ = some (.int .i64 x.wr) ∧ w'.cell? ⟨b, 5, none⟩ = some (.int .i64 x.rd) ∧ w'.cell? ⟨b, 6, none⟩ = some (.int .i64 x.top)) ∧
      (w'.cell? ⟨b, 7, none⟩ = some (.int .i64 y.kind) ∧ w'.cell? ⟨b, 8, none⟩ = some (.int .i64 y.base) ∧ w'.cell? ⟨b, 9, none⟩ = some (.int .i64 y.loc) ∧ w'.cell? ⟨b, 10, none⟩ = some (.int .i64 y.n) ∧ w'.cell? ⟨b, 11, none⟩ = some (.int .i64 y.wr) ∧ w'.cell? ⟨b, 12, none⟩ = some (.int .i64 y.rd) ∧ w'.cell? ⟨b, 13, none⟩ = some (.int .i64 y.top))) (first | with_reducible exact hl.two | go_keep) (fail)
  · rename_i hh
    clear hh
    obtain ⟨b1, b2, hP2, hK2⟩ := two_boxes hP (.cells #[.int .i64 x.kind, .int .i64 x.base, .int .i64 x.loc, .int .i64 x.n, .int .i64 x.wr, .int .i64 x.rd, .int .i64 x.top] 77) (.cells #[.int .i64 y.kind, .int .i64 y.base, .int .i64 y.loc, .int .i64 y.n, .int .i64 y.wr, .int .i64 y.rd, .int .i64 y.top] 77)
    clear hP hK hl
    have hP := hP2
    have hK := hK2
    clear hP2 hK2
    have c_b1 := b1.cells
    have c_b2 := b2.cells
    clear c0 c1 c2 c3 c4 c5 c6 c7 c8 c9 c10 c11 c12 c13
    go_wp2_with fail
    refine tstep hO hK (reg_write_p B p S x me (me + 1) _ hP hx ⟨hm, hmx⟩) (fun _ h => ⟨rfl, h⟩) ?_
    clear hO hK hP c_b1 c_b2
    intro u S w1 hr hP hk hK hO
    replace b1 := b1.keep hk
    have c_b1 := b1.cells
    replace b2 := b2.keep hk
    have c_b2 := b2.cells
    clear hk hr
    go_wp2_with fail
    refine tstep hO hK (reg_read_p B p S y me _ hP hy ⟨hm, hmy⟩) (fun _ h => ⟨rfl, h⟩) ?_
    clear hO hK hP c_b1 c_b2
    intro v S w1 hr hP hk hK hO
    replace b1 := b1.keep hk
    have c_b1 := b1.cells
    replace b2 := b2.keep hk
    have c_b2 := b2.cells
    clear hk hr
    by_cases hv : v = 0
    · rw [if_neg (by simpa using hv)] at hO
      have hv2 : (v != 0) = false := by simp [hv]
      clear hv
      go_wp2_with fail
      refine tstep hO hK (reg_write_p B p S y me 1 _ hP hy ⟨hm, hmy⟩) (fun _ h => ⟨rfl, h⟩) ?_
      clear hO hK hP c_b1 c_b2
      intro u S w1 hr hP hk hK hO
      replace b1 := b1.keep hk
      have c_b1 := b1.cells
      replace b2 := b2.keep hk
      have c_b2 := b2.cells
      clear hk hr
      go_wp2_with fail
      refine tstep hO hK (reg_read_p B p S x me _ hP hx ⟨hm, hmx⟩) (fun _ h => ⟨rfl, h⟩) ?_
      clear hO hK hP c_b1 c_b2
      intro z S w1 hr hP hk hK hO
      replace b1 := b1.keep hk
      have c_b1 := b1.cells
      replace b2 := b2.keep hk
      have c_b2 := b2.cells
      clear hk hr
      by_cases hz : z = me + 1
      · rw [if_pos hz] at hO
        have hz2 : (z == me + 1) = true := by simp [hz]
        clear hz
        have hf : R (.returned (.int .i64 0)) w1 := hO.done hP hK
        clear hO hP hK
        go_wp2_with fail
        exact hf
      · rw [if_neg hz] at hO
        have hz2 : (z == me + 1) = false := by rw [beq_eq_false_iff_ne]; exact hz
        clear hz
        have hf : R (.returned (.int .i64 2)) w1 := hO.done hP hK
        clear hO hP hK
        go_wp2_with fail
        exact hf
    · rw [if_pos hv] at hO
      have hv2 : (v != 0) = true := by rw [bne_iff_ne]; exact hv
      have hf : R (.returned (.int .i64 1)) w1 := hO.done hP hK
      clear hO hP hK hv
      go_wp2_with fail
      exact hf
  · rename_i hh
    clear hh
    obtain ⟨b2, b1, hP2, hK2⟩ := two_boxes hP (.cells #[.int .i64 y.kind, .int .i64 y.base, .int .i64 y.loc, .int .i64 y.n, .int .i64 y.wr, .int .i64 y.rd, .int .i64 y.top] 77) (.cells #[.int .i64 x.kind, .int .i64 x.base, .int .i64 x.loc, .int .i64 x.n, .int .i64 x.wr, .int .i64 x.rd, .int .i64 x.top] 77)
    clear hP hK hl
    have hP := hP2
    have hK := hK2
    clear hP2 hK2
    have c_b1 := b1.cells
    have c_b2 := b2.cells
    clear c0 c1 c2 c3 c4 c5 c6 c7 c8 c9 c10 c11 c12 c13
    go_wp2_with fail
    refine tstep hO hK (reg_write_p B p S x me (me + 1) _ hP hx ⟨hm, hmx⟩) (fun _ h => ⟨rfl, h⟩) ?_
    clear hO hK hP c_b1 c_b2
    intro u S w1 hr hP hk hK hO
    replace b1 := b1.keep hk
    have c_b1 := b1.cells
    replace b2 := b2.keep hk
    have c_b2 := b2.cells
    clear hk hr
    go_wp2_with fail
    refine tstep hO hK (reg_read_p B p S y me _ hP hy ⟨hm, hmy⟩) (fun _ h => ⟨rfl, h⟩) ?_
    clear hO hK hP c_b1 c_b2
    intro v S w1 hr hP hk hK hO
    replace b1 := b1.keep hk
    have c_b1 := b1.cells
    replace b2 := b2.keep hk
    have c_b2 := b2.cells
    clear hk hr
    by_cases hv : v = 0
    · rw [if_neg (by simpa using hv)] at hO
      have hv2 : (v != 0) = false := by simp [hv]
      clear hv
      go_wp2_with fail
      refine tstep hO hK (reg_write_p B p S y me 1 _ hP hy ⟨hm, hmy⟩) (fun _ h => ⟨rfl, h⟩) ?_
      clear hO hK hP c_b1 c_b2
      intro u S w1 hr hP hk hK hO
      replace b1 := b1.keep hk
      have c_b1 := b1.cells
      replace b2 := b2.keep hk
      have c_b2 := b2.cells
      clear hk hr
      go_wp2_with fail
      refine tstep hO hK (reg_read_p B p S x me _ hP hx ⟨hm, hmx⟩) (fun _ h => ⟨rfl, h⟩) ?_
      clear hO hK hP c_b1 c_b2
      intro z S w1 hr hP hk hK hO
      replace b1 := b1.keep hk
      have c_b1 := b1.cells
      replace b2 := b2.keep hk
      have c_b2 := b2.cells
      clear hk hr
      by_cases hz : z = me + 1
      · rw [if_pos hz] at hO
        have hz2 : (z == me + 1) = true := by simp [hz]
        clear hz
        have hf : R (.returned (.int .i64 0)) w1 := hO.done hP hK
        clear hO hP hK
        go_wp2_with fail
        exact hf
      · rw [if_neg hz] at hO
        have hz2 : (z == me + 1) = false := by rw [beq_eq_false_iff_ne]; exact hz
        clear hz
        have hf : R (.returned (.int .i64 2)) w1 := hO.done hP hK
        clear hO hP hK
        go_wp2_with fail
        exact hf
    · rw [if_pos hv] at hO
      have hv2 : (v != 0) = true := by rw [bne_iff_ne]; exact hv
      have hf : R (.returned (.int .i64 1)) w1 := hO.done hP hK
      clear hO hP hK hv
      go_wp2_with fail
      exact hf
end Go.Proofs.YtpcohbpeglledaaGreat
/-
  The splitter: what any thread does that passes it is the document's, access by access.
-/
namespace Go.Proofs.YtpcohbpeglledaaGreat
open Go.RowKit Kv
/-- Registers that lay there ahead of a play. -/
theorem regsP {w0 w1 : World} {B p b : Nat} {S : TS} {rs : List Reg} (hb : b < w0.heap.size) (hc : ∀ (i : Nat) u, (rs.flatMap regVals)[i]? = some u → w0.cell? ⟨b, i, none⟩ = some u) (hx : Ext w0 w1) (hP : Plays B w1 p S) (hB : w0.heap.size ≤ B) : RegsAt [2, 3, 4] w1 p b rs := by
  refine ⟨Nat.lt_of_lt_of_le hb hx.size, fun ho => ?_, fun j u hu => (hx.cell (p := ⟨b, j, none⟩) hb).trans (hc j u hu)⟩
  obtain ⟨_, _, _, _, _, _, h⟩ := hP
  have := (h.own ho).1
  omega
theorem regsR {w0 w1 : World} {B p b : Nat} {o : Bool} {S : TS} {rs : List Reg} (hb : b < w0.heap.size) (hc : ∀ (i : Nat) u, (rs.flatMap regVals)[i]? = some u → w0.cell? ⟨b, i, none⟩ = some u) (hx : Ext w0 w1) (hP : RAt B w1 p o S) (hB : w0.heap.size ≤ B) : RegsAt [3, 4, 5] w1 p b rs := by
  refine ⟨Nat.lt_of_lt_of_le hb hx.size, fun ho => ?_, fun j u hu => (hx.cell (p := ⟨b, j, none⟩) hb).trans (hc j u hu)⟩
  obtain ⟨_, _, _, _, _, _, h, _⟩ := hP
  have := (h.own ho).1
  omega
theorem closure31 (B p : Nat) (S : TS) (x y : Reg) (t : Int) (b c bl bt : Nat) (w : World) (h : Plays B w p S) (hl : RegsAt [2, 3, 4] w p b [x, y]) (hx : x.ok) (hy : y.ok) (hm : 0 ≤ t) (hmx : t < x.n) (hmy : t < y.n)
    (c1 : w.cell? ⟨bl, 0, none⟩ = some (.slice (some ⟨b, 0, none⟩) 2 c)) (c2 : w.cell? ⟨bt, 0, none⟩ = some (.int .i64 t)) :
    Calls Tryz.prog 18 #[.pointer (some ⟨p, 0, none⟩), .pointer (some ⟨bl, 0, none⟩), .pointer (some ⟨bt, 0, none⟩)] w (Post encI B p w ((passM x y t).run S)) := by
  generalize hR : Post encI B p w ((passM x y t).run S) = R
  have hO : Owes R encI B p w ((passM x y t).run S) := hR ▸ owes _ _ _ _ _
  clear hR
  have hK := Keep.refl [2, 3, 4] B p w
  go_enter Tryz.func18, Tryz.ntmps18
  go_wp2_with fail
  clear c1 c2
  refine tlast hO hK (pass_p B p S x y t b c w h hl hx hy hm hmx hmy) (fun _ h => ⟨rfl, h⟩) ?_
  intro v S1 w1 hr hP1 hk1 hK1 hO1
  have hf := hO1.done hP1 hK1
  clear hO1 hP1 hK1 hr hk1 hO h hl hK
  go_wp2_with fail
  exact hf
theorem alive31a (B p : Nat) (S : TS) (x y : Reg) (b c bl : Nat) (w : World) (h : Plays B w p S) (hl : RegsAt [2, 3, 4] w p b [x, y]) (hx : x.ok) (hy : y.ok) (hmx : 2 < x.n) (hmy : 2 < y.n)
    (c1 : w.cell? ⟨bl, 0, none⟩ = some (.slice (some ⟨b, 0, none⟩) 2 c)) :
    Calls Tryz.prog 83 #[.pointer (some ⟨p, 0, none⟩), .pointer (some ⟨bl, 0, none⟩)] w (Post encI B p w ((passM x y 2).run S)) := by
  generalize hR : Post encI B p w ((passM x y 2).run S) = R
  have hO : Owes R encI B p w ((passM x y 2).run S) := hR ▸ owes _ _ _ _ _
  clear hR
  have hK := Keep.refl [2, 3, 4] B p w
  go_enter Tryz.func83, Tryz.ntmps83
  go_wp2_with fail
  clear c1
  refine tlast hO hK (pass_p B p S x y 2 b c w h hl hx hy (by omega) hmx hmy) (fun _ h => ⟨rfl, h⟩) ?_
  intro v S1 w1 hr hP1 hk1 hK1 hO1
  have hf := hO1.done hP1 hK1
  clear hO1 hP1 hK1 hr hk1 hO h hl hK
  go_wp2_with fail
  exact hf
theorem alive31b (B p : Nat) (S : TS) (x y : Reg) (b c bl : Nat) (w : World) (h : Plays B w p S) (hl : RegsAt [2, 3, 4] w p b [x, y]) (hx : x.ok) (hy : y.ok) (hmx : 0 < x.n) (hmy : 0 < y.n)
    (c1 : w.cell? ⟨bl, 0, none⟩ = some (.slice (some ⟨b, 0, none⟩) 2 c)) :
    Calls Tryz.prog 84 #[.pointer (some ⟨p, 0, none⟩), .pointer (some ⟨bl, 0, none⟩)] w (Post encI B p w ((passM x y 0).run S)) := by
  generalize hR : Post encI B p w ((passM x y 0).run S) = R
  have hO : Owes R encI B p w ((passM x y 0).run S) := hR ▸ owes _ _ _ _ _
  clear hR
  have hK := Keep.refl [2, 3, 4] B p w
  go_enter Tryz.func84, Tryz.ntmps84
  go_wp2_with fail
  clear c1
  refine tlast hO hK (pass_p B p S x y 0 b c w h hl hx hy (by omega) hmx hmy) (fun _ h => ⟨rfl, h⟩) ?_
  intro v S1 w1 hr hP1 hk1 hK1 hO1
  have hf := hO1.done hP1 hK1
  clear hO1 hP1 hK1 hr hk1 hO h hl hK
  go_wp2_with fail
  exact hf
theorem ints_new (w : World) (l : List Int) (h : l.length ≤ 9223372036854775807) : Ints (w.alloc (.cells (l.map (Value.int .i64)).toArray 3)) (.slice (some ⟨w.heap.size, 0, none⟩) l.length l.length) l := by
  refine ⟨_, _, rfl, Nat.le_refl _, h, fun _ => ⟨w.heap.size, 0, rfl, by simp, fun i x hi => ?_⟩⟩
  have hh := World.alloc_heap_new w (.cells (l.map (Value.int .i64)).toArray 3)
  simp only [World.cell?, hh, Nat.zero_add]
  simp [hi]
/-- An Out's parts. -/
theorem Outs.parts {w : World} {v : Value} {d : Bool} {S : TS} (h : Outs w v d S) : ∃ A c A' c' As k n, v = .agg #[.bool d, .slice A S.acc.length c, .slice A' S.nts.length c', .slice As n k] := by
  obtain ⟨A, c, A', c', vs, L, rfl, hO⟩ := h
  obtain ⟨As, k, rfl, _, _⟩ := hO.locs.slice
  exact ⟨A, c, A', c', As, k, _, rfl⟩
def ra : Reg := ⟨1, 3, 2, 3, -1, -1, 3⟩
def rb : Reg := ⟨1, 4, 2, 3, -1, -1, 1⟩
set_option maxRecDepth 100000 in
theorem alive31 (w : World) : Calls Tryz.prog 14 #[] w fun e w' => e = .returned (.bool true) ∧ Ext w w' := by
  have hlay : layM [⟨-1, nM 3⟩, ⟨-1, 1⟩] 3 1 3 2 = some [ra, rb] := by rfl
  have hra : ra.ok := ⟨.inl rfl, by decide, by decide, by decide, fun h => by cases h⟩
  have hrb : rb.ok := ⟨.inl rfl, by decide, by decide, by decide, fun h => by cases h⟩
  have hmf : ∀ (fn : Fn) (first cap : Array Value) (w : World), (Instr.makeFunc fn first cap).run Tryz.prog w = .ok (.func fn first cap) w := fun _ _ _ _ => rfl
  go_enter Tryz.func14, Tryz.ntmps14
  go_wp2_with fail
  refine (swants_p 3 w).mono ?_
  rintro e w1 ⟨v1, rfl, hW, hX⟩
  have hSm := some_r v1 _ 3 1 w1 hW (by simp)
  rw [hlay] at hSm
  obtain ⟨Aw, cw, rfl, _, _, _⟩ := hW
  clear hlay
  go_wp2_with fail
  refine hSm.mono ?_
  rintro e w2 ⟨v2, rfl, hx2, hrow⟩
  replace hX := hX.trans hx2
  obtain ⟨Ar, cr, rfl, r1, r2, hV⟩ := Recs.of_row hrow
  clear hSm hrow hx2
  obtain ⟨b, rfl, hb, hc⟩ := hV (by simp [regVals])
  simp only [Option.getD_some, List.length_cons, List.length_nil] at *
  go_wp2_with fail
  have g1 := Blk.new w2 (.cells #[.slice (some ⟨b, 0, none⟩) 2 cr] 28)
  have x1 := (Ext.refl w2).alloc (.cells #[.slice (some ⟨b, 0, none⟩) 2 cr] 28)
  have hA := ints_new (w2.alloc (.cells #[.slice (some ⟨b, 0, none⟩) 2 cr] 28)) [0, 0, 0, 3] (by simp)
  replace g1 := g1.alloc (.cells (([0, 0, 0, 3] : List Int).map (Value.int .i64)).toArray 3)
  replace x1 := x1.alloc (.cells (([0, 0, 0, 3] : List Int).map (Value.int .i64)).toArray 3)
  simp only [World.size_alloc, List.map_cons, List.map_nil, List.length_cons, List.length_nil] at hA g1 x1
  have hsz : w2.heap.size + 1 < (World.alloc (World.alloc w2 (.cells #[.slice (some ⟨b, 0, none⟩) 2 cr] 28)) (.cells #[.int .i64 0, .int .i64 0, .int .i64 0, .int .i64 3] 3)).heap.size := by simp
  generalize World.alloc (World.alloc w2 _) _ = W0 at *
  refine (play_int 83 #[.pointer (some ⟨w2.heap.size, 0, none⟩)] (passM ra rb 2) none 0 [] (some ⟨w2.heap.size + 1, 0, none⟩) 4 [0, 0, 0, 3] W0 (Ints.nil _) (by simp) hA (by decide) (fun k hk => by simp only [Value.ownBlock, Option.some.injEq] at hk; omega) (fun _ _ => rfl) (fun W p hxW hP => ?_)).mono ?_
  · exact alive31a _ p _ ra rb b cr w2.heap.size W hP (regsP hb hc (x1.trans hxW) hP (x1.trans (Ext.refl _)).size) hra hrb (by decide) (by decide) ((g1.ext hxW).cells 0)
  rintro e w3 ⟨v3, rfl, hO, hx3⟩
  have e1 : ((passM ra rb 2).run (TS0 [] [0, 0, 0, 3])).1 = some 0 := by rfl
  have e2 : ((passM ra rb 2).run (TS0 [] [0, 0, 0, 3])).2.acc.length = 4 := by rfl
  rw [e1] at hO ⊢
  generalize ((passM ra rb 2).run (TS0 [] [0, 0, 0, 3])).2 = S1 at *
  obtain ⟨A1, c1, A1', c1', As1, k1, n1, rfl⟩ := hO.parts
  rw [e2] at *
  simp only [Option.getD_some, Option.isSome_some]
  replace g1 := g1.ext hx3
  replace x1 := x1.trans hx3
  clear e1 e2 hO hA hsz hx3 hmf
  have hmf : ∀ (fn : Fn) (first cap : Array Value) (w : World), (Instr.makeFunc fn first cap).run Tryz.prog w = .ok (.func fn first cap) w := fun _ _ _ _ => rfl
  go_wp2_with fail
  have g2 := Blk.new w3 (.cells #[.bool true, .slice A1 4 c1, .slice A1' S1.nts.length c1', .slice As1 n1 k1] 36)
  have hA := ints_new (w3.alloc (.cells #[.bool true, .slice A1 4 c1, .slice A1' S1.nts.length c1', .slice As1 n1 k1] 36)) [0, 1] (by simp)
  replace g1 := (g1.alloc (.cells #[.bool true, .slice A1 4 c1, .slice A1' S1.nts.length c1', .slice As1 n1 k1] 36)).alloc (.cells (([0, 1] : List Int).map (Value.int .i64)).toArray 3)
  replace g2 := g2.alloc (.cells (([0, 1] : List Int).map (Value.int .i64)).toArray 3)
  replace x1 := (x1.alloc (.cells #[.bool true, .slice A1 4 c1, .slice A1' S1.nts.length c1', .slice As1 n1 k1] 36)).alloc (.cells (([0, 1] : List Int).map (Value.int .i64)).toArray 3)
  simp only [World.size_alloc, List.map_cons, List.map_nil, List.length_cons, List.length_nil] at hA g1 g2 x1
  have hsz : w3.heap.size + 1 < (World.alloc (World.alloc w3 (.cells #[.bool true, .slice A1 4 c1, .slice A1' S1.nts.length c1', .slice As1 n1 k1] 36)) (.cells #[.int .i64 0, .int .i64 1] 3)).heap.size := by simp
  generalize World.alloc (World.alloc w3 _) _ = W0 at *
  refine (play_int 84 #[.pointer (some ⟨w2.heap.size, 0, none⟩)] (passM ra rb 0) none 0 [] (some ⟨w3.heap.size + 1, 0, none⟩) 2 [0, 1] W0 (Ints.nil _) (by simp) hA (by decide) (fun k hk => by simp only [Value.ownBlock, Option.some.injEq] at hk; omega) (fun _ _ => rfl) (fun W p hxW hP => ?_)).mono ?_
  · exact alive31b _ p _ ra rb b cr w2.heap.size W hP (regsP hb hc (x1.trans hxW) hP x1.size) hra hrb (by decide) (by decide) ((g1.ext hxW).cells 0)
  rintro e w4 ⟨v4, rfl, hO, hx4⟩
  have e1 : ((passM ra rb 0).run (TS0 [] [0, 1])).1 = some 1 := by rfl
  have e2 : ((passM ra rb 0).run (TS0 [] [0, 1])).2.acc.length = 2 := by rfl
  rw [e1] at hO ⊢
  generalize ((passM ra rb 0).run (TS0 [] [0, 1])).2 = S2 at *
  obtain ⟨A2, c2, A2', c2', As2, k2, n2, rfl⟩ := hO.parts
  rw [e2] at *
  simp only [Option.getD_some, Option.isSome_some]
  replace g2 := g2.ext hx4
  replace x1 := x1.trans hx4
  clear e1 e2 hO hA hsz hx4 hmf g1
  have c_g2 := g2.cells
  have hfin := Lib.hid (hX.trans (x1.alloc (.cells #[.bool true, .slice A2 2 c2, .slice A2' S2.nts.length c2', .slice As2 n2 k2] 36)))
  have c_g3 := (g2.alloc (.cells #[.bool true, .slice A2 2 c2, .slice A2' S2.nts.length c2', .slice As2 n2 k2] 36)).cells
  go_wp2_with fail
  go_ret
  exact ⟨rfl, hfin.out⟩
set_option maxRecDepth 100000 in
set_option maxHeartbeats 1000000 in
theorem splits_walk (N Mode Side Me : Int) (vL vA : Value) (Ll La : List Int) (w : World) (hL : Ints w vL Ll) (hA : Ints w vA La) :
    Calls Tryz.prog 3 #[.agg #[.int .i64 N, .int .i64 Mode, .int .i64 Side, .int .i64 Me, vL, vA]] w fun e w' => e = .returned (.bool true) ∧ Ext w w' := by
  obtain ⟨Al, cl, rfl, p1, p2⟩ := hL.slice
  obtain ⟨Aa, ca, rfl, p3, p4⟩ := hA.slice
  have hmf : ∀ (fn : Fn) (first cap : Array Value) (w : World), (Instr.makeFunc fn first cap).run Tryz.prog w = .ok (.func fn first cap) w := fun _ _ _ _ => rfl
  have hX := Ext.refl w
  have b1 := Blk.new w (.cells #[.int .i64 N, .int .i64 Mode, .int .i64 Side, .int .i64 Me, .slice Al Ll.length cl, .slice Aa La.length ca] 24)
  replace hX := hX.alloc (.cells #[.int .i64 N, .int .i64 Mode, .int .i64 Side, .int .i64 Me, .slice Al Ll.length cl, .slice Aa La.length ca] 24)
  have c_b1 := b1.cells
  go_enter Tryz.func3, Tryz.ntmps3
  go_wp2_with fail
  refine (swants_p N _).mono ?_
  rintro e w1 ⟨v1, rfl, hW, hx⟩
  replace hX := hX.trans hx
  replace b1 := b1.ext hx
  clear c_b1 hx
  have c_b1 := b1.cells
  have hWh := Lib.hid hW
  obtain ⟨Aw, cw, rfl, _, _, _⟩ := hW
  go_wp2_with fail
  refine (rwants31_r N _).mono ?_
  rintro e w2 ⟨v2, rfl, hW2, hx⟩
  replace hX := hX.trans hx
  replace b1 := b1.ext hx
  clear c_b1
  have c_b1 := b1.cells
  have hW1 := hWh.out.ext hx
  clear hx hWh
  have hW2h := Lib.hid hW2
  obtain ⟨Aw2, cw2, rfl, _, _, _⟩ := hW2
  go_wp2_with fail
  refine (same_w _ _ _ _ hW1 hW2h.out (by simp)).mono ?_
  rintro e w3 ⟨rfl, hx⟩
  replace hX := hX.trans hx
  replace b1 := b1.ext hx
  clear c_b1
  have c_b1 := b1.cells
  replace hW1 := hW1.ext hx
  clear hx hW2h
  have hSm := some_r _ _ N Mode w3 hW1 (by simp)
  clear hW1
  go_wp2_with fail
  refine hSm.mono ?_
  rintro e w4 ⟨v4, rfl, hx, hrow⟩
  replace hX := hX.trans hx
  replace b1 := b1.ext hx
  clear c_b1 hSm hx
  have c_b1 := b1.cells
  generalize hrs : (layM [⟨-1, nM N⟩, ⟨-1, 1⟩] N Mode 3 2).getD [] = rs at *
  obtain ⟨Ar, cr, rfl, r1, r2, hV⟩ := Recs.of_row hrow
  clear hrow
  have hVh := Lib.hid hV
  have hrsh := Lib.hid hrs
  clear hV hrs
  have g1 := Blk.new w4 (.cells #[.slice Ar rs.length cr] 28)
  have x1 := (Ext.refl w4).alloc (.cells #[.slice Ar rs.length cr] 28)
  have c_g1 := g1.cells
  replace b1 := b1.alloc (.cells #[.slice Ar rs.length cr] 28)
  have c_b1' := b1.cells
  have hXW := hX.alloc (.cells #[.slice Ar rs.length cr] 28)
  by_cases h1 : Ll.length ≤ 1000 ∧ La.length ≤ 1500 ∧ rs.length = 2
  · obtain ⟨h1, h2, h3⟩ := h1
    have d1 : decide ((1000 : Int) < (Ll.length : Int)) = false := by rw [decide_eq_false_iff_not]; omega
    have d2 : decide ((1500 : Int) < (La.length : Int)) = false := by rw [decide_eq_false_iff_not]; omega
    obtain ⟨x, y, rfl⟩ : ∃ x y, rs = [x, y] := by
      match rs, h3 with
      | [x, y], _ => exact ⟨x, y, rfl⟩
    have hly : layM [⟨-1, nM N⟩, ⟨-1, 1⟩] N Mode 3 2 = some [x, y] := by
      have := hrsh.out
      cases hc : layM [⟨-1, nM N⟩, ⟨-1, 1⟩] N Mode 3 2 with
      | none => rw [hc] at this; cases this
      | some rs => rw [hc] at this; simpa using this
    obtain ⟨⟨_, _, n1, n2, _, _⟩, hwr, _⟩ := layM_args hly
    obtain ⟨x', hx', hxl⟩ := layM_at hly (i := 0) rfl
    obtain ⟨y', hy', hyl⟩ := layM_at hly (i := 1) rfl
    obtain rfl : x = x' := by simpa using hx'
    obtain rfl : y = y' := by simpa using hy'
    obtain ⟨hxo, hxn, _⟩ := hxl.ok ⟨n1, n2⟩ (hwr _ (by simp))
    obtain ⟨hyo, hyn, _⟩ := hyl.ok ⟨n1, n2⟩ (hwr _ (by simp))
    have hw1 := IntWalk.i64_in (N - 1) (by omega)
    have ht := wrapI_bd Me (N - 1)
    rw [show clamp (N - 1) 1099511627776 = N - 1 from by unfold clamp within; omega] at ht
    obtain ⟨b, rfl, hb, hc⟩ := hVh.out (by simp [regVals])
    clear hrsh hVh hly hxl hyl hx' hy' hwr h3
    simp only [List.length_cons, List.length_nil] at *
    go_wp2_with fail
    refine (wrap_r Me (N - 1) _).mono ?_
    rintro e w' ⟨rfl, rfl⟩
    generalize wrapI Me (N - 1) = t at *
    go_wp2_with fail
    have g2 := Blk.new (w4.alloc (.cells #[.slice (some ⟨b, 0, none⟩) 2 cr] 28)) (.cells #[.int .i64 t] 3)
    replace g1 := g1.alloc (.cells #[.int .i64 t] 3)
    replace b1 := b1.alloc (.cells #[.int .i64 t] 3)
    replace x1 := x1.alloc (.cells #[.int .i64 t] 3)
    replace hX := hXW.alloc (.cells #[.int .i64 t] 3)
    simp only [World.size_alloc] at g2
    clear c_b1 c_b1' c_g1 hXW
    generalize World.alloc (World.alloc w4 _) _ = W1 at *
    have hE := (Ext.refl W1).drew
    have hS : ∀ w', Ext W1 w' → (∀ i, w'.cell? ⟨w.heap.size, i, none⟩ = (#[.int .i64 N, .int .i64 Mode, .int .i64 Side, .int .i64 Me, .slice Al Ll.length cl, .slice Aa La.length ca] : Array Value)[i]?) := fun w' hx => (b1.ext hx).cells
    have hLW := Lib.hid (hL.ext hX)
    have hAW := Lib.hid (hA.ext hX)
    clear hL hA
    go_region_held2 (fun w' => ∀ i, w'.cell? ⟨w.heap.size, i, none⟩ = (#[.int .i64 N, .int .i64 Mode, .int .i64 Side, .int .i64 Me, .slice Al Ll.length cl, .slice Aa La.length ca] : Array Value)[i]?) (exact hS _ hE)
      (first
        | (go_at_call_of 16 (Value.int IntKind.i64 1048576)
           refine (tame_r _ La 1048576 _ (hAW.out.ext hE)).mono ?_
           rintro e w5 ⟨va, rfl, hra, hxa⟩
           replace hE := hE.trans hxa)
        | (go_at_call_of 16 (Value.int IntKind.i64 1024)
           refine (tame_r _ Ll 1024 _ (hLW.out.ext hE)).mono ?_
           rintro e w6 ⟨vl, rfl, hrl, hxl⟩
           replace hE := hE.trans hxl))
    rename_i hh
    clear hh hS hLW hAW b1
    have hIa := hra.ints.ext hxl
    have hIl := hrl.ints
    have hba : ∀ k, va.ownBlock = some k → k < w6.heap.size := fun k hk => Nat.lt_of_lt_of_le (hra.lt k hk).2 hxl.size
    have la : (tameL La 1048576).length ≤ 1500 := by unfold tameL; simp; omega
    have ll : (tameL Ll 1024).length ≤ 1000 := by unfold tameL; simp; omega
    clear hra hrl hxa hxl
    generalize tameL La 1048576 = a at *
    generalize tameL Ll 1024 = l at *
    obtain ⟨Aq, cq, rfl, _, _⟩ := hIa.slice
    obtain ⟨Al', cl', rfl, _, _⟩ := hIl.slice
    have hPl := play_int 18 #[.pointer (some ⟨w4.heap.size, 0, none⟩), .pointer (some ⟨w4.heap.size + 1, 0, none⟩)] (passM x y t) Al' cl' l Aq cq a w6 hIl (by omega) hIa (by unfold maxAns; omega) hba (fun _ _ => rfl) (fun W p hxW hP =>
      closure31 _ p _ x y t b cr w4.heap.size (w4.heap.size + 1) W hP (regsP hb hc (x1.trans (hE.trans hxW)) hP (x1.trans hE).size) hxo hyo ht.1 (by omega) (by omega) ((g1.ext (hE.trans hxW)).cells 0) ((g2.ext (hE.trans hxW)).cells 0))
    have hIah := Lib.hid hIa
    have hIlh := Lib.hid hIl
    clear hIa hIl
    go_wp2_with fail
    refine hPl.mono ?_
    rintro e w7 ⟨v3, rfl, hO, hx7⟩
    generalize hr : (passM x y t).run (TS0 l a) = r at hO ⊢
    clear hPl
    generalize hq : r.1.getD 0 = q
    have hOh := Lib.hid hO
    obtain ⟨A3, c3, A3', c3', As3, k3, n3, rfl⟩ := hO.parts
    clear hO
    go_wp2_with fail
    have g3 := Blk.new w7 (.cells #[.bool r.fst.isSome, .slice A3 r.snd.acc.length c3, .slice A3' r.snd.nts.length c3', .slice As3 n3 k3] 36)
    have x2 := hx7.alloc (.cells #[.bool r.fst.isSome, .slice A3 r.snd.acc.length c3, .slice A3' r.snd.nts.length c3', .slice As3 n3 k3] 36)
    have hOh2 := Lib.hid (hOh.out.ext ((Ext.refl w7).alloc (.cells #[.bool r.fst.isSome, .slice A3 r.snd.acc.length c3, .slice A3' r.snd.nts.length c3', .slice As3 n3 k3] 36)))
    clear hOh hx7
    generalize World.alloc w7 _ = W2 at *
    have hN := new_any Al' cl' l Aq cq a W2 (hIlh.out.ext x2) (hIah.out.ext x2) (by omega) (by unfold maxAns; omega) (fun k hk => Nat.lt_of_lt_of_le (hba k hk) x2.size)
    clear hIlh hIah hba
    refine hN.mono ?_
    rintro e w8 ⟨pm, rfl, hR, hx8⟩
    have y1 := g1.ext (hE.trans (x2.trans hx8))
    have y2 := g2.ext (hE.trans (x2.trans hx8))
    have c_y1 := y1.cells
    have c_y2 := y2.cells
    clear hN
    go_wp2_with fail
    have hx4 : Ext w4 W2 := x1.trans (hE.trans x2)
    refine (pass_r W2.heap.size pm (TS0 l a) x y t b cr w8 hR (regsR hb hc (hx4.trans hx8) hR hx4.size) hxo hyo ht.1 (by omega) (by omega)).mono ?_
    rintro e w9 ⟨z, o', S', rfl, hRef, hz0, hR9, hK9⟩
    have hx9 : Ext W2 w9 := Below.trans hx8 hK9.below
    have hrun := hRef.outcome
    rw [hr] at hrun
    have hz : q = z := by
      rw [← hq, hrun]
      cases o' with
      | true => exact (hz0 rfl).symm
      | false => rfl
    subst hz
    have hsome : r.1.isSome = !o' := by rw [hrun]; cases o' <;> rfl
    have hS2 : r.2 = S' := by rw [hrun]
    have hO9 := hOh2.out.ext hx9
    rw [hsome, hS2] at hO9 g3
    clear hrun hRef hz0 hq hR hK9 hx8 y1 y2 c_y1 c_y2 hOh2 g1 g2
    replace g3 := g3.ext hx9
    have c_g3 := g3.cells
    have hRh := Lib.hid hR9
    have hOh := Lib.hid hO9
    have hXf := Lib.hid (hX.trans (hE.trans (x2.trans hx9)))
    clear hR9 hO9 hX hE x2 hx9 x1 hx4
    have hqq : (q == q) = true := by simp
    go_wp2_with fail
    have hE := (Ext.refl w9).drew
    have hS : ∀ w', Ext w9 w' → (∀ i, w'.cell? ⟨w7.heap.size, i, none⟩ = (#[.bool (!o'), .slice A3 S'.acc.length c3, .slice A3' S'.nts.length c3', .slice As3 n3 k3] : Array Value)[i]?) := fun w' hx => (g3.ext hx).cells
    go_region_held2 (fun w' => ∀ i, w'.cell? ⟨w7.heap.size, i, none⟩ = (#[.bool (!o'), .slice A3 S'.acc.length c3, .slice A3' S'.nts.length c3', .slice As3 n3 k3] : Array Value)[i]?) (exact hS _ hE)
      (first
        | (go_at_call 23
           refine (dout_r W2.heap.size pm o' S' _ (hRh.out.ext hE)).mono ?_
           rintro e w10 ⟨v5, rfl, hO5, hx5⟩
           replace hE := hE.trans hx5)
        | (go_at_call 22
           refine (same_r _ _ (!o') S' _ (hOh.out.ext hE) hO5).mono ?_
           rintro e w11 ⟨rfl, hx6⟩
           replace hE := hE.trans hx6)
        | (go_at_call 14
           refine (alive31 _).mono ?_
           rintro e w12 ⟨rfl, hx7⟩
           replace hE := hE.trans hx7))
    have hf := Lib.hid (hXf.out.trans hE)
    go_wp2_with fail
    go_ret
    exact ⟨rfl, hf.out⟩
  · by_cases h2 : 1000 < Ll.length
    · have d1 : decide ((1000 : Int) < (Ll.length : Int)) = true := by rw [decide_eq_true_eq]; omega
      go_wp2_with fail
      refine (alive31 _).mono ?_
      rintro e w5 ⟨rfl, hx⟩
      have hf := Lib.hid (hXW.trans hx)
      go_wp2_with fail
      go_ret
      exact ⟨rfl, hf.out⟩
    · have d1 : decide ((1000 : Int) < (Ll.length : Int)) = false := by rw [decide_eq_false_iff_not]; omega
      by_cases h3 : 1500 < La.length
      · have d2 : decide ((1500 : Int) < (La.length : Int)) = true := by rw [decide_eq_true_eq]; omega
        go_wp2_with fail
        refine (alive31 _).mono ?_
        rintro e w5 ⟨rfl, hx⟩
        have hf := Lib.hid (hXW.trans hx)
        go_wp2_with fail
        go_ret
        exact ⟨rfl, hf.out⟩
      · have d2 : decide ((1500 : Int) < (La.length : Int)) = false := by rw [decide_eq_false_iff_not]; omega
        have d3 : ((rs.length : Int) != 2) = true := by rw [bne_iff_ne]; omega
        go_wp2_with fail
        refine (alive31 _).mono ?_
        rintro e w5 ⟨rfl, hx⟩
        have hf := Lib.hid (hXW.trans hx)
        go_wp2_with fail
        go_ret
        exact ⟨rfl, hf.out⟩
end Go.Proofs.YtpcohbpeglledaaGreat
