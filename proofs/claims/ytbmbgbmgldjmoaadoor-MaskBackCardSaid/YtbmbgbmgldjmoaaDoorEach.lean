/-
  A range over a set's threads: what the iterator hands out, and the law for loops over it.
-/
import Derived.Test.YtbmbgbmgldjmoaaDoorMask2
import Derived.RangeFuncNested
import Derived.RangeFuncBound
import Derived.RangeFuncCalls
import Derived.RangeFuncLeaves
import Derived.Shelf.Abstract
import Derived.OwnWalkIn
import Derived.TacticsInMore
import Derived.LoopNIn
import Derived.LoopIn
namespace Go.Proofs.YtbmbgbmgldjmoaaDoor
open Go.RowKit Kv
attribute [local go_sem] Oper.semAt_some
theorem bruijn_at : ∀ k : Fin 64, 2 ^ k.val * 285870213051353865 % 18446744073709551616 / 288230376151711744 < 64 ∧ deBruijn64.getD (2 ^ k.val * 285870213051353865 % 18446744073709551616 / 288230376151711744) 0 = (k.val : Int) := by decide +kernel
theorem tz_key (x a : Nat) (hx : x < 18446744073709551616) (hx0 : x ≠ 0) (hlow : x &&& (18446744073709551616 - x) = a) :
    IntKind.u64.wrap (bits BinOp.and IntKind.u64 (x : Int) (IntKind.u64.wrap (-(x : Int))) * 285870213051353865) / 288230376151711744 = ((a * 285870213051353865 % 18446744073709551616 / 288230376151711744 : Nat) : Int) := by
  have e1 : IntKind.u64.wrap (-(x : Int)) = ((18446744073709551616 - x : Nat) : Int) := by rw [IntKind.wrap_u64]; omega
  rw [e1, u64_and_nat x _ hx (by omega), hlow, IntKind.wrap_u64]
  omega
theorem brCell {w : World} (T : Tabs w) (i : Nat) (hi : i < 64) : w.cell? ⟨0, i, none⟩ = some (.int .u8 (deBruijn64.getD i 0)) :=
  Lib.TabIs.cell T.bruijn (by kernel_rfl) i hi
theorem tz_core (x k idx : Nat) (w : World) (hx0 : ((x : Int) == 0) = false)
    (key : IntKind.u64.wrap (bits BinOp.and IntKind.u64 (x : Int) (IntKind.u64.wrap (-(x : Int))) * 285870213051353865) / 288230376151711744 = (idx : Int))
    (hi : idx < 64) (hk : k < 64) (hcell : w.cell? ⟨0, idx, none⟩ = some (.int .u8 k)) :
    Calls Tryd.prog 83 #[.int .u64 x] w fun e w' => e = .returned (.int .i64 k) ∧ w = w' := by
  go_enter Tryd.func83, Tryd.ntmps83
  go_wp2_with (simp only [key])
  go_ret
  exact ⟨rfl, rfl⟩
theorem tz_p (x : Nat) (hx : x < 18446744073709551616) (h0 : x ≠ 0) (w : World) (T : Tabs w) :
    Calls Tryd.prog 83 #[.int .u64 x] w fun e w' => e = .returned (.int .i64 (Go.Lib.ctz 64 x)) ∧ w = w' := by
  obtain ⟨hlow, hk⟩ := Go.Lib.lowest_bit 64 x h0 hx
  obtain ⟨hi, htab⟩ := bruijn_at ⟨_, hk⟩
  have hc := brCell T _ hi
  rw [htab] at hc
  exact tz_core x _ _ w (by rw [beq_eq_false_iff_ne]; omega) (tz_key x _ hx h0 hlow) hi hk hc
theorem each_p (s : Nat) (w : World) :
    Calls Tryd.prog 34 #[.int .u64 s] w fun e w' => e = .returned (.func (.func 82) #[] #[.pointer (some ⟨w.heap.size, 0, none⟩)]) ∧ w.alloc (.cells #[.int .u64 s] 51) = w' := by
  have hmf : ∀ (fn : Fn) (first cap : Array Value) (w : World), (Instr.makeFunc fn first cap).run Tryd.prog w = .ok (.func fn first cap) w := fun _ _ _ _ => rfl
  go_enter Tryd.func34, Tryd.ntmps34
  go_wp2
  go_ret
  exact ⟨rfl, rfl⟩

/-- A set's threads, each with its bound. -/
def listF (s : Nat) : List (Fin 64) := (listM s).attach.map fun x => ⟨x.1, listM_lt x.2⟩
theorem listF_val (s : Nat) : (listF s).map Fin.val = listM s := by
  unfold listF
  rw [List.map_map]
  exact List.attach_map_subtype_val _
theorem listF_inj : ∀ {a b : List (Fin 64)}, a.map Fin.val = b.map Fin.val → a = b
  | [], [], _ => rfl
  | [], _ :: _, h => by simp at h
  | _ :: _, [], h => by simp at h
  | x :: a, y :: b, h => by
    simp only [List.map_cons, List.cons.injEq] at h
    rw [Fin.ext h.1, listF_inj h.2]
theorem listF_low (x : Nat) (h0 : x ≠ 0) (hx : x < 18446744073709551616) (hk : Go.Lib.ctz 64 x < 64) : listF x = ⟨Go.Lib.ctz 64 x, hk⟩ :: listF (dropLow x) := by
  refine listF_inj ?_
  rw [listF_val, List.map_cons, listF_val, listM_low x h0 hx]
theorem listF_zero : listF 0 = [] := listF_inj (by rw [listF_val]; exact listM_zero)
theorem dropLow_bits64 (x : Nat) (hx : x < 18446744073709551616) (h0 : x ≠ 0) : bits .and .u64 (x : Int) ((x : Int) - 1) = ((dropLow x : Nat) : Int) := by
  rw [show (x : Int) - 1 = ((x - 1 : Nat) : Int) from by omega, u64_and_nat _ _ hx (by omega)]
  rfl
set_option maxRecDepth 100000 in
set_option maxHeartbeats 1000000 in
theorem each1_in (F : Fence) (n : Nat) (h6 : F.fn 82) (h7 : F.fn 83) (hro : F.round = none) (hwide : F = Fence.wide) (hn : 1 ≤ n) (l Bn n₀ : Nat) (s : Nat) (hs : s < 18446744073709551616) (J Jx : List (Fin 64) → World → Prop)
    (hY : ∀ pre x W, J pre W → pre.length < (listF s).length → YieldAt F (n - 1) Tryd.prog l #[.int .i64 (x.val : Nat)] W fun e W' =>
      (e = .returned (.bool true) ∧ J (pre ++ [x]) W' ∧ Below n₀ W W') ∨ (e = .returned (.bool false) ∧ Jx (pre ++ [x]) W'))
    (W : World) (hBn : W.cell? ⟨Bn, 0, none⟩ = some (.int .u64 s)) (hT : ∀ W', Below n₀ W W' → Tabs W') (h0 : J [] W) :
    CallsIn F n Tryd.prog 82 #[.func (.yield l) #[] #[], .pointer (some ⟨Bn, 0, none⟩)] W fun e W' => (∃ v, e = .returned v) ∧
      ((∃ ys, ys = listF s ∧ J ys W') ∨ (∃ pre, pre <+: listF s ∧ Jx pre W')) := by
  subst hwide
  refine callsIn_of_wp Tryd.func82 rfl h6 ?_ hro
  simp only [Tryd.ntmps82, List.size_toArray, List.length_cons, List.length_nil, Nat.reduceAdd, Nat.reduceSub, Array.replicate_succ, Array.replicate_zero, List.push_toArray, List.append_toArray, List.nil_append, List.cons_append]
  gi_wp2
  gi_loopw [3] (fun p wr => ∃ (pre : List (Fin 64)) (x : Nat), p = .int .u64 x ∧ x < 18446744073709551616 ∧ Hid (listF s = pre ++ listF x) ∧ Below n₀ W wr ∧ J pre wr)
    (fun p _ => (intOf p).toNat)
  case atStart =>
    exact ⟨[], s, rfl, hs, rfl, Below.refl _ _, h0⟩
  case round =>
    obtain ⟨pre, x, rfl, hx, hp, hB, hJs⟩ := hrel
    by_cases hz : x = 0
    · subst hz
      gi_wp2
      go_end0
      exact ⟨⟨_, rfl⟩, .inl ⟨pre, by rw [hp.out, listF_zero, List.append_nil], hJs⟩⟩
    · have hk := (Go.Lib.lowest_bit 64 x hz hx).2
      have hlow := Lib.hid (listF_low x hz hx hk)
      have hlt := dropLow_lt x hz
      have hd : (x != 0) = true := by rw [bne_iff_ne]; exact hz
      have hd2 : ((x : Int) != 0) = true := by rw [bne_iff_ne]; omega
      obtain ⟨fn, tmps, assign, body, hy, hR⟩ := hY pre ⟨_, hk⟩ wr hJs (by rw [hp.out, hlow.out]; simp)
      have htz := (callsIn_wide.2 (tz_p x hx hz wr (hT _ hB)) : CallsIn Fence.wide (n - 1) _ _ _ _ _)
      have hdl := Lib.hid (dropLow_bits64 x hx hz)
      gi_wp2_with fail
      refine htz.mono ?_
      rintro e w' ⟨rfl, rfl⟩
      clear htz
      gi_wp2_with fail
      refine hR.mono ?_
      rintro e W3 (⟨rfl, hJ3, hk3⟩ | ⟨rfl, hJx3⟩)
      · gi_wp2_with fail
        rw [hdl.out]
        refine ⟨⟨pre ++ [⟨_, hk⟩], dropLow x, rfl, by omega, ?_, hB.trans hk3, hJ3⟩, ?_⟩
        · unfold Hid
          rw [hp.out, hlow.out]
          simp
        · simp [intOf]
          omega
      · gi_wp2_with fail
        refine bodyPost_ret (results_none rfl _ _ _) rfl ?_
        exact ⟨⟨_, rfl⟩, .inr ⟨pre ++ [_], ⟨listF (dropLow x), by rw [hp.out, hlow.out]; simp⟩, hJx3⟩⟩

theorem each_stops (n : Nat) (hn : 1 ≤ n) (Bn n₀ : Nat) (s : Nat) (hs : s < 18446744073709551616) (w : World) (hBn : Bn < w.heap.size) (hn₀ : n₀ ≤ w.heap.size)
    (hc : w.cell? ⟨Bn, 0, none⟩ = some (.int .u64 s)) (hT : ∀ W', Below n₀ w W' → Tabs W') :
    SeqStopsK Fence.wide n Tryd.prog 82 #[.pointer (some ⟨Bn, 0, none⟩)] (fun x : Fin 64 => #[Value.int .i64 (x.val : Nat)]) (Below n₀) (fun ys => ys = listF s) (fun pre => pre <+: listF s) (listF s).length w := fun l J Jx W hW _ _ hY h0 =>
  each1_in Fence.wide n trivial trivial rfl rfl hn l Bn n₀ s hs J Jx hY W ((hW.cell (p := ⟨Bn, 0, none⟩) hBn).trans hc) (fun W' hB => hT W' ((hW.mono hn₀).trans hB)) h0
end Go.Proofs.YtbmbgbmgldjmoaaDoor
