/-
  MaskBack holds: a set is what it is gone through; unlike sets have unlike texts; whoever goes through it may stop early.
-/
import Derived.Test.YtbmbgbmgldjmoaaDoorMaskAlive
import Derived.Test.YtbmbgbmgldjmoaaDoorMaskBackPure
import Derived.Test.YtbmbgbmgldjmoaaDoorTabs
import Derived.Test.YtbmbgbmgldjmoaaDoorArgs
namespace Go.Proofs.YtbmbgbmgldjmoaaDoor.maskBack
open Go.ChangeShapes Go.WideShapes Go.ChangeAt Go.RowKit Kv
attribute [local go_sem] Oper.semAt_some
set_option maxRecDepth 100000 in
set_option maxHeartbeats 2000000 in
theorem walk (s t : Nat) (hs : s < 18446744073709551616) (ht : t < 18446744073709551616) (m : Nat) (hm : m < 256) (w : World) (T : Tabs w) :
    Calls Tryd.prog 7 #[.int .u64 s, .int .u64 t, .int .u8 m] w fun e w' => e = .returned (.bool true) ∧ Ext w w' := by
  have hlen := listF_length s
  refine (callsIn_wide (n := 5)).1 ?_
  refine callsIn_of_wp_marks Tryd.func7 rfl trivial ?_ rfl
  simp only [Tryd.ntmps7, List.size_toArray, List.length_cons, List.length_nil, Nat.reduceAdd, Nat.reduceSub, Array.replicate_succ, Array.replicate_zero, List.push_toArray, List.append_toArray, List.nil_append, List.cons_append]
  have bN := Boxed.new w 5 (.int .u8 m)
  have hX0 : Ext w (w.alloc (.cells #[.int .u8 m] 5)) := (Below.refl _ w).alloc (Nat.le_refl _) _
  have T0 := T.ext hX0
  gi_wp2_with fail
  refine ⟨trivial, ?_⟩
  refine CallsIn.mono (callsIn_wide.2 (alive02 _ T0)) ?_
  rintro e w0 ⟨rfl, hx0⟩
  have hX1 := hX0.trans hx0
  have T1 := T.ext hX1
  have bN1 : Boxed w0 w.heap.size 5 (.int .u8 m) := (hx0.block _ (by simp)).trans bN
  have hsz0 := hX1.size
  have hsz1 : w.heap.size < w0.heap.size := by have := hx0.size; simp at this; omega
  clear bN
  gi_wp2_with (refine ⟨trivial, ?_⟩; gi_at_call 34; refine CallsIn.mono (callsIn_wide.2 (each_p s _)) ?_; rintro e w' ⟨rfl, rfl⟩)
  have bK := Boxed.new w0 3 (.int .i64 0)
  have bS := Boxed.new (w0.alloc (.cells #[.int .i64 0] 3)) 51 (.int .u64 s)
  rw [World.size_alloc] at bS
  rename_i K hK
  have hB0 : Below w0.heap.size w0 ((w0.alloc (.cells #[.int .i64 0] 3)).alloc (.cells #[.int .u64 s] 51)) := ((Below.refl _ w0).alloc (Nat.le_refl _) _).alloc (by simp) _
  have hls : (listF s).length = (listM s).length := by rw [← listF_val, List.length_map]
  have rest : ∀ (D : Nat) (W : World), w0.heap.size + 2 ≤ D → Boxed W w0.heap.size 3 (.int .i64 ((min m (listM s).length : Nat) : Int)) → Below w0.heap.size w0 W → W.heap[D]? = some (.deferred (some [])) →
      K { tmps := #[.int .u64 s, .int .u64 t, .int .u8 m, undef, undef, .pointer (some ⟨w.heap.size, 0, none⟩), .bool false, .pointer (some ⟨w0.heap.size, 0, none⟩), .bool true, .bool false, .int .u64 s, .func (.func 82) #[] #[.pointer (some ⟨w0.heap.size + 1, 0, none⟩)], undef, undef, undef, undef, undef, undef, undef, undef, undef, undef, undef, undef, undef, undef, undef, undef, undef, undef, undef, undef, undef, undef, undef, undef, undef, undef, undef, undef, undef, undef], defers := [{ target := .collected D, args := #[] }] } W := by
    intro D W hD bK hB hDef
    apply hK
    clear hK
    have bN := (hB.block _ hsz1).trans bN1
    have hc := Boxed.cell bK
    have hc1 := Boxed.cell bN
    have hw8 : IntKind.i64.wrap (m : Int) = m := by rw [IntKind.wrap_i64]; omega
    have hmin : min (m : Int) ((listM s).length : Nat) = ((min m (listM s).length : Nat) : Int) := by omega
    have hne : (((min m (listM s).length : Nat) : Int) != ((min m (listM s).length : Nat) : Int)) = false := by simp
    have hX2 : Ext w W := hX1.trans ⟨hB.os, hB.tape, hB.output, hB.size, hB.block⟩
    refine wpIn_wide.2 ?_
    go_wp2_with fail
    go_quiet (first | simp only [hw8] | simp only [hmin] | (go_at_call 35; exact (count_p s hs _).mono fun _ _ ⟨he, hm⟩ => ⟨he, _, hm.symm⟩))
    have hE1 : Ext w (W.drewN nq) := hX2.trans (Drew.mk' _ _).ext
    have hDef1 : (W.drewN nq).heap[D]? = some (.deferred (some [])) := hDef
    have hTT := T.ext hE1
    generalize W.drewN nq = W1 at *
    clear hDef bK hB bN hc hc1 hX2 hmin hne hw8
    go_wp2_with fail
    refine (each_l s hs _ hTT).mono ?_
    rintro e w2 ⟨v2, rfl, hr2, hx2⟩
    have hI2 := hr2.ints
    have hE2 := hE1.trans hx2
    have hDef2 := (hx2.block D (Array.getElem?_eq_some_iff.1 hDef1).1).trans hDef1
    go_wp2_with fail
    refine (of_p _ _ _ hI2).mono ?_
    rintro e w2' ⟨rfl, rfl⟩
    rw [ofM_ints s hs]
    go_wp2_with fail
    refine (text_any s hs _ (T.ext hE2)).mono ?_
    rintro e w3 ⟨rfl, hx3⟩
    have hE3 := hE2.trans hx3
    have hDef3 := (hx3.block D (Array.getElem?_eq_some_iff.1 hDef2).1).trans hDef2
    go_wp2_with fail
    refine (text_any t ht _ (T.ext hE3)).mono ?_
    rintro e w4 ⟨rfl, hx4⟩
    have hE4 := hE3.trans hx4
    have hDef4 := (hx4.block D (Array.getElem?_eq_some_iff.1 hDef3).1).trans hDef3
    by_cases hst : s = t
    · subst hst
      go_wp2_with fail
      refine ⟨by simp, .inl ⟨_, _, rfl, run_takeDeferred hDef4, ?_⟩⟩
      exact ⟨_, results_tmp rfl _ _ _, rfl, (show Below w.heap.size w w4 from hE4).trans (belowK_b (w := w) (Nat.le_refl _) w4 D _ _ (by omega) hDef4 rfl rfl)⟩
    · have hdi : ((s : Int) == (t : Int)) = false := by rw [beq_eq_false_iff_ne]; omega
      have hdt : (textM s == textM t) = false := by rw [beq_eq_false_iff_ne]; exact fun h => hst (textM_inj hs ht h)
      go_wp2_with fail
      refine ⟨by simp, .inl ⟨_, _, rfl, run_takeDeferred hDef4, ?_⟩⟩
      exact ⟨_, results_tmp rfl _ _ _, rfl, (show Below w.heap.size w w4 from hE4).trans (belowK_b (w := w) (Nat.le_refl _) w4 D _ _ (by omega) hDef4 rfl rfl)⟩
  refine wpIn_rangeFunc_ownG rfl (by omega) (gf := 82) (lb := #[.pointer (some ⟨w0.heap.size + 1, 0, none⟩)]) rfl trivial (enters_of Tryd.func82 (by kernel_rfl) rfl)
    (each_stops 4 (by omega) (w0.heap.size + 1) w0.heap.size s hs _ (by simp) (by simp; omega) bS.cell (fun W' hW => T1.ext (hB0.trans hW))) belowK_t (belowK_b (by simp; omega)) (Below.refl _ _) (fun _ => rfl)
    (fun pre W => (Boxed W w0.heap.size 3 (.int .i64 (pre.length : Nat)) ∧ pre.length ≤ m) ∧ Below w0.heap.size w0 W)
    (fun c pre W => ((Boxed W w0.heap.size 3 (.int .i64 (m : Nat)) ∧ c = .exit 0 ∧ m < pre.length)) ∧ Below w0.heap.size w0 W)
    (OwnFrom.and (OwnFrom.and (Own.from (boxed_own w0.heap.size 3 (fun (pre : List (Fin 64)) => .int .i64 (pre.length : Nat))) _) (fun _ _ _ _ h _ _ => h)) (ownFrom_below (Nat.le_refl _) (by simp; omega)))
    (fun c => OwnFrom.and (OwnFrom.and (Own.from (boxed_own w0.heap.size 3 (fun _ => .int .i64 (m : Nat))) _) (fun _ _ _ _ h _ _ => h)) (ownFrom_below (Nat.le_refl _) (by simp; omega)))
    ⟨⟨bK.alloc _, by simp⟩, hB0⟩
    (fun x => { tmps := #[.int .u64 s, .int .u64 t, .int .u8 m, undef, undef, .pointer (some ⟨w.heap.size, 0, none⟩), .bool false, .pointer (some ⟨w0.heap.size, 0, none⟩), .bool true, .bool false, .int .u64 s, .func (.func 82) #[] #[.pointer (some ⟨w0.heap.size + 1, 0, none⟩)], .int .i64 (x.val : Nat), undef, undef, undef, undef, undef, undef, undef, undef, undef, undef, undef, undef, undef, undef, undef, undef, undef, undef, undef, undef, undef, undef, undef, undef, undef, undef, undef, undef, undef], defers := [] }) ?assign ?body ?done ?stop
  case assign =>
    intro l x W K hK
    gi_wp2
    exact hK
  case body =>
    rintro l pre x W ⟨⟨hk, hpm⟩, hB⟩ hlt
    have bN := (hB.block _ hsz1).trans bN1
    have hc := Boxed.cell hk
    have hc1 := Boxed.cell bN
    have hf := Boxed.frozen hk
    have hw8 : IntKind.i64.wrap (m : Int) = m := by rw [IntKind.wrap_i64]; omega
    by_cases he : pre.length = m
    · have hd : ((pre.length : Int) == (m : Int)) = true := by rw [he]; simp
      clear hlt hpm hlen hls
      gi_wp2_with (simp only [])
      rw [he] at hk
      exact ⟨KeepsFrom.refl _ _, ⟨hk, rfl, by simp; omega⟩, hB⟩
    · have hd : ((pre.length : Int) == (m : Int)) = false := by rw [beq_eq_false_iff_ne]; omega
      clear hlt hlen hls
      have hw1 : IntKind.i64.wrap ((pre.length : Int) + 1) = ((pre.length + 1 : Nat) : Int) := by rw [IntKind.wrap_i64]; omega
      gi_wp2_with (first | simp only [] | simp only [hw1])
      have hk2 := hk.set (.int .i64 ((pre.length + 1 : Nat) : Int))
      have hk3 : KeepsFrom (w0.heap.size + 1 + 1) W (W.setCell ⟨w0.heap.size, 0, none⟩ (.int .i64 ((pre.length + 1 : Nat) : Int))) := (KeepsOthers.setCell W _ _).from _
      have hb2 : Below w0.heap.size W (W.setCell ⟨w0.heap.size, 0, none⟩ (.int .i64 ((pre.length + 1 : Nat) : Int))) := (Below.refl _ _).setCell (p := ⟨w0.heap.size, 0, none⟩) (Nat.le_refl _) _
      exact ⟨hk3, hb2, ⟨by rw [List.length_append]; exact hk2, by simp; omega⟩, hB.trans hb2⟩
  case done =>
    rintro D ys W hD rfl ⟨⟨hk, hpm⟩, hB⟩ hDef
    refine rest D W (by simp at hD; omega) ?_ hB hDef
    rw [show min m (listM s).length = (listF s).length from by omega]
    exact hk
  case stop =>
    rintro D c pre W hD hpre ⟨⟨hk, rfl, hpm⟩, hB⟩ hDef
    have := hpre.length_le
    gi_wp2
    refine rest D W (by simp at hD; omega) ?_ hB hDef
    rw [show min m (listM s).length = m from by omega]
    exact hk
set_option maxRecDepth 100000 in
theorem main (H : Type) (enc : TypeId × Value → H) (W : World) (base : Nat) (args : Array Value) (ds : List (DataW H)) (p : List MemPlace)
    (hval : ∀ (j : Nat) t v, Tryd.f7.params[j]? = some t → args[j]? = some v → Value.okWide Tryd.prog W .any base t v)
    (hA : DataW.TrodAll enc Tryd.prog W 0 (fun _ => true) true Tryd.f7.params.toList args.toList ds p) (hL : laidMetH Tryd.prog Rows.maskBackRow.laid W) :
    Calls Tryd.prog 7 args W fun e w' => e = .returned (.bool true) ∧ Ext W w' := by
  rw [Tryd.params7] at hA hval
  obtain ⟨v0, vs0, d0, ds0, p0, q0, hargs, rfl, rfl, h0, r0⟩ := trodAll_cons hA
  obtain ⟨v1, vs1, d1, ds1, p1, q1, rfl, rfl, rfl, h1, r1⟩ := trodAll_cons r0
  obtain ⟨v2, vs2, d2, ds2, p2, q2, rfl, rfl, rfl, h2, r2⟩ := trodAll_cons r1
  obtain ⟨rfl, rfl, rfl⟩ := trodAll_nil r2
  obtain rfl : args = #[v0, v1, v2] := by cases args; simp_all
  obtain ⟨s, rfl, rfl, rfl, ws⟩ := open_int Tryd.underlying51 (hval 0 51 v0 rfl rfl) h0
  obtain ⟨t, rfl, rfl, rfl, wt⟩ := open_int Tryd.underlying51 (hval 1 51 v1 rfl rfl) h1
  obtain ⟨m, rfl, rfl, rfl, wm⟩ := open_int Tryd.underlying5 (hval 2 5 v2 rfl rfl) h2
  have hb := bounds_u64 ws
  have hb2 := bounds_u64 wt
  have hb3 := bounds_u8 wm
  obtain ⟨s, rfl⟩ : ∃ n : Nat, s = (n : Int) := ⟨s.toNat, by omega⟩
  obtain ⟨t, rfl⟩ : ∃ n : Nat, t = (n : Int) := ⟨t.toNat, by omega⟩
  obtain ⟨m, rfl⟩ : ∃ n : Nat, m = (n : Int) := ⟨m.toNat, by omega⟩
  exact walk s t (by omega) (by omega) m (by omega) W (tabs_of hL)
end Go.Proofs.YtbmbgbmgldjmoaaDoor.maskBack
