/-
  Layer 2: the functions that go through a set.
-/
import Derived.Test.YtbmbgbmgldjmoaaDoorEach
import Derived.Test.YtbmbgbmgldjmoaaDoorNums
import Derived.Test.YtbmbgbmgldjmoaaDoorTextPure
import Derived.RangeFuncBox
import Derived.RangeFuncFrom
import Derived.RangeFuncWrites
namespace Go.Proofs.YtbmbgbmgldjmoaaDoor
open Go.RowKit Kv
attribute [local go_sem] Oper.semAt_some
/-- The threads so far, as ints. -/
def fins (l : List (Fin 64)) : List Int := l.map fun x => (x.val : Int)
theorem fins_listF (s : Nat) : fins (listF s) = intsM s := by
  unfold fins intsM
  rw [← listF_val, List.map_map]
  rfl
theorem fins_snoc (l : List (Fin 64)) (x : Fin 64) : fins (l ++ [x]) = fins l ++ [(x.val : Int)] := by simp [fins]
theorem fins_length (l : List (Fin 64)) : (fins l).length = l.length := by simp [fins]
theorem listF_length (s : Nat) : (listF s).length ≤ 64 := by
  have := listM_length_le s
  rw [← listF_val, List.length_map] at this
  exact this
set_option maxRecDepth 100000 in
set_option maxHeartbeats 2000000 in
theorem each_l (s : Nat) (hs : s < 18446744073709551616) (w : World) (T : Tabs w) :
    Calls Tryd.prog 37 #[.int .u64 s] w fun e w' => ∃ v, e = .returned v ∧ IntRow w' w.heap.size v (intsM s) ∧ Ext w w' := by
  obtain ⟨i0, hi, hz0, hz1, hz2⟩ := info_parts info_int
  have hlen := listF_length s
  refine (callsIn_wide (n := 5)).1 ?_
  refine callsIn_of_wp_marks Tryd.func37 rfl trivial ?_ rfl
  simp only [Tryd.ntmps37, List.size_toArray, List.length_cons, List.length_nil, Nat.reduceAdd, Nat.reduceSub, Array.replicate_succ, Array.replicate_zero, List.push_toArray, List.append_toArray, List.nil_append, List.cons_append]
  gi_wp2_with (refine ⟨trivial, ?_⟩; gi_at_call 34; refine CallsIn.mono (callsIn_wide.2 (each_p s _)) ?_; rintro e w' ⟨rfl, rfl⟩)
  have bR := Boxed.new w 25 (.slice none 0 0)
  have bO := Boxed.new (w.alloc (.cells #[.slice none 0 0] 25)) 25 (.slice none 0 0)
  have bN := Boxed.new ((w.alloc (.cells #[.slice none 0 0] 25)).alloc (.cells #[.slice none 0 0] 25)) 51 (.int .u64 s)
  rw [World.size_alloc] at bO bN
  rw [World.size_alloc] at bN
  have hB0 : Below w.heap.size w (((w.alloc (.cells #[.slice none 0 0] 25)).alloc (.cells #[.slice none 0 0] 25)).alloc (.cells #[.int .u64 s] 51)) := (((Below.refl _ w).alloc (Nat.le_refl _) _).alloc (by simp) _).alloc (by simp; omega) _
  refine wpIn_rangeFunc_ownG rfl (by omega) (gf := 82) (lb := #[.pointer (some ⟨w.heap.size + 1 + 1, 0, none⟩)]) rfl trivial (enters_of Tryd.func82 (by kernel_rfl) rfl)
    (each_stops 4 (by omega) (w.heap.size + 1 + 1) w.heap.size s hs _ (by simp) (by simp; omega) bN.cell (fun W' hW => T.ext (hB0.trans hW))) belowK_t (belowK_b (by simp; omega)) (Below.refl _ _) (fun _ => rfl)
    (fun pre W => ((∃ v, Boxed W (w.heap.size + 1) 25 v ∧ W.ownsRow w.heap.size 3 1 v (fins pre).length ((fins pre).map (Value.int .i64)) ∧ True) ∧ Boxed W w.heap.size 25 (.slice none 0 0)) ∧ Below w.heap.size w W)
    (fun _ _ _ => False)
    (OwnFrom.and (OwnFrom.and (Own.from (holdsRow_own w.heap.size (w.heap.size + 1) 25 3 1 (fun pre => (fins pre).length) (fun pre => (fins pre).map (Value.int .i64)) (fun _ _ => True)) _) (Own.from (boxed_own w.heap.size 25 (fun _ => .slice none 0 0)) _)) (ownFrom_below (Nat.le_refl _) (by simp; omega)))
    (fun _ _ _ _ _ hs _ _ => hs)
    ⟨⟨⟨_, bO.alloc _, World.ownsRow_nil _ _ _ _, trivial⟩, (bR.alloc _).alloc _⟩, hB0⟩
    (fun x => { tmps := #[.int .u64 s, undef, .pointer (some ⟨w.heap.size, 0, none⟩), .pointer (some ⟨w.heap.size + 1, 0, none⟩), .int .i64 (x.val : Nat), .int .u64 s, .func (.func 82) #[] #[.pointer (some ⟨w.heap.size + 1 + 1, 0, none⟩)], .int .i64 (x.val : Nat), undef, undef, undef, undef, undef, undef, undef, undef, undef], defers := [] }) ?assign ?body ?done ?stop
  case assign =>
    intro l x W K hK
    gi_wp2
    exact hK
  case body =>
    rintro l pre x W ⟨⟨⟨v, hv, hrow, _⟩, hr⟩, hB⟩ hlt
    have hc := hv.cell
    have hpl := fins_length pre
    have hp2 : (fins pre).length < 64 := by omega
    have hsl : ∃ A c, v = .slice A (fins pre).length c := by
      rcases hrow.2 with ⟨rfl, h0⟩ | ⟨g, cap, cur, rfl, _⟩
      · exact ⟨none, 0, by rw [h0]⟩
      · exact ⟨_, _, rfl⟩
    obtain ⟨A, c, rfl⟩ := hsl
    have hsn := Lib.hid (fins_snoc pre x)
    clear hpl
    gi_wp2_with (gi_at_builtin; refine wpListIn_append_own _ rfl _ _ 25 rfl w.heap.size 3 i0 (.int .i64 0) 1 8 Tryd.underlying25 hi hz0 hz1 hz2 rfl (by decide) _ _ _ rfl (hrow.alloc _) ⟨W.heap.size, 0, none⟩ 1 1 [.int .i64 (x.val : Nat)] rfl rfl (cell_one_new _ _ _) (by simp [Value.oneCell']) (by unfold maxLen; omega) (by omega) (by have := hB.size; simp; omega) ?_; intro v' w1 hown' hgrow _; obtain ⟨g', cap', rfl⟩ := ownsRow_succ hown'; obtain ⟨hv1, hv2, hr2, hk2, hb2⟩ := hv.appended (by decide) hrow hB.size (Nat.le_succ _) hown' hgrow; have hc1 := hv1.cell; have hf1 := hv1.frozen)
    have hr1 := ((hr.alloc (.cells #[.int .i64 (x.val : Nat)] 3)).kept hgrow (hr.not_row (by decide) hrow)).other (B' := w.heap.size + 1) (by omega) (.slice (some ⟨g', 0, none⟩) ((fins pre).length + 1) cap')
    exact ⟨hk2.from _, hb2, ⟨⟨_, hv2, by rw [hsn.out]; simpa using hr2, trivial⟩, hr1⟩, hB.trans hb2⟩
  case done =>
    rintro D ys W hD rfl ⟨⟨⟨v, hv, hrow, _⟩, hr⟩, hB⟩ hK
    have hc := hv.cell
    have hrc := hr.cell
    have hrf := hr.frozen
    rw [fins_listF] at hrow
    have hsl : ∃ A c, v = .slice A (intsM s).length c := by
      rcases hrow.2 with ⟨rfl, h0⟩ | ⟨g, cap, cur, rfl, _⟩
      · exact ⟨none, 0, by rw [h0]⟩
      · exact ⟨_, _, rfl⟩
    obtain ⟨A, c, rfl⟩ := hsl
    gi_wp2
    have hK2 := (KeepsOthers.setCell W ⟨w.heap.size, 0, none⟩ (.slice A (intsM s).length c)).same D _ hK rfl
    have hr2 := hr.set (.slice A (intsM s).length c)
    have hrow2 := hrow.kept (grownBy_setCell' W w.heap.size (.slice A (intsM s).length c)) (.inr (hr.not_row (by decide) hrow).symm)
    have hB2 : Below w.heap.size w (W.setCell ⟨w.heap.size, 0, none⟩ (.slice A (intsM s).length c)) := hB.setCell (p := ⟨w.heap.size, 0, none⟩) (Nat.le_refl _) _
    have hrow3 := ownsRow_putObj hrow2 (.deferred none) hK2 rfl
    have hB3 := hB2.trans (belowK_b (w := w) (Nat.le_refl _) _ D _ (.deferred none) (by simp at hD; omega) hK2 rfl rfl)
    have hc3 := cell_kept hr2.cell (grownBy_putObj' (W.setCell ⟨w.heap.size, 0, none⟩ (.slice A (intsM s).length c)) D (.deferred none)) (fun r e => by cases e; exact ⟨_, hK2, rfl⟩)
    refine ⟨by simp, .inl ⟨_, _, rfl, run_takeDeferred hK2, ?_⟩⟩
    refine ⟨.slice A (intsM s).length c, by simp [results, Tryd.results37, go_sem, hc3], _, rfl, ?_, hB3⟩
    unfold IntRow
    exact hrow3
  case stop =>
    rintro D c pre W _ _ h _
    exact h.elim

def textM (s : Nat) : List UInt8 := if s = 0 then [45] else txt (intsM s)
theorem digits_small (x : Fin 64) : (digits (x.val : Nat)).length ≤ 2 := by
  unfold digits Go.Lib.itoa
  rw [if_neg (by omega), Int.toNat_natCast]
  by_cases h : x.val < 10
  · rw [decDigits_one _ h]; simp
  · rw [decDigits_step _ (by omega), decDigits_one _ (by omega)]; simp
theorem txt_len : ∀ (l : List (Fin 64)), (txt (fins l)).length ≤ 3 * l.length := by
  intro l
  suffices h : ∀ (l : List (Fin 64)) (acc : List UInt8), ((fins l).foldl txtStep acc).length ≤ acc.length + 3 * l.length by
    have := h l []; simpa [txt] using this
  intro l
  induction l with
  | nil => intro acc; simp [fins]
  | cons x l ih =>
    intro acc
    have h1 := ih (txtStep acc x.val)
    have h2 : (txtStep acc (x.val : Nat)).length ≤ acc.length + 3 := by
      unfold txtStep
      have := digits_small x
      split <;> simp <;> omega
    show ((fins l).foldl txtStep (txtStep acc (x.val : Nat))).length ≤ _
    simp only [List.length_cons]
    omega
theorem boxed_others {W W' : World} {B : Nat} {t : TypeId} {v : Value} (h : Boxed W B t v) (ho : Lib.OthersKept 5 none W W') (ht : t ≠ 5) : Boxed W' B t v :=
  ho B _ h (by simp) (fun c fz e => ht (by injection e))
theorem keeps_others {W W' : World} (ho : Lib.OthersKept 5 none W W') (hs : W.heap.size ≤ W'.heap.size) : KeepsOthers W W' :=
  ⟨hs, fun k o hk hc => ho k o hk (by simp) (fun c fz e => by subst e; cases hc)⟩
theorem info_byte : (Tryd.prog.info? 5).map (fun i => (i.zero, i.size, i.bytes)) = some (some (.int .u8 0), 1, 1) := by kernel_rfl
theorem sliceOf {W : World} {base e size : Nat} {v : Value} {n : Nat} {xs : List Value} (h : W.ownsRow base e size v n xs) : ∃ A c, v = .slice A n c := by
  rcases h.2 with ⟨rfl, h0⟩ | ⟨g, cap, cur, rfl, _⟩
  · exact ⟨none, 0, by rw [h0]⟩
  · exact ⟨_, _, rfl⟩
set_option maxRecDepth 100000 in
set_option maxHeartbeats 2000000 in
theorem text_p (s : Nat) (hs : s < 18446744073709551616) (h0 : s ≠ 0) (w : World) (T : Tabs w) :
    Calls Tryd.prog 38 #[.int .u64 s] w fun e w' => e = .returned (.string ⟨(txt (intsM s)).toArray⟩) ∧ Ext w w' := by
  obtain ⟨i0, hi, hz0, hz1, hz2⟩ := info_parts info_byte
  have hlen := listF_length s
  have hz : ((s : Int) == 0) = false := by rw [beq_eq_false_iff_ne]; omega
  refine (callsIn_wide (n := 5)).1 ?_
  refine callsIn_of_wp_marks Tryd.func38 rfl trivial ?_ rfl
  simp only [Tryd.ntmps38, List.size_toArray, List.length_cons, List.length_nil, Nat.reduceAdd, Nat.reduceSub, Array.replicate_succ, Array.replicate_zero, List.push_toArray, List.append_toArray, List.nil_append, List.cons_append]
  gi_wp2_with (refine ⟨trivial, ?_⟩; gi_at_call 34; refine CallsIn.mono (callsIn_wide.2 (each_p s _)) ?_; rintro e w' ⟨rfl, rfl⟩)
  have bO := Boxed.new w 128 (.slice none 0 0)
  have bN := Boxed.new (w.alloc (.cells #[.slice none 0 0] 128)) 51 (.int .u64 s)
  rw [World.size_alloc] at bN
  have hB0 : Below w.heap.size w ((w.alloc (.cells #[.slice none 0 0] 128)).alloc (.cells #[.int .u64 s] 51)) := ((Below.refl _ w).alloc (Nat.le_refl _) _).alloc (by simp) _
  refine wpIn_rangeFunc_ownG rfl (by omega) (gf := 82) (lb := #[.pointer (some ⟨w.heap.size + 1, 0, none⟩)]) rfl trivial (enters_of Tryd.func82 (by kernel_rfl) rfl)
    (each_stops 4 (by omega) (w.heap.size + 1) w.heap.size s hs _ (by simp) (by simp; omega) bN.cell (fun W' hW => T.ext (hB0.trans hW))) belowK_t (belowK_b (by simp; omega)) (Below.refl _ _) (fun _ => rfl)
    (fun pre W => (∃ v, Boxed W w.heap.size 128 v ∧ W.ownsRow w.heap.size 5 1 v (txt (fins pre)).length (Lib.byteCells (txt (fins pre))) ∧ True) ∧ Below w.heap.size w W)
    (fun _ _ _ => False)
    (OwnFrom.and (Own.from (holdsRow_own w.heap.size w.heap.size 128 5 1 (fun pre => (txt (fins pre)).length) (fun pre => Lib.byteCells (txt (fins pre))) (fun _ _ => True)) _) (ownFrom_below (Nat.le_refl _) (by simp; omega)))
    (fun _ _ _ _ _ hs _ _ => hs)
    ⟨⟨_, bO.alloc _, World.ownsRow_nil _ _ _ _, trivial⟩, hB0⟩
    (fun x => { tmps := #[.int .u64 s, undef, .string ⟨#[]⟩, .pointer (some ⟨w.heap.size, 0, none⟩), .int .i64 (x.val : Nat), .int .u64 s, .bool false, .int .u64 s, .func (.func 82) #[] #[.pointer (some ⟨w.heap.size + 1, 0, none⟩)], .int .i64 (x.val : Nat), undef, undef, undef, undef, undef, undef, undef, undef, undef, undef, undef], defers := [] }) ?assign ?body ?done ?stop
  case assign =>
    intro l x W K hK
    gi_wp2
    exact hK
  case body =>
    rintro l pre x W ⟨⟨v, hv, hrow, _⟩, hB⟩ hlt
    have hc := hv.cell
    have htl := txt_len pre
    have hp2 : (txt (fins pre)).length ≤ 200 := by omega
    have hsn := Lib.hid (show txt (fins (pre ++ [x])) = txtStep (txt (fins pre)) x.val from by rw [fins_snoc, txt_snoc])
    have TB : Lib.TabBelow Tryd.prog w.heap.size W "internal/strconv.uint64pow10" .u64 Lib.pow10Tab := fun W' hW => (T.ext (hB.trans hW)).pow10
    have HT := Lib.hid TB
    clear TB htl
    obtain ⟨A, c, rfl⟩ := sliceOf hrow
    have hx0 : -9223372036854775808 ≤ ((x.val : Nat) : Int) := by omega
    have hx1 : ((x.val : Nat) : Int) ≤ 9223372036854775807 := by have := x.isLt; omega
    by_cases hp : txt (fins pre) = []
    · have hst : Hid (txtStep (txt (fins pre)) x.val = Go.Lib.itoa (x.val : Nat)) := by unfold Hid txtStep; rw [if_pos hp]; rfl
      rw [hp] at hv hrow hc
      have hap := Tryd.strconv_AppendInt_10 w.heap.size _ _ hx0 hx1 _ _ W hrow hB.size (by simp) HT.out
      have HA := Lib.hid hap
      clear hap hp hx0 hx1
      gi_wp2_with fail
      refine ⟨trivial, ?_⟩
      refine (CallsIn.inRound l (callsIn_wide.2 HA.out)).mono ?_
      rintro e W1 ⟨v1, rfl, hrow1, hb1, ho1⟩
      clear HA
      have hv1 := boxed_others hv ho1 (by decide)
      have hc1 := hv1.cell
      have hf1 := hv1.frozen
      obtain ⟨A1, c1, rfl⟩ := sliceOf hrow1
      gi_wp2_with fail
      have hk2 := (keeps_others ho1 hb1.size).trans (KeepsOthers.setCell W1 ⟨w.heap.size, 0, none⟩ (.slice A1 (Go.Lib.itoa (x.val : Nat)).length c1))
      have hb2 : Below w.heap.size W (W1.setCell ⟨w.heap.size, 0, none⟩ (.slice A1 (Go.Lib.itoa (x.val : Nat)).length c1)) := hb1.setCell (p := ⟨w.heap.size, 0, none⟩) (Nat.le_refl _) _
      have hrow2 := hrow1.kept (grownBy_setCell' W1 w.heap.size (.slice A1 (Go.Lib.itoa (x.val : Nat)).length c1)) (.inr (hv1.not_row (by decide) hrow1).symm)
      refine ⟨hk2.from _, hb2, ⟨⟨_, hv1.set _, ?_, trivial⟩, hB.trans hb2⟩⟩
      rw [hsn.out, hst.out]
      simpa [Lib.byteCells] using hrow2
    · have hst : Hid (txtStep (txt (fins pre)) x.val = txt (fins pre) ++ [43] ++ Go.Lib.itoa (x.val : Nat)) := by unfold Hid txtStep; rw [if_neg hp]; rfl
      have hpos : 0 < (txt (fins pre)).length := List.length_pos_iff.2 hp
      have hdec : decide (0 < ((txt (fins pre)).length : Int)) = true := by simp; omega
      have hsz := hB.size
      clear hp
      gi_wp2_with (gi_at_builtin; refine wpListIn_append_own _ rfl _ _ 128 rfl w.heap.size 5 i0 (.int .u8 0) 1 1 Tryd.underlying128 hi hz0 hz1 hz2 rfl (by decide) _ _ _ rfl (hrow.alloc _) ⟨W.heap.size, 0, none⟩ 1 1 [.int .u8 43] rfl rfl (cell_one_new _ _ _) (by simp [Value.oneCell']) (by unfold maxLen; omega) (by omega) (by simp; omega) ?_; intro v' w1 hown' hgrow _; obtain ⟨g', cap', rfl⟩ := ownsRow_succ hown'; obtain ⟨hv1, hv2, hr2, hk2, hb2⟩ := hv.appended (by decide) hrow hB.size (Nat.le_refl _) hown' hgrow; have hc1 := hv1.cell; have hf1 := hv1.frozen)
      clear hown' hgrow hv1 hc1 hf1 hv hc hrow
      generalize w1.setCell ⟨w.heap.size, 0, none⟩ (.slice (some ⟨g', 0, none⟩) ((txt (fins pre)).length + 1) cap') = W2 at *
      have hc2 := hv2.cell
      have hap := Tryd.strconv_AppendInt_10 w.heap.size _ _ hx0 hx1 _ _ _ hr2 (Nat.le_trans hsz hb2.size) (by omega) (HT.out.on hb2)
      have HA := Lib.hid hap
      clear hap hx0 hx1
      refine ⟨trivial, ?_⟩
      refine (CallsIn.inRound l (callsIn_wide.2 HA.out)).mono ?_
      rintro e W3 ⟨v1, rfl, hrow1, hb3, ho3⟩
      clear HA
      have hv3 := boxed_others hv2 ho3 (by decide)
      have hc3 := hv3.cell
      have hf3 := hv3.frozen
      obtain ⟨A1, c1, rfl⟩ := sliceOf hrow1
      clear hc2
      gi_wp2_with fail
      have hk4 := (hk2.trans (keeps_others ho3 hb3.size)).trans (KeepsOthers.setCell W3 ⟨w.heap.size, 0, none⟩ (.slice A1 ((txt (fins pre)).length + 1 + (Go.Lib.itoa (x.val : Nat)).length) c1))
      have hb4 : Below w.heap.size W (W3.setCell ⟨w.heap.size, 0, none⟩ (.slice A1 ((txt (fins pre)).length + 1 + (Go.Lib.itoa (x.val : Nat)).length) c1)) := (hb2.trans hb3).setCell (p := ⟨w.heap.size, 0, none⟩) (Nat.le_refl _) _
      have hrow2 := hrow1.kept (grownBy_setCell' W3 w.heap.size (.slice A1 ((txt (fins pre)).length + 1 + (Go.Lib.itoa (x.val : Nat)).length) c1)) (.inr (hv3.not_row (by decide) hrow1).symm)
      refine ⟨hk4.from _, hb4, ⟨⟨_, hv3.set _, ?_, trivial⟩, hB.trans hb4⟩⟩
      rw [hsn.out, hst.out]
      have el : (txt (fins pre) ++ [(43 : UInt8)] ++ Go.Lib.itoa ((x.val : Nat) : Int)).length = (txt (fins pre)).length + 1 + (Go.Lib.itoa ((x.val : Nat) : Int)).length := by simp only [List.length_append, List.length_cons, List.length_nil]
      rw [el]
      simpa [Lib.byteCells] using hrow2
  case done =>
    rintro D ys W hD rfl ⟨⟨v, hv, hrow, _⟩, hB⟩ hK
    have hc := hv.cell
    rw [fins_listF] at hrow
    have hne : txt (intsM s) ≠ [] := by
      rw [Ne, txt_nil_iff]
      unfold intsM
      simp only [List.map_eq_nil_iff]
      intro h
      have := listM_low s h0 hs
      rw [h] at this
      cases this
    have hpos : 0 < (txt (intsM s)).length := List.length_pos_iff.2 hne
    rcases hrow.2 with ⟨rfl, h00⟩ | ⟨g, cap, cur, rfl, hg, hh, hn, hm, hcs, ht⟩
    · omega
    have hcells := hrow.cells (g := g) rfl
    have hconv := run_convert_bytes_back (P := Tryd.prog) W 128 9 5 ⟨g, 0, none⟩ cap (txt (intsM s)) Tryd.underlying128 Tryd.underlying5 Tryd.underlying9 (fun j hj => hcells j _ (by simp [Lib.byteCells, hj]))
    clear hcells hne hpos hg hh hn hm hcs ht
    gi_wp2
    refine ⟨by simp, .inl ⟨_, _, rfl, run_takeDeferred hK, ?_⟩⟩
    exact ⟨_, results_tmp rfl _ _ _, rfl, hB.trans (belowK_b (w := w) (Nat.le_refl _) W D _ _ (by simp at hD; omega) hK rfl rfl)⟩
  case stop =>
    rintro D c pre W _ _ h _
    exact h.elim
theorem text_any (s : Nat) (hs : s < 18446744073709551616) (w : World) (T : Tabs w) :
    Calls Tryd.prog 38 #[.int .u64 s] w fun e w' => e = .returned (.string ⟨(textM s).toArray⟩) ∧ Ext w w' := by
  by_cases h0 : s = 0
  · subst h0
    go_enter Tryd.func38, Tryd.ntmps38
    go_wp2_with fail
    go_ret
    exact ⟨rfl, Ext.refl _⟩
  · have H := text_p s hs h0 w T
    unfold textM
    rw [if_neg h0]
    exact H
theorem ints_small (s : Nat) (x : Int) (h : x ∈ intsM s) : 0 ≤ x ∧ x < 64 := by
  unfold intsM at h
  obtain ⟨k, hk, rfl⟩ := List.mem_map.1 h
  have := listM_lt hk
  omega
theorem take_fins (s j : Nat) : ∃ f : List (Fin 64), (intsM s).take j = fins f ∧ f.length ≤ 64 := by
  refine ⟨(listF s).take j, ?_, ?_⟩
  · rw [← fins_listF]
    unfold fins
    rw [List.map_take]
  · have := listF_length s
    rw [List.length_take]
    omega
/-- The document's text. -/
theorem text_r (s : Nat) (hs : s < 18446744073709551616) (w : World) :
    Calls Tryd.prog 49 #[.int .u64 s] w fun e w' => e = .returned (.string ⟨(textM s).toArray⟩) ∧ Ext w w' := by
  go_enter Tryd.func49, Tryd.ntmps49
  go_wp2_with (go_at_call 45; refine (list_r s hs _).mono ?_; rintro e w1 ⟨v, rfl, hrow, hE⟩)
  have hI := hrow.ints
  obtain ⟨A, c, rfl, q1, q2⟩ := hI.slice
  have hl : (intsM s).length ≤ 64 := by unfold intsM; rw [List.length_map]; exact listM_length_le s
  go_wp2_with fail
  go_loop [4, 5] (fun o i => ∃ j : Nat, i = .int .i64 j ∧ j ≤ (intsM s).length ∧ o = .string ⟨(txt ((intsM s).take j)).toArray⟩) (fun _ i => (intsM s).length - (intOf i).toNat)
  case atStart => exact ⟨0, rfl, by omega, rfl⟩
  case round =>
    obtain ⟨j, rfl, hj, rfl⟩ := hrel
    by_cases hlt : j < (intsM s).length
    · obtain ⟨b1, o1, rfl, hb1, hc1⟩ := hI.at_ hlt
      rw [List.getD_eq_getElem?_getD, List.getElem?_eq_getElem hlt, Option.getD_some] at hc1
      have hv : 0 ≤ (intsM s)[j] ∧ (intsM s)[j] < 64 := ints_small s _ (List.getElem_mem hlt)
      have hd1 : -9223372036854775808 ≤ (intsM s)[j] := by omega
      have hd2 : (intsM s)[j] ≤ 9223372036854775807 := by omega
      have hdl : (digits (intsM s)[j]).length ≤ 2 := by
        obtain ⟨k, hk⟩ : ∃ k : Fin 64, (intsM s)[j] = (k.val : Nat) := ⟨⟨(intsM s)[j].toNat, by omega⟩, by simp; omega⟩
        rw [hk]
        exact digits_small k
      have htl : (txt ((intsM s).take j)).length ≤ 192 := by
        obtain ⟨f, hf, hfl⟩ := take_fins s j
        rw [hf]
        have := txt_len f
        omega
      have hst := Lib.hid (show txt ((intsM s).take (j + 1)) = txtStep (txt ((intsM s).take j)) (intsM s)[j] from by rw [List.take_succ_eq_append_getElem hlt, txt_snoc])
      have hnil := txt_nil_iff ((intsM s).take j)
      generalize htx : txt ((intsM s).take j) = tx at *
      generalize (intsM s)[j] = y at *
      by_cases h0 : 0 < j
      · have hne : tx ≠ [] := by
          rw [Ne, hnil]
          intro h
          have := congrArg List.length h
          rw [List.length_take, List.length_nil] at this
          omega
        have hst2 : Hid (txt ((intsM s).take (j + 1)) = tx ++ [43] ++ digits y) := by
          unfold Hid
          rw [hst.out]
          unfold txtStep
          rw [if_neg hne]
        clear hst hnil htx hne hI hrow
        go_wp2_with fail
        refine (digits_r y hd1 hd2 _).mono ?_
        rintro e w' ⟨rfl, rfl⟩
        go_wp2_with fail
        refine ⟨⟨j + 1, by go_num, by omega, ?_⟩, by simp [intOf]; omega⟩
        rw [hst2.out]
        refine congrArg Value.string ?_
        rw [show (⟨#[43]⟩ : ByteArray) = ⟨([43] : List UInt8).toArray⟩ from rfl, bytes_cat, bytes_cat]
      · obtain rfl : j = 0 := by omega
        have htx0 : tx = [] := by rw [hnil]; rfl
        have hst2 : Hid (txt ((intsM s).take (0 + 1)) = digits y) := by
          unfold Hid
          rw [hst.out]
          unfold txtStep
          rw [if_pos htx0]
          rfl
        subst htx0
        have hc0 : w1.cell? ⟨b1, o1, none⟩ = some (.int .i64 y) := by simpa using hc1
        clear hst hnil htx hI hrow hc1
        go_wp2_with fail
        refine (digits_r y hd1 hd2 _).mono ?_
        rintro e w' ⟨rfl, rfl⟩
        go_wp2_with fail
        refine ⟨⟨1, by go_num, by omega, ?_⟩, by simp [intOf]; omega⟩
        rw [hst2.out]
        refine congrArg Value.string ?_
        rw [show (⟨#[]⟩ : ByteArray) = ⟨([] : List UInt8).toArray⟩ from rfl, bytes_cat]
        rfl
    · obtain rfl : j = (intsM s).length := by omega
      have hsl := fins_listF s
      by_cases hz : s = 0
      · subst hz
        have hl0 : Hid ((intsM 0).length = 0) := rfl
        clear hI hrow hl
        have H : Hid (txt ((intsM 0).take (intsM 0).length) = [] ∧ textM 0 = [45]) := ⟨rfl, rfl⟩
        rw [hl0.out]
        go_wp2_with fail
        go_ret
        exact ⟨by rw [H.out.2]; rfl, hE⟩
      · have hpos : 0 < (intsM s).length := by
          unfold intsM
          rw [List.length_map, listM_low s hz hs]
          simp
        have hne : (((intsM s).length : Int) == 0) = false := by rw [beq_eq_false_iff_ne]; omega
        have H : Hid (txt ((intsM s).take (intsM s).length) = textM s) := by
          unfold Hid textM
          rw [List.take_length, if_neg hz]
        clear hI hrow hsl hz
        go_wp2_with fail
        go_ret
        refine ⟨?_, hE⟩
        rw [← H.out]
        simp
end Go.Proofs.YtbmbgbmgldjmoaaDoor
