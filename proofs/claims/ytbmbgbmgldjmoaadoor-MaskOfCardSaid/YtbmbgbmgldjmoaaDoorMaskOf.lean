/-
  MaskOf holds: any numbers, in any order, as often as they are there, are the set of those that are threads.
-/
import Derived.Test.YtbmbgbmgldjmoaaDoorMaskAlive
import Derived.Test.YtbmbgbmgldjmoaaDoorTabs
import Derived.Test.YtbmbgbmgldjmoaaDoorArgs
namespace Go.Proofs.YtbmbgbmgldjmoaaDoor.maskOf
open Go.ChangeShapes Go.WideShapes Go.ChangeAt Go.RowKit Kv
theorem any_snoc (l : List Int) (j : Nat) (hj : j < l.length) (t : Int) : (l.take (j + 1)).any (fun x => x == t) = ((l.take j).any (fun x => x == t) || (l[j] == t)) := by
  rw [List.take_succ_eq_append_getElem hj, List.any_append]
  simp
theorem walk (v : Value) (l : List Int) (t : Int) (w : World) (T : Tabs w) (h : Ints w v l) :
    Calls Tryd.prog 8 #[v, .int .i64 t] w fun e w' => e = .returned (.bool true) ∧ Ext w w' := by
  obtain ⟨A, c, rfl, q1, q2⟩ := h.slice
  by_cases hbig : 100 < l.length
  · have hd : decide ((100 : Int) < (l.length : Int)) = true := by simp; omega
    go_enter Tryd.func8, Tryd.ntmps8
    go_wp2_with fail
    refine (alive02 w T).mono ?_
    rintro e w' ⟨rfl, hx⟩
    go_wp2_with fail
    go_ret
    exact ⟨rfl, hx⟩
  · have hd : decide ((100 : Int) < (l.length : Int)) = false := by simp; omega
    go_enter Tryd.func8, Tryd.ntmps8
    go_wp2_with fail
    go_loopw [5, 6] (fun b i wr => ∃ j : Nat, i = .int .i64 j ∧ j ≤ l.length ∧ b = .bool ((l.take j).any (fun x => x == t)) ∧ Drew w wr) (fun _ i _ => l.length - (intOf i).toNat)
    case atStart => exact ⟨0, rfl, by omega, rfl, Drew.rfl' _⟩
    case round =>
      obtain ⟨j, rfl, hj, rfl, hD⟩ := hrel
      by_cases hlt : j < l.length
      · obtain ⟨b1, o1, rfl, hb1, hc1⟩ := h.at_ hlt
        rw [List.getD_eq_getElem?_getD, List.getElem?_eq_getElem hlt, Option.getD_some] at hc1
        obtain ⟨n, rfl⟩ := hD
        have hs := Lib.hid (any_snoc l j hlt t)
        generalize (l.take j).any (fun x => x == t) = b at *
        clear h
        cases b with
        | true =>
          go_wp2_with fail
          refine ⟨⟨j + 1, by go_num, by omega, by rw [hs.out]; rfl, Drew.mk' _ _⟩, by simp [intOf]; omega⟩
        | false =>
          go_wp2_with fail
          refine ⟨⟨j + 1, by go_num, by omega, by rw [hs.out, Bool.false_or], Drew.mk' _ _⟩, by simp [intOf]; omega⟩
      · obtain rfl : j = l.length := by omega
        have hI := h.ext hD.ext
        have hT := T.ext hD.ext
        have hlt2 : ofM l < 18446744073709551616 := ofM_lt l (s := 0) (by omega)
        have hcnt : (listM (ofM l)).length ≤ l.length := by
          have := of_count l 0
          rw [listM_zero] at this
          simpa [ofM] using this
        have hdc : decide ((listM (ofM l)).length ≤ l.length) = true := by simp; omega
        have hh := Lib.hid (ofM_has l t)
        rw [List.take_length]
        generalize l.any (fun x => x == t) = b at *
        clear h T hlt
        have HI := Lib.hid hI
        clear hI
        have hE := Lib.hid hD.ext
        clear hD
        by_cases h0 : 0 ≤ t
        · have e0 : decide (0 ≤ t) = true := by simp [h0]
          by_cases h1 : t < 64
          · have e1 : decide (t < 64) = true := by simp [h1]
            have hk : Hid (hasM (ofM l) t = b) := by unfold Hid; rw [hh.out, e0, e1]; simp
            clear hh
            cases b with
            | true =>
              go_wp2_with fail
              refine (of_p _ l _ HI.out).mono ?_
              rintro e w' ⟨rfl, rfl⟩
              go_wp2_with fail
              refine (has_p _ hlt2 _ _).mono ?_
              rintro e w' ⟨rfl, rfl⟩
              rw [hk.out]
              go_wp2_with fail
              refine (count_p _ hlt2 _).mono ?_
              rintro e w' ⟨rfl, rfl⟩
              go_wp2_with fail
              refine (alive02 _ hT).mono ?_
              rintro e w' ⟨rfl, hx⟩
              go_wp2_with fail
              go_ret
              exact ⟨rfl, hE.out.trans hx⟩
            | false =>
              go_wp2_with fail
              refine (of_p _ l _ HI.out).mono ?_
              rintro e w' ⟨rfl, rfl⟩
              go_wp2_with fail
              refine (has_p _ hlt2 _ _).mono ?_
              rintro e w' ⟨rfl, rfl⟩
              rw [hk.out]
              go_wp2_with fail
              refine (count_p _ hlt2 _).mono ?_
              rintro e w' ⟨rfl, rfl⟩
              go_wp2_with fail
              refine (alive02 _ hT).mono ?_
              rintro e w' ⟨rfl, hx⟩
              go_wp2_with fail
              go_ret
              exact ⟨rfl, hE.out.trans hx⟩
          · have e1 : decide (t < 64) = false := by simp; omega
            have hk : Hid (hasM (ofM l) t = false) := by unfold Hid; rw [hh.out, e0, e1]; simp
            clear hh
            cases b with
            | true =>
              go_wp2_with fail
              refine (of_p _ l _ HI.out).mono ?_
              rintro e w' ⟨rfl, rfl⟩
              go_wp2_with fail
              refine (has_p _ hlt2 _ _).mono ?_
              rintro e w' ⟨rfl, rfl⟩
              rw [hk.out]
              go_wp2_with fail
              refine (count_p _ hlt2 _).mono ?_
              rintro e w' ⟨rfl, rfl⟩
              go_wp2_with fail
              refine (alive02 _ hT).mono ?_
              rintro e w' ⟨rfl, hx⟩
              go_wp2_with fail
              go_ret
              exact ⟨rfl, hE.out.trans hx⟩
            | false =>
              go_wp2_with fail
              refine (of_p _ l _ HI.out).mono ?_
              rintro e w' ⟨rfl, rfl⟩
              go_wp2_with fail
              refine (has_p _ hlt2 _ _).mono ?_
              rintro e w' ⟨rfl, rfl⟩
              rw [hk.out]
              go_wp2_with fail
              refine (count_p _ hlt2 _).mono ?_
              rintro e w' ⟨rfl, rfl⟩
              go_wp2_with fail
              refine (alive02 _ hT).mono ?_
              rintro e w' ⟨rfl, hx⟩
              go_wp2_with fail
              go_ret
              exact ⟨rfl, hE.out.trans hx⟩
        · have e0 : decide (0 ≤ t) = false := by simp; omega
          have hk : Hid (hasM (ofM l) t = false) := by unfold Hid; rw [hh.out, e0]; simp
          clear hh
          cases b with
          | true =>
            go_wp2_with fail
            refine (of_p _ l _ HI.out).mono ?_
            rintro e w' ⟨rfl, rfl⟩
            go_wp2_with fail
            refine (has_p _ hlt2 _ _).mono ?_
            rintro e w' ⟨rfl, rfl⟩
            rw [hk.out]
            go_wp2_with fail
            refine (count_p _ hlt2 _).mono ?_
            rintro e w' ⟨rfl, rfl⟩
            go_wp2_with fail
            refine (alive02 _ hT).mono ?_
            rintro e w' ⟨rfl, hx⟩
            go_wp2_with fail
            go_ret
            exact ⟨rfl, hE.out.trans hx⟩
          | false =>
            go_wp2_with fail
            refine (of_p _ l _ HI.out).mono ?_
            rintro e w' ⟨rfl, rfl⟩
            go_wp2_with fail
            refine (has_p _ hlt2 _ _).mono ?_
            rintro e w' ⟨rfl, rfl⟩
            rw [hk.out]
            go_wp2_with fail
            refine (count_p _ hlt2 _).mono ?_
            rintro e w' ⟨rfl, rfl⟩
            go_wp2_with fail
            refine (alive02 _ hT).mono ?_
            rintro e w' ⟨rfl, hx⟩
            go_wp2_with fail
            go_ret
            exact ⟨rfl, hE.out.trans hx⟩
set_option maxRecDepth 100000 in
theorem main (H : Type) (enc : TypeId × Value → H) (W : World) (base : Nat) (args : Array Value) (ds : List (DataW H)) (p : List MemPlace)
    (hval : ∀ (j : Nat) t v, Tryd.f8.params[j]? = some t → args[j]? = some v → Value.okWide Tryd.prog W .any base t v)
    (hA : DataW.TrodAll enc Tryd.prog W 0 (fun _ => true) true Tryd.f8.params.toList args.toList ds p) (hL : laidMetH Tryd.prog Rows.maskOfRow.laid W) :
    Calls Tryd.prog 8 args W fun e w' => e = .returned (.bool true) ∧ Ext W w' := by
  rw [Tryd.params8] at hA hval
  obtain ⟨v0, vs0, d0, ds0, p0, q0, hargs, rfl, rfl, h0, r0⟩ := trodAll_cons hA
  obtain ⟨v1, vs1, d1, ds1, p1, q1, rfl, rfl, rfl, h1, r1⟩ := trodAll_cons r0
  obtain ⟨rfl, rfl, rfl⟩ := trodAll_nil r1
  obtain rfl : args = #[v0, v1] := by cases args; simp_all
  obtain ⟨l, hl, _⟩ := ints_arg (hval 0 25 v0 rfl rfl) h0
  obtain ⟨t, rfl, rfl, rfl, wt⟩ := open_int Tryd.underlying3 (hval 1 3 v1 rfl rfl) h1
  exact walk v0 l t W (tabs_of hL) hl
end Go.Proofs.YtbmbgbmgldjmoaaDoor.maskOf
