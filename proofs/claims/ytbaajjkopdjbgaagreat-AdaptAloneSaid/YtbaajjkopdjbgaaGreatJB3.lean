/-
  Lists of the document's tape: numbers made tame, noughts at the end cut off.
-/
import Derived.Test.YtbaajjkopdjbgaaGreatJB2
import Derived.Maps.AppendAt
import Derived.Defers
import Derived.Recover
import Derived.LaidEqlPtr
import Derived.Deep.RegionHeld3
import Derived.Laws.StructEq
/-
  Lists of the document's tape: numbers made tame, noughts at the end cut off.
-/
namespace Kv
/-- Numbers from 0 to a greatest one. -/
def tameL (L : List Int) (top : Int) : List Int := (L.take 3000).map fun x => wrapI x top
/-- A list without noughts at its end. -/
def shortN (L : List Int) : Nat → Nat
  | 0 => 0
  | n + 1 => if L.getD n 0 = 0 then shortN L n else n + 1
def shortL (L : List Int) : List Int := L.take (shortN L L.length)
theorem shortN_le (L : List Int) : ∀ n, shortN L n ≤ n
  | 0 => Nat.le_refl _
  | n + 1 => by
    unfold shortN
    split
    · exact Nat.le_succ_of_le (shortN_le L n)
    · exact Nat.le_refl _
end Kv
namespace Go.Proofs.YtbaajjkopdjbgaaGreat
open Go.RowKit Kv
set_option maxRecDepth 100000 in
theorem tame_r (v : Value) (L : List Int) (top : Int) (w : World) (h : Ints w v L) :
    Calls Tryz.prog 24 #[v, .int .i64 top] w fun e w' => ∃ v', e = .returned v' ∧ IntRow w' w.heap.size v' (tameL L top) ∧ Ext w w' := by
  obtain ⟨A, c, rfl, q1, q2⟩ := h.slice
  go_enter Tryz.func24, Tryz.ntmps24
  go_wp2_with fail
  go_loopw [5, 6] (fun v i wr => ∃ j : Nat, i = .int .i64 j ∧ j ≤ L.length ∧ j ≤ 3000 ∧ IntRow wr w.heap.size v ((L.take j).map fun x => wrapI x top) ∧ Ext w wr) (fun _ i _ => 3000 - (intOf i).toNat)
  case atStart => exact ⟨0, rfl, by omega, by omega, IntRow.nil _ _, Ext.refl _⟩
  case round =>
    obtain ⟨j, rfl, hj, hj2, hown, hE⟩ := hrel
    have hsz := hE.size
    have hlt1 : ((L.take j).map fun x => wrapI x top).length < 1000000000000 := by simp; omega
    by_cases hl : j < L.length ∧ j < 3000
    · obtain ⟨hl1, hl2⟩ := hl
      obtain ⟨b, off, rfl, hb, hcell⟩ := (h.ext hE).at_ hl1
      have hs : ((L.take (j + 1)).map fun x => wrapI x top) = ((L.take j).map fun x => wrapI x top) ++ [wrapI (L.getD j 0) top] := by
        rw [List.take_succ_eq_append_getElem hl1, List.map_append]
        simp [List.getD, hl1]
      have H1 := Lib.hid hs
      clear hs
      generalize L.getD j 0 = E at *
      have hEh := Lib.hid hE
      clear hE
      generalize hM : ((L.take j).map fun x => wrapI x top) = M at *
      clear hM
      have hh := Lib.hid h
      clear h
      go_wp2_with (first | (go_at_call 43; refine (wrap_r _ _ _).mono ?_; rintro e w' ⟨rfl, rfl⟩) | (at_builtin; refine append_int rfl _ _ rfl w.heap.size _ M (wrapI E top) hown rfl rfl hlt1 hsz ?_))
      intro v' w1 hown' hgrow
      have hE' := hEh.out.appended hown hgrow
      rw [← H1.out] at hown'
      clear hown hgrow
      go_wp2_with fail
      go_roundw
      case rel => exact ⟨j + 1, by go_num, by omega, by omega, hown', hE'⟩
      case measure => simp [intOf]; omega
    · have hf : ((L.take j).map fun x => wrapI x top) = tameL L top := by
        unfold tameL
        congr 1
        by_cases e : j < L.length
        · rw [show j = 3000 by omega]
        · rw [List.take_of_length_le (by omega), List.take_of_length_le (by omega)]
      rw [hf] at hown
      clear hf hlt1
      by_cases e : j < L.length
      · have e3 : ¬ j < 3000 := fun e3 => hl ⟨e, e3⟩
        clear hl h
        go_wp2_with fail
        go_ret
        exact ⟨_, rfl, hown, hE⟩
      · clear hl h
        go_wp2_with fail
        go_ret
        exact ⟨_, rfl, hown, hE⟩
theorem Ints.take {w : World} {A : Option Addr} {c : Nat} {L : List Int} (h : Ints w (.slice A L.length c) L) (m : Nat) (hm : m ≤ L.length) : Ints w (.slice A m c) (L.take m) := by
  obtain ⟨A', c', he, h1, h2, h3⟩ := h
  injection he with e1 e2 e3
  subst e1 e3
  have hl : (L.take m).length = m := by rw [List.length_take]; omega
  refine ⟨A, c, by rw [hl], by omega, h2, fun hne => ?_⟩
  obtain ⟨b, off, rfl, hb, hc⟩ := h3 (fun e => hne (by rw [e]; simp))
  refine ⟨b, off, rfl, hb, fun i x hi => hc i x ?_⟩
  rw [List.getElem?_take] at hi
  split at hi
  · exact hi
  · cases hi
set_option maxRecDepth 100000 in
theorem short_at (A : Option Addr) (c : Nat) (L : List Int) (w : World) (h : Ints w (.slice A L.length c) L) (q1 : L.length ≤ c) (q2 : c ≤ 9223372036854775807) :
    Calls Tryz.prog 62 #[.slice A L.length c] w fun e w' => e = .returned (.slice A (shortN L L.length) c) ∧ w = w' := by
  go_enter Tryz.func62, Tryz.ntmps62
  go_wp2_with fail
  go_loopw [0] (fun v wr => ∃ n : Nat, v = .slice A n c ∧ n ≤ L.length ∧ Hid (shortN L n = shortN L L.length) ∧ w = wr) (fun v _ => match v with
    | .slice _ n _ => n
    | _ => 0)
  case atStart => exact ⟨L.length, rfl, by omega, rfl, rfl⟩
  case round =>
    obtain ⟨n, rfl, hn, hs, rfl⟩ := hrel
    cases n with
    | zero =>
      have hf := Lib.hid (show shortN L L.length = 0 from hs.out.symm)
      clear hs h
      go_wp2_with fail
      go_ret
      exact ⟨by rw [hf.out]; rfl, rfl⟩
    | succ n =>
      obtain ⟨b, off, rfl, hb, hcell⟩ := h.at_ (show n < L.length by omega)
      by_cases e : L.getD n 0 = 0
      · have hs2 : Hid (shortN L n = shortN L L.length) := Lib.hid (by rw [← hs.out]; show _ = (if L.getD n 0 = 0 then shortN L n else n + 1); rw [if_pos e])
        rw [e] at hcell
        clear hs e h
        go_wp2_with fail
        exact ⟨⟨n, rfl, by omega, hs2, by trivial⟩, Nat.lt_succ_self n⟩
      · have hf := Lib.hid (show shortN L L.length = n + 1 from by rw [← hs.out]; show (if L.getD n 0 = 0 then shortN L n else n + 1) = _; rw [if_neg e])
        have e2 : (L.getD n 0 == 0) = false := by rw [beq_eq_false_iff_ne]; exact e
        generalize L.getD n 0 = E at *
        clear hs e h
        go_wp2_with fail
        go_ret
        exact ⟨by rw [hf.out]; rfl, rfl⟩
theorem shortL_ints {w : World} {A : Option Addr} {c : Nat} {L : List Int} (h : Ints w (.slice A L.length c) L) : Ints w (.slice A (shortN L L.length) c) (shortL L) := h.take _ (shortN_le _ _)
end Go.Proofs.YtbaajjkopdjbgaaGreat
/-
  A list cloned.
-/
namespace Go.Proofs.YtbaajjkopdjbgaaGreat
open Go.RowKit Kv
set_option maxRecDepth 100000 in
/-- All of a list behind an empty row. -/
theorem append_all {ops : Array Oper} {rest : List Oper} {o : Oper} {a : Act} {Q : Exit → Act → World → Prop} {w : World} (hgd : o.guard = none) (s x : Operand)
    (ho : o.op = .call { callee := .builtin .append, args := #[s, x], argTypes := #[25, 25] })
    (ad : Addr) (c : Nat) (L : List Int) (hL : Ints w (.slice (some ad) L.length c) L) (hs : a.eval s = .slice (some ⟨w.heap.size, 0, none⟩) 0 0) (hx : a.eval x = .slice (some ad) L.length c)
    (hlen : L.length < 1000000)
    (h : ∀ v' w', IntRow w' w.heap.size v' L → Ext w w' → wpList Tryz.prog ops Q rest (a.put o.dst v') w') :
    wpList Tryz.prog ops Q (o :: rest) a (w.alloc (.cells #[] 3)) := by
  obtain ⟨i0, hi, hz0, hz1, hz2⟩ := info_parts info_int
  have hown : (w.alloc (.cells #[] 3)).ownsRow w.heap.size 3 1 (.slice (some ⟨w.heap.size, 0, none⟩) 0 0) 0 [] :=
    ⟨rfl, .inr ⟨w.heap.size, 0, #[], rfl, Nat.le_refl _, heap_alloc_new _ _, Nat.le_refl _, Nat.zero_le _, rfl, rfl⟩⟩
  refine wpList_append_own_at _ hgd s x 25 ho w.heap.size 3 i0 (.int .i64 0) 1 8 Tryz.underlying25 hi hz0 hz1 hz2 rfl (by decide) _ 0 [] hs hown ad L.length c (L.map (Value.int .i64)) hx (by simp) ?_ (by simp [Value.oneCell']) (by unfold maxLen; omega) (by omega) (by simp) fun v' w' h1 h2 _ _ => ?_
  · intro j u hu
    obtain ⟨A', c', he, _, _, h3⟩ := hL.ext ((Ext.refl w).alloc (.cells #[] 3))
    rw [List.getElem?_map] at hu
    cases hj : L[j]? with
    | none => rw [hj] at hu; cases hu
    | some y =>
      rw [hj] at hu
      obtain ⟨b, off, rfl, _, hc⟩ := h3 (fun e => by rw [e] at hj; cases hj)
      injection he with e1 e2 e3
      injection e1 with e1
      subst e1
      rw [Addr.add_lit]
      rw [hc j y hj]
      simpa using hu
  · rw [List.nil_append, Nat.zero_add] at h1
    exact h v' w' h1 (Below.grown ((Ext.refl w).alloc (.cells #[] 3)) h2 (by simp) (fun k hk => by simp [Value.ownBlock] at hk; omega))
set_option maxRecDepth 100000 in
theorem clone_x (a : Addr) (c : Nat) (L : List Int) (w : World) (h : Ints w (.slice (some a) L.length c) L) (hl : L.length < 1000000) :
    Calls Tryz.prog 85 #[.slice (some a) L.length c] w fun e w' => ∃ v', e = .returned v' ∧ IntRow w' w.heap.size v' L ∧ Ext w w' := by
  have hcmp : ∀ (n : Nat) (w : World), (binOp .eql 25 (.slice (some a) n c) (.slice none 0 0)).run Tryz.prog w = .ok (.bool false) w := fun _ _ => rfl
  go_enter Tryz.func85, Tryz.ntmps85
  go_wp2_with (at_builtin; refine append_all rfl _ _ rfl a c L h rfl rfl hl ?_)
  intro v' w' h1 h2
  go_wp2_with fail
  go_ret
  exact ⟨v', rfl, h1, h2⟩
set_option maxRecDepth 100000 in
theorem clone_nil (c : Nat) (w : World) : Calls Tryz.prog 85 #[.slice none 0 c] w fun e w' => e = .returned (.slice none 0 0) ∧ w = w' := by
  have hcmp : ∀ (n : Nat) (w : World), (binOp .eql 25 (.slice none n c) (.slice none 0 0)).run Tryz.prog w = .ok (.bool true) w := fun _ _ => rfl
  go_enter Tryz.func85, Tryz.ntmps85
  go_wp2_with fail
  go_ret
  exact ⟨rfl, rfl⟩
theorem clone_any (A : Option Addr) (c : Nat) (L : List Int) (w : World) (h : Ints w (.slice A L.length c) L) (hl : L.length < 1000000) :
    Calls Tryz.prog 85 #[.slice A L.length c] w fun e w' => ∃ v', e = .returned v' ∧ IntRow w' w.heap.size v' L ∧ Ext w w' := by
  cases A with
  | some a => exact clone_x a c L w h hl
  | none =>
    have hL : L = [] := by
      obtain ⟨A', c', he, _, _, h3⟩ := h
      by_cases e : L = []
      · exact e
      · obtain ⟨b, off, rfl, _⟩ := h3 e
        cases he
    subst hL
    refine (clone_nil c w).mono ?_
    rintro e w' ⟨rfl, rfl⟩
    exact ⟨_, rfl, IntRow.nil _ _, Ext.refl _⟩
set_option maxRecDepth 100000 in
theorem tshort_p (A : Option Addr) (c : Nat) (L : List Int) (w : World) (h : Ints w (.slice A L.length c) L) (q1 : L.length ≤ c) (_q2 : c ≤ 9223372036854775807) (_q3 : L.length < 1000000) :
    Calls Tryz.prog 87 #[.slice A L.length c] w fun e w' => ∃ v', e = .returned v' ∧ IntRow w' w.heap.size v' (shortL L) ∧ Ext w w' := by
  go_enter Tryz.func87, Tryz.ntmps87
  go_wp2_with fail
  go_loopw [3] (fun v wr => ∃ n : Nat, v = .int .i64 n ∧ n ≤ L.length ∧ Hid (shortN L n = shortN L L.length) ∧ w = wr) (fun v _ => (intOf v).toNat)
  case atStart => exact ⟨L.length, rfl, by omega, rfl, rfl⟩
  case round =>
    obtain ⟨n, rfl, hn, hs, rfl⟩ := hrel
    have hlen : ∀ m, m ≤ L.length → (L.take m).length = m := fun m hm => by rw [List.length_take]; omega
    cases n with
    | zero =>
      have hf : L.take 0 = shortL L := by unfold shortL; rw [← hs.out]; rfl
      have hT := clone_any A c (L.take 0) w (by have := h.take 0 (by omega); rw [hlen 0 (by omega)]; exact this) (by simp)
      rw [hlen 0 (by omega), hf] at hT
      clear hs h hf hlen
      go_wp2_with fail
      refine hT.mono ?_
      rintro e w1 ⟨v', rfl, h1, h2⟩
      go_wp2_with fail
      go_ret
      exact ⟨v', rfl, h1, h2⟩
    | succ n =>
      obtain ⟨b, off, rfl, hb, hcell⟩ := h.at_ (show n < L.length by omega)
      by_cases e : L.getD n 0 = 0
      · have hs2 : Hid (shortN L n = shortN L L.length) := Lib.hid (by rw [← hs.out]; show _ = (if L.getD n 0 = 0 then shortN L n else n + 1); rw [if_pos e])
        rw [e] at hcell
        clear hs e h hlen
        go_wp2_with fail
        exact ⟨⟨n, rfl, by omega, hs2, by trivial⟩, by simp [intOf]⟩
      · have e3 := Lib.hid (show shortN L L.length = n + 1 from by rw [← hs.out]; show (if L.getD n 0 = 0 then shortN L n else n + 1) = _; rw [if_neg e])
        have hf : L.take (n + 1) = shortL L := by unfold shortL; rw [e3.out]
        have hT := clone_any (some ⟨b, off, none⟩) c (L.take (n + 1)) w (by have := h.take (n + 1) (by omega); rw [hlen (n + 1) (by omega)]; exact this) (by rw [hlen (n + 1) (by omega)]; omega)
        rw [hlen (n + 1) (by omega), hf] at hT
        have e2 : (L.getD n 0 == 0) = false := by rw [beq_eq_false_iff_ne]; exact e
        generalize L.getD n 0 = E at *
        clear hs e h hf hlen
        go_wp2_with fail
        refine hT.mono ?_
        rintro e w1 ⟨v', rfl, h1, h2⟩
        go_wp2_with fail
        go_ret
        exact ⟨v', rfl, h1, h2⟩
end Go.Proofs.YtbaajjkopdjbgaaGreat
/-
  Registers of the document: an atomic bit written and read.
-/
namespace Go.Proofs.YtbaajjkopdjbgaaGreat
open Go.RowKit Kv
theorem bit_r (v : Int) (w : World) : Calls Tryz.prog 203 #[.int .i64 v] w fun e w' => e = .returned (.int .i64 (bitM v)) ∧ w = w' := by
  unfold bitM
  by_cases hv : v = 0
  · subst hv
    go_enter Tryz.func203, Tryz.ntmps203
    go_wp2_with fail
    go_ret
    exact ⟨rfl, rfl⟩
  · rw [if_neg hv]
    have hv2 : (v == 0) = false := by rw [beq_eq_false_iff_ne]; exact hv
    go_enter Tryz.func203, Tryz.ntmps203
    go_wp2_with fail
    go_ret
    exact ⟨rfl, rfl⟩
theorem tromp_write_r (B p : Nat) (o : Bool) (S : TS) (r : Reg) (v : Int) (w : World) (h : RAt B w p o S) (hb1 : 0 ≤ r.base) (hb2 : r.base ≤ 60000) (hl1 : 0 ≤ r.loc) (hl2 : r.loc ≤ 60000) :
    Calls Tryz.prog 253 #[.pointer (some ⟨p, 0, none⟩), encR r, .int .i64 v] w (RPost encU B p w (trompW r.base r.loc v) o S) := by
  generalize hR : RPost encU B p w (trompW r.base r.loc v) o S = R
  have hO : ROwes R encU B p w (trompW r.base r.loc v) o S := hR ▸ rowes _ _ _ _ _ _ _
  clear hR
  obtain ⟨kind, base, loc, n, wr, rd, top⟩ := r
  simp only at hb1 hb2 hl1 hl2 hO
  unfold encR
  have hK := Keep.refl [3, 4, 5] B p w
  have hP := h
  have b1 := hP.held (.cells #[.int .i64 kind, .int .i64 base, .int .i64 loc, .int .i64 n, .int .i64 wr, .int .i64 rd, .int .i64 top] 67)
  replace hK := hK.trans (Keep.alloc (.cells #[.int .i64 kind, .int .i64 base, .int .i64 loc, .int .i64 n, .int .i64 wr, .int .i64 rd, .int .i64 top] 67) hP.lt hP.le)
  replace hP := hP.alloc (.cells #[.int .i64 kind, .int .i64 base, .int .i64 loc, .int .i64 n, .int .i64 wr, .int .i64 rd, .int .i64 top] 67)
  have c_b1 := b1.cells
  clear h
  unfold trompW at hO
  go_enter Tryz.func253, Tryz.ntmps253
  go_wp2_with fail
  refine (bit_r v _).mono ?_
  rintro e w' ⟨rfl, rfl⟩
  generalize bitM v = b at *
  go_wp2_with fail
  refine (get_r B p o S (loc) _ hP).mono ?_
  rintro e w' ⟨rfl, rfl⟩
  replace hO := hO.get
  generalize S.got (loc) = x at hO ⊢
  by_cases hx : x = b
  · rw [if_pos hx] at hO
    subst hx
    go_wp2_with fail
    first | go_end0 | refine bodyPost_ret (results_none rfl _ _ _) rfl ?_
    exact hO.ret hP hK
  · rw [if_neg hx] at hO
    have hx2 : (x == b) = false := by rw [beq_eq_false_iff_ne]; exact hx
    go_wp2_with fail
    refine rstep hO hK (write_r B p o S _ _ _ hP) ?_
    clear hO hK hP c_b1
    intro u o S w1 hP hk hK hO
    replace b1 := b1.keep hk
    have c_b1 := b1.cells
    clear hk
    go_wp2_with fail
    refine rstep hO hK (set_r B p o S _ _ _ hP) ?_
    clear hO hK hP c_b1
    intro u o S w1 hP hk hK hO
    replace b1 := b1.keep hk
    have c_b1 := b1.cells
    clear hk
    go_wp2_with fail
    refine (get_r B p o S (loc + 1) _ hP).mono ?_
    rintro e w' ⟨rfl, rfl⟩
    replace hO := hO.get
    generalize S.got (loc + 1) = z at hO ⊢
    go_wp2_with fail
    refine rstep hO hK (read_r B p o S _ _ hP) ?_
    clear hO hK hP c_b1
    intro y o S w1 hP hk hK hO
    replace b1 := b1.keep hk
    have c_b1 := b1.cells
    clear hk
    by_cases hy : y = z
    · rw [if_pos hy] at hO
      subst hy
      obtain ⟨_, _, _, _, _, hcc⟩ := hP.cell
      cases o with
      | true =>
        go_wp2_with fail
        first | go_end0 | refine bodyPost_ret (results_none rfl _ _ _) rfl ?_
        exact hO.over () hP hK
      | false =>
        go_wp2_with fail
        clear hcc
        refine rstep hO hK (write_r B p false S _ _ _ hP) ?_
        clear hO hK hP c_b1
        intro u o S w1 hP hk hK hO
        replace b1 := b1.keep hk
        have c_b1 := b1.cells
        clear hk
        go_wp2_with fail
        refine rlast hO hK (set_r B p o S _ _ _ hP) ?_
        clear hO hK hP c_b1
        intro u o S w1 hP hk hK hO
        replace b1 := b1.keep hk
        have c_b1 := b1.cells
        clear hk
        go_wp2_with fail
        first | go_end0 | refine bodyPost_ret (results_none rfl _ _ _) rfl ?_
        exact hO.ret hP hK
    · rw [if_neg hy] at hO
      have hy2 : (y == z) = false := by rw [beq_eq_false_iff_ne]; exact hy
      go_wp2_with fail
      first | go_end0 | refine bodyPost_ret (results_none rfl _ _ _) rfl ?_
      exact hO.ret hP hK
set_option maxHeartbeats 2000000 in
theorem tromp_read_r (B p : Nat) (o : Bool) (S : TS) (r : Reg) (w : World) (h : RAt B w p o S) (hb1 : 0 ≤ r.base) (hb2 : r.base ≤ 60000) (hl1 : 0 ≤ r.loc) (hl2 : r.loc ≤ 60000) :
    Calls Tryz.prog 259 #[.pointer (some ⟨p, 0, none⟩), encR r] w (RPost encI B p w (trompR r.base r.loc) o S) := by
  generalize hR : RPost encI B p w (trompR r.base r.loc) o S = R
  have hO : ROwes R encI B p w (trompR r.base r.loc) o S := hR ▸ rowes _ _ _ _ _ _ _
  clear hR
  obtain ⟨kind, base, loc, n, wr, rd, top⟩ := r
  simp only at hb1 hb2 hl1 hl2 hO
  unfold encR
  have hK := Keep.refl [3, 4, 5] B p w
  have hP := h
  have b1 := hP.held (.cells #[.int .i64 kind, .int .i64 base, .int .i64 loc, .int .i64 n, .int .i64 wr, .int .i64 rd, .int .i64 top] 67)
  replace hK := hK.trans (Keep.alloc (.cells #[.int .i64 kind, .int .i64 base, .int .i64 loc, .int .i64 n, .int .i64 wr, .int .i64 rd, .int .i64 top] 67) hP.lt hP.le)
  replace hP := hP.alloc (.cells #[.int .i64 kind, .int .i64 base, .int .i64 loc, .int .i64 n, .int .i64 wr, .int .i64 rd, .int .i64 top] 67)
  have c_b1 := b1.cells
  clear h
  unfold trompR at hO
  go_enter Tryz.func259, Tryz.ntmps259
  go_wp2_with fail
  have hwb := IntWalk.i64_in (base + 1) (by omega)
  have hwv := IntWalk.i64_in (loc + 3) (by omega)
  have hw0 := IntWalk.i64_in base (by omega)
  have hwl := IntWalk.i64_in (loc + 2) (by omega)
  replace hP := hP.drew
  replace hK := hK.drew
  replace b1 := b1.drew
  go_region_held2 (fun w' => w'.cell? ⟨w.heap.size, 1, none⟩ = some (.int .i64 base) ∧ w'.cell? ⟨w.heap.size, 2, none⟩ = some (.int .i64 loc)) (first | go_keep | exact ⟨c_b1 1, c_b1 2⟩)
    (first
      | (go_at_call 134
         refine rstep hO hK (read_r B p o S _ _ hP) ?_
         clear hO hK hP c_b1
         intro y o S w1 hP hk hK hO
         replace b1 := b1.keep hk
         have c_b1 := b1.cells
         clear hk)
      | (go_at_call 133
         refine (get_r B p o S (loc + 2) _ hP).mono ?_
         rintro e w' ⟨rfl, rfl⟩
         replace hO := hO.get
         generalize S.got (loc + 2) = g at hO ⊢))
  by_cases hy : y = g
  · rw [if_pos hy] at hO
    subst hy
    go_wp2_with fail
    refine (get_r B p o S (loc + 3) _ hP).mono ?_
    rintro e w' ⟨rfl, rfl⟩
    replace hO := hO.get1
    generalize S.got (loc + 3) = z at hO ⊢
    go_wp2_with fail
    exact hO.ret hP hK
  · rw [if_neg hy] at hO
    have hy2 : (y == g) = false := by rw [beq_eq_false_iff_ne]; exact hy
    have hy3 : (y != g) = true := by rw [bne_iff_ne]; exact hy
    go_wp2_with fail
    refine rstep hO hK (read_r B p o S _ _ hP) ?_
    clear hO hK hP c_b1
    intro x o S w1 hP hk hK hO
    replace b1 := b1.keep hk
    have c_b1 := b1.cells
    clear hk
    unfold trompR2 at hO
    clear hy2 hy3 hy
    go_wp2_with fail
    replace hP := hP.drew
    replace hK := hK.drew
    replace b1 := b1.drew
    go_region_held2 (fun w' => w'.cell? ⟨w.heap.size, 1, none⟩ = some (.int .i64 base) ∧ w'.cell? ⟨w.heap.size, 2, none⟩ = some (.int .i64 loc)) (first | go_keep | exact ⟨c_b1 1, c_b1 2⟩)
      (first
        | (go_at_call 134
           refine rstep hO hK (read_r B p o S _ _ hP) ?_
           clear hO hK hP c_b1
           intro y o S w1 hP hk hK hO
           replace b1 := b1.keep hk
           have c_b1 := b1.cells
           clear hk)
        | (go_at_call 133
           refine (get_r B p o S (loc + 2) _ hP).mono ?_
           rintro e w' ⟨rfl, rfl⟩
           replace hO := hO.get
           generalize S.got (loc + 2) = g at hO ⊢))
    by_cases hy : y = g
    · rw [if_pos hy] at hO
      subst hy
      have hy : y = y := rfl
      clear hy
      go_wp2_with fail
      unfold trompR3 at hO
      replace hP := hP.drew
      replace hK := hK.drew
      replace b1 := b1.drew
      go_region_held2 (fun w' => w'.cell? ⟨w.heap.size, 1, none⟩ = some (.int .i64 base) ∧ w'.cell? ⟨w.heap.size, 2, none⟩ = some (.int .i64 loc)) (first | go_keep | exact ⟨c_b1 1, c_b1 2⟩)
        (first
          | (go_at_call 134
             refine rstep hO hK (read_r B p o S _ _ hP) ?_
             clear hO hK hP c_b1
             intro y o S w1 hP hk hK hO
             replace b1 := b1.keep hk
             have c_b1 := b1.cells
             clear hk)
          | (go_at_call 136
             refine rstep hO hK (set_r B p o S _ _ _ hP) ?_
             clear hO hK hP c_b1
             intro u o S w1 hP hk hK hO
             replace b1 := b1.keep hk
             have c_b1 := b1.cells
             clear hk))
      go_wp2_with fail
      replace hP := hP.drew
      replace hK := hK.drew
      replace b1 := b1.drew
      go_region_held2 (fun w' => w'.cell? ⟨w.heap.size, 1, none⟩ = some (.int .i64 base) ∧ w'.cell? ⟨w.heap.size, 2, none⟩ = some (.int .i64 loc)) (first | go_keep | exact ⟨c_b1 1, c_b1 2⟩)
        (first
          | (go_at_call 134
             refine rstep hO hK (read_r B p o S _ _ hP) ?_
             clear hO hK hP c_b1
             intro y o S w1 hP hk hK hO
             replace b1 := b1.keep hk
             have c_b1 := b1.cells
             clear hk)
          | (go_at_call 133
             refine (get_r B p o S (loc + 2) _ hP).mono ?_
             rintro e w' ⟨rfl, rfl⟩
             replace hO := hO.get
             generalize S.got (loc + 2) = g at hO ⊢))
      by_cases hy : y = g
      · rw [if_pos hy] at hO
        subst hy
        go_wp2_with fail
        refine (get_r B p o S (loc + 3) _ hP).mono ?_
        rintro e w' ⟨rfl, rfl⟩
        replace hO := hO.get1
        generalize S.got (loc + 3) = z at hO ⊢
        go_wp2_with fail
        exact hO.ret hP hK
      · rw [if_neg hy] at hO
        have hy2 : (y == g) = false := by rw [beq_eq_false_iff_ne]; exact hy
        have hy3 : (y != g) = true := by rw [bne_iff_ne]; exact hy
        go_wp2_with fail
        replace hP := hP.drew
        replace hK := hK.drew
        replace b1 := b1.drew
        go_region_held2 (fun w' => w'.cell? ⟨w.heap.size, 1, none⟩ = some (.int .i64 base) ∧ w'.cell? ⟨w.heap.size, 2, none⟩ = some (.int .i64 loc)) (first | go_keep | exact ⟨c_b1 1, c_b1 2⟩)
          (first
            | (go_at_call 134
               refine rstep hO hK (read_r B p o S _ _ hP) ?_
               clear hO hK hP c_b1
               intro y o S w1 hP hk hK hO
               replace b1 := b1.keep hk
               have c_b1 := b1.cells
               clear hk)
            | (go_at_call 136
               refine rstep hO hK (set_r B p o S _ _ _ hP) ?_
               clear hO hK hP c_b1
               intro u o S w1 hP hk hK hO
               replace b1 := b1.keep hk
               have c_b1 := b1.cells
               clear hk))
        go_wp2_with fail
        exact hO.ret hP hK
    · rw [if_neg hy] at hO
      have hy2 : (y == g) = false := by rw [beq_eq_false_iff_ne]; exact hy
      have hy3 : (y != g) = true := by rw [bne_iff_ne]; exact hy
      go_wp2_with fail
      refine (get_r B p o S (loc + 2) _ hP).mono ?_
      rintro e w' ⟨rfl, rfl⟩
      replace hO := hO.get
      generalize S.got (loc + 2) = t at hO ⊢
      go_wp2_with fail
      refine rstep hO hK (write_r B p o S _ _ _ hP) ?_
      clear hO hK hP c_b1
      intro u o S w1 hP hk hK hO
      replace b1 := b1.keep hk
      have c_b1 := b1.cells
      clear hk
      go_wp2_with fail
      refine rstep hO hK (set_r B p o S _ _ _ hP) ?_
      clear hO hK hP c_b1
      intro u o S w1 hP hk hK hO
      replace b1 := b1.keep hk
      have c_b1 := b1.cells
      clear hk
      clear hy2 hy3
      clear hy
      go_wp2_with fail
      unfold trompR3 at hO
      replace hP := hP.drew
      replace hK := hK.drew
      replace b1 := b1.drew
      go_region_held2 (fun w' => w'.cell? ⟨w.heap.size, 1, none⟩ = some (.int .i64 base) ∧ w'.cell? ⟨w.heap.size, 2, none⟩ = some (.int .i64 loc)) (first | go_keep | exact ⟨c_b1 1, c_b1 2⟩)
        (first
          | (go_at_call 134
             refine rstep hO hK (read_r B p o S _ _ hP) ?_
             clear hO hK hP c_b1
             intro y o S w1 hP hk hK hO
             replace b1 := b1.keep hk
             have c_b1 := b1.cells
             clear hk)
          | (go_at_call 136
             refine rstep hO hK (set_r B p o S _ _ _ hP) ?_
             clear hO hK hP c_b1
             intro u o S w1 hP hk hK hO
             replace b1 := b1.keep hk
             have c_b1 := b1.cells
             clear hk))
      go_wp2_with fail
      replace hP := hP.drew
      replace hK := hK.drew
      replace b1 := b1.drew
      go_region_held2 (fun w' => w'.cell? ⟨w.heap.size, 1, none⟩ = some (.int .i64 base) ∧ w'.cell? ⟨w.heap.size, 2, none⟩ = some (.int .i64 loc)) (first | go_keep | exact ⟨c_b1 1, c_b1 2⟩)
        (first
          | (go_at_call 134
             refine rstep hO hK (read_r B p o S _ _ hP) ?_
             clear hO hK hP c_b1
             intro y o S w1 hP hk hK hO
             replace b1 := b1.keep hk
             have c_b1 := b1.cells
             clear hk)
          | (go_at_call 133
             refine (get_r B p o S (loc + 2) _ hP).mono ?_
             rintro e w' ⟨rfl, rfl⟩
             replace hO := hO.get
             generalize S.got (loc + 2) = g at hO ⊢))
      by_cases hy : y = g
      · rw [if_pos hy] at hO
        subst hy
        go_wp2_with fail
        refine (get_r B p o S (loc + 3) _ hP).mono ?_
        rintro e w' ⟨rfl, rfl⟩
        replace hO := hO.get1
        generalize S.got (loc + 3) = z at hO ⊢
        go_wp2_with fail
        exact hO.ret hP hK
      · rw [if_neg hy] at hO
        have hy2 : (y == g) = false := by rw [beq_eq_false_iff_ne]; exact hy
        have hy3 : (y != g) = true := by rw [bne_iff_ne]; exact hy
        go_wp2_with fail
        replace hP := hP.drew
        replace hK := hK.drew
        replace b1 := b1.drew
        go_region_held2 (fun w' => w'.cell? ⟨w.heap.size, 1, none⟩ = some (.int .i64 base) ∧ w'.cell? ⟨w.heap.size, 2, none⟩ = some (.int .i64 loc)) (first | go_keep | exact ⟨c_b1 1, c_b1 2⟩)
          (first
            | (go_at_call 134
               refine rstep hO hK (read_r B p o S _ _ hP) ?_
               clear hO hK hP c_b1
               intro y o S w1 hP hk hK hO
               replace b1 := b1.keep hk
               have c_b1 := b1.cells
               clear hk)
            | (go_at_call 136
               refine rstep hO hK (set_r B p o S _ _ _ hP) ?_
               clear hO hK hP c_b1
               intro u o S w1 hP hk hK hO
               replace b1 := b1.keep hk
               have c_b1 := b1.cells
               clear hk))
        go_wp2_with fail
        exact hO.ret hP hK
end Go.Proofs.YtbaajjkopdjbgaaGreat
/-
  Registers of the document: a number out of four slots.
-/
namespace Go.Proofs.YtbaajjkopdjbgaaGreat
open Go.RowKit Kv
theorem rbit_r (r : Reg) (n : Int) (w : World) (hn : 0 ≤ n ∧ n ≤ 3) (hb1 : 0 ≤ r.base) (hb2 : r.base ≤ 60000) (hl1 : 0 ≤ r.loc) (hl2 : r.loc ≤ 60000) :
    Calls Tryz.prog 299 #[encR r, .int .i64 n] w fun e w' => e = .returned (encR ⟨0, r.base + (4 + 3 * n), r.loc + (2 + 4 * n), 0, 0, 0, 0⟩) ∧ Ext w w' := by
  obtain ⟨kind, base, loc, nn, wr, rd, top⟩ := r
  simp only at hb1 hb2 hl1 hl2
  unfold encR
  simp only [← Int.add_assoc]
  go_enter Tryz.func299, Tryz.ntmps299
  go_wp2_with fail
  refine bodyPost_ret (v := .agg #[.int .i64 0, .int .i64 (base + 4 + 3 * n), .int .i64 (loc + 2 + 4 * n), .int .i64 0, .int .i64 0, .int .i64 0, .int .i64 0]) (by simp [results, Tryz.results299, go_sem]) rfl ?_
  exact ⟨rfl, ((Ext.refl _).alloc _).alloc _⟩
theorem other_bit (y : Int) : otherM y = 1 - bitM y := by unfold otherM bitM; split <;> rfl
set_option maxHeartbeats 2000000 in
theorem slots_write_r (B p : Nat) (o : Bool) (S : TS) (r : Reg) (v : Int) (w : World) (h : RAt B w p o S) (hb1 : 0 ≤ r.base) (hb2 : r.base ≤ 59000) (hl1 : 0 ≤ r.loc) (hl2 : r.loc ≤ 59000) :
    Calls Tryz.prog 254 #[.pointer (some ⟨p, 0, none⟩), encR r, .int .i64 v] w (RPost encU B p w (slotsW r.base r.loc v) o S) := by
  generalize hR : RPost encU B p w (slotsW r.base r.loc v) o S = R
  have hO : ROwes R encU B p w (slotsW r.base r.loc v) o S := hR ▸ rowes _ _ _ _ _ _ _
  clear hR
  obtain ⟨kind, base, loc, n, wr, rd, top⟩ := r
  simp only at hb1 hb2 hl1 hl2 hO
  unfold encR
  have hK := Keep.refl [3, 4, 5] B p w
  have hP := h
  have b1 := hP.held (.cells #[.int .i64 kind, .int .i64 base, .int .i64 loc, .int .i64 n, .int .i64 wr, .int .i64 rd, .int .i64 top] 67)
  replace hK := hK.trans (Keep.alloc (.cells #[.int .i64 kind, .int .i64 base, .int .i64 loc, .int .i64 n, .int .i64 wr, .int .i64 rd, .int .i64 top] 67) hP.lt hP.le)
  replace hP := hP.alloc (.cells #[.int .i64 kind, .int .i64 base, .int .i64 loc, .int .i64 n, .int .i64 wr, .int .i64 rd, .int .i64 top] 67)
  have c_b1 := b1.cells
  clear h
  unfold slotsW at hO
  go_enter Tryz.func254, Tryz.ntmps254
  go_wp2_with fail
  refine (rbit_r ⟨kind, base, loc, n, wr, rd, top⟩ 3 _ (by omega) hb1 (by simp only; omega) hl1 (by simp only; omega)).mono ?_
  rintro e w2 ⟨rfl, hx⟩
  clear c_b1
  replace hK := hK.trans (Keep.of_ext hx hP.lt hP.le)
  replace b1 := b1.ext hx hP.lt
  have c_b1 := b1.cells
  replace hP := hP.ext hx
  clear hx
  go_wp2_with fail
  refine rstep hO hK (tromp_read_r B p o S ⟨0, base + 13, loc + 14, 0, 0, 0, 0⟩ _ hP (by simp only; omega) (by simp only; omega) (by simp only; omega) (by simp only; omega)) ?_
  clear hO hK hP c_b1
  intro y o S w1 hP hk hK hO
  replace b1 := b1.keep hk
  have c_b1 := b1.cells
  clear hk
  simp only [other_bit] at hO
  have hq := bit_01 y
  go_wp2_with fail
  refine (bit_r y _).mono ?_
  rintro e w' ⟨rfl, rfl⟩
  generalize bitM y = q' at *
  have hw := IntWalk.i64_in (1 - q') (by omega)
  go_wp2_with fail
  generalize hq2 : 1 - q' = q at *
  have hq : 0 ≤ q ∧ q ≤ 1 := by omega
  clear hq2
  refine (get_r B p o S (loc + q) _ hP).mono ?_
  rintro e w' ⟨rfl, rfl⟩
  replace hO := hO.get
  generalize S.got (loc + q) = z at hO ⊢
  go_wp2_with fail
  have hi := bit_01 z
  refine (bit_r z _).mono ?_
  rintro e w' ⟨rfl, rfl⟩
  generalize bitM z = i' at *
  have hw2 := IntWalk.i64_in (1 - i') (by omega)
  go_wp2_with fail
  generalize hi2 : 1 - i' = i at *
  have hi : 0 ≤ i ∧ i ≤ 1 := by omega
  clear hi2
  rw [show base + (2 * q + i) = base + 2 * q + i from by omega] at hO
  go_wp2_with fail
  refine rstep hO hK (write_r B p o S _ _ _ hP) ?_
  clear hO hK hP c_b1
  intro u o S w1 hP hk hK hO
  replace b1 := b1.keep hk
  have c_b1 := b1.cells
  clear hk
  go_wp2_with fail
  refine rstep hO hK (set_r B p o S _ _ _ hP) ?_
  clear hO hK hP c_b1
  intro u o S w1 hP hk hK hO
  replace b1 := b1.keep hk
  have c_b1 := b1.cells
  clear hk
  go_wp2_with fail
  refine (rbit_r ⟨kind, base, loc, n, wr, rd, top⟩ q _ (by omega) hb1 (by simp only; omega) hl1 (by simp only; omega)).mono ?_
  rintro e w2 ⟨rfl, hx⟩
  clear c_b1
  replace hK := hK.trans (Keep.of_ext hx hP.lt hP.le)
  replace b1 := b1.ext hx hP.lt
  have c_b1 := b1.cells
  replace hP := hP.ext hx
  clear hx
  go_wp2_with fail
  refine rstep hO hK (tromp_write_r B p o S ⟨0, base + (4 + 3 * q), loc + (2 + 4 * q), 0, 0, 0, 0⟩ i _ hP (by simp only; omega) (by simp only; omega) (by simp only; omega) (by simp only; omega)) ?_
  clear hO hK hP c_b1
  intro u o S w1 hP hk hK hO
  replace b1 := b1.keep hk
  have c_b1 := b1.cells
  clear hk
  go_wp2_with fail
  refine (rbit_r ⟨kind, base, loc, n, wr, rd, top⟩ 2 _ (by omega) hb1 (by simp only; omega) hl1 (by simp only; omega)).mono ?_
  rintro e w2 ⟨rfl, hx⟩
  clear c_b1
  replace hK := hK.trans (Keep.of_ext hx hP.lt hP.le)
  replace b1 := b1.ext hx hP.lt
  have c_b1 := b1.cells
  replace hP := hP.ext hx
  clear hx
  go_wp2_with fail
  refine rlast hO hK (tromp_write_r B p o S ⟨0, base + 10, loc + 10, 0, 0, 0, 0⟩ q _ hP (by simp only; omega) (by simp only; omega) (by simp only; omega) (by simp only; omega)) ?_
  clear hO hK hP c_b1
  intro u o S w1 hP hk hK hO
  replace b1 := b1.keep hk
  have c_b1 := b1.cells
  clear hk
  go_wp2_with fail
  first | go_end0 | refine bodyPost_ret (results_none rfl _ _ _) rfl ?_
  exact hO.ret hP hK
set_option maxHeartbeats 2000000 in
theorem slots_read_r (B p : Nat) (o : Bool) (S : TS) (r : Reg) (w : World) (h : RAt B w p o S) (hb1 : 0 ≤ r.base) (hb2 : r.base ≤ 59000) (hl1 : 0 ≤ r.loc) (hl2 : r.loc ≤ 59000) :
    Calls Tryz.prog 260 #[.pointer (some ⟨p, 0, none⟩), encR r] w (RPost encI B p w (slotsR r.base r.loc) o S) := by
  generalize hR : RPost encI B p w (slotsR r.base r.loc) o S = R
  have hO : ROwes R encI B p w (slotsR r.base r.loc) o S := hR ▸ rowes _ _ _ _ _ _ _
  clear hR
  obtain ⟨kind, base, loc, n, wr, rd, top⟩ := r
  simp only at hb1 hb2 hl1 hl2 hO
  unfold encR
  have hK := Keep.refl [3, 4, 5] B p w
  have hP := h
  have b1 := hP.held (.cells #[.int .i64 kind, .int .i64 base, .int .i64 loc, .int .i64 n, .int .i64 wr, .int .i64 rd, .int .i64 top] 67)
  replace hK := hK.trans (Keep.alloc (.cells #[.int .i64 kind, .int .i64 base, .int .i64 loc, .int .i64 n, .int .i64 wr, .int .i64 rd, .int .i64 top] 67) hP.lt hP.le)
  replace hP := hP.alloc (.cells #[.int .i64 kind, .int .i64 base, .int .i64 loc, .int .i64 n, .int .i64 wr, .int .i64 rd, .int .i64 top] 67)
  have c_b1 := b1.cells
  clear h
  unfold slotsR at hO
  go_enter Tryz.func260, Tryz.ntmps260
  go_wp2_with fail
  refine (rbit_r ⟨kind, base, loc, n, wr, rd, top⟩ 2 _ (by omega) hb1 (by simp only; omega) hl1 (by simp only; omega)).mono ?_
  rintro e w2 ⟨rfl, hx⟩
  clear c_b1
  replace hK := hK.trans (Keep.of_ext hx hP.lt hP.le)
  replace b1 := b1.ext hx hP.lt
  have c_b1 := b1.cells
  replace hP := hP.ext hx
  clear hx
  go_wp2_with fail
  refine rstep hO hK (tromp_read_r B p o S ⟨0, base + 10, loc + 10, 0, 0, 0, 0⟩ _ hP (by simp only; omega) (by simp only; omega) (by simp only; omega) (by simp only; omega)) ?_
  clear hO hK hP c_b1
  intro y o S w1 hP hk hK hO
  replace b1 := b1.keep hk
  have c_b1 := b1.cells
  clear hk
  have hq := bit_01 y
  go_wp2_with fail
  refine (bit_r y _).mono ?_
  rintro e w' ⟨rfl, rfl⟩
  generalize bitM y = q at *
  go_wp2_with fail
  refine (rbit_r ⟨kind, base, loc, n, wr, rd, top⟩ 3 _ (by omega) hb1 (by simp only; omega) hl1 (by simp only; omega)).mono ?_
  rintro e w2 ⟨rfl, hx⟩
  clear c_b1
  replace hK := hK.trans (Keep.of_ext hx hP.lt hP.le)
  replace b1 := b1.ext hx hP.lt
  have c_b1 := b1.cells
  replace hP := hP.ext hx
  clear hx
  go_wp2_with fail
  refine rstep hO hK (tromp_write_r B p o S ⟨0, base + 13, loc + 14, 0, 0, 0, 0⟩ q _ hP (by simp only; omega) (by simp only; omega) (by simp only; omega) (by simp only; omega)) ?_
  clear hO hK hP c_b1
  intro u o S w1 hP hk hK hO
  replace b1 := b1.keep hk
  have c_b1 := b1.cells
  clear hk
  go_wp2_with fail
  refine (rbit_r ⟨kind, base, loc, n, wr, rd, top⟩ q _ (by omega) hb1 (by simp only; omega) hl1 (by simp only; omega)).mono ?_
  rintro e w2 ⟨rfl, hx⟩
  clear c_b1
  replace hK := hK.trans (Keep.of_ext hx hP.lt hP.le)
  replace b1 := b1.ext hx hP.lt
  have c_b1 := b1.cells
  replace hP := hP.ext hx
  clear hx
  go_wp2_with fail
  refine rstep hO hK (tromp_read_r B p o S ⟨0, base + (4 + 3 * q), loc + (2 + 4 * q), 0, 0, 0, 0⟩ _ hP (by simp only; omega) (by simp only; omega) (by simp only; omega) (by simp only; omega)) ?_
  clear hO hK hP c_b1
  intro z o S w1 hP hk hK hO
  replace b1 := b1.keep hk
  have c_b1 := b1.cells
  clear hk
  have hi := bit_01 z
  go_wp2_with fail
  refine (bit_r z _).mono ?_
  rintro e w' ⟨rfl, rfl⟩
  generalize bitM z = i at *
  rw [show base + (2 * q + i) = base + 2 * q + i from by omega] at hO
  have hq0 : 0 ≤ q ∧ q ≤ 1 := by omega
  have hi0 : 0 ≤ i ∧ i ≤ 1 := by omega
  go_wp2_with fail
  refine rlast hO hK (read_r B p o S _ _ hP) ?_
  clear hO hK hP c_b1
  intro x o S w1 hP hk hK hO
  replace b1 := b1.keep hk
  have c_b1 := b1.cells
  clear hk
  go_wp2_with fail
  exact hO.ret hP hK
end Go.Proofs.YtbaajjkopdjbgaaGreat
/-
  Registers of the document: who reads a table, and which numbers it is made of.
-/
namespace Kv
/-- The readers among the first so many threads. -/
def rdrs (wr : Int) : Nat → List Int
  | 0 => []
  | j + 1 => if (j : Int) = wr then rdrs wr j else rdrs wr j ++ [(j : Int)]
theorem rdrs_len (wr : Nat) : ∀ j : Nat, (rdrs wr j).length = if wr < j then j - 1 else j
  | 0 => by simp [rdrs]
  | j + 1 => by
    have h := rdrs_len wr j
    unfold rdrs
    by_cases e : j = wr
    · rw [if_pos (by omega), h, if_neg (by omega), if_pos (by omega)]; omega
    · rw [if_neg (by omega), List.length_append, h]
      simp only [List.length_singleton]
      by_cases e2 : wr < j
      · rw [if_pos e2, if_pos (by omega)]; omega
      · rw [if_neg e2, if_neg (by omega)]
theorem rdrs_at (wr : Nat) : ∀ j i : Nat, i < (rdrs wr j).length → (rdrs wr j).getD i 0 = if i < wr then (i : Int) else i + 1
  | 0, i, h => by simp [rdrs] at h
  | j + 1, i, h => by
    have hl := rdrs_len wr j
    unfold rdrs at h ⊢
    by_cases e : j = wr
    · rw [if_pos (by omega)] at h ⊢
      exact rdrs_at wr j i h
    · rw [if_neg (by omega)] at h ⊢
      rw [List.length_append, List.length_singleton] at h
      by_cases e2 : i < (rdrs wr j).length
      · rw [← rdrs_at wr j i e2]
        simp [List.getD, List.getElem?_append, e2]
      · obtain rfl : i = (rdrs wr j).length := by omega
        simp only [List.getD_eq_getElem?_getD, List.getElem?_append, Nat.lt_irrefl, if_false, Nat.sub_self]
        show (j : Int) = _
        rw [hl]
        by_cases e3 : wr < j
        · rw [if_pos e3, if_neg (by omega)]; omega
        · rw [if_neg e3, if_pos (by omega)]
end Kv
namespace Go.Proofs.YtbaajjkopdjbgaaGreat
open Go.RowKit Kv
/-- A block as it lies. -/
def Blk (w : World) (b : Nat) (o : Obj) : Prop := w.heap[b]? = some o
theorem Blk.lt {w : World} {b : Nat} {o : Obj} (h : Blk w b o) : b < w.heap.size := (Array.getElem?_eq_some_iff.1 h).1
theorem Blk.new (w : World) (o : Obj) : Blk (w.alloc o) w.heap.size o := heap_alloc_new w o
theorem Blk.ext {w w' : World} {b : Nat} {o : Obj} (h : Blk w b o) (hx : Ext w w') : Blk w' b o := (Below.block hx b (Array.getElem?_eq_some_iff.1 h).1).trans h
theorem Blk.alloc {w : World} {b : Nat} {o : Obj} (h : Blk w b o) (o' : Obj) : Blk (w.alloc o') b o := h.ext ((Ext.refl w).alloc o')
theorem Blk.drew {w : World} {b : Nat} {o : Obj} (h : Blk w b o) : Blk w.drew b o := h
theorem Blk.cells {w : World} {b : Nat} {cs : Array Value} {t : TypeId} {fz : Nat × Nat} (h : Blk w b (.cells cs t fz)) (i : Nat) : w.cell? ⟨b, i, none⟩ = cs[i]? := cell_of_heap h i
theorem rn_r (r : Reg) (w : World) (h1 : 1 ≤ r.n) (h2 : r.n ≤ 8) : Calls Tryz.prog 184 #[encR r] w fun e w' => e = .returned (.int .i64 r.n) ∧ Ext w w' := by
  obtain ⟨kind, base, loc, n, wr, rd, top⟩ := r
  simp only at h1 h2
  have hc : clamp n 8 = n := by unfold clamp within; omega
  have hx := Lib.hid ((Ext.refl w).alloc (.cells #[.int .i64 kind, .int .i64 base, .int .i64 loc, .int .i64 n, .int .i64 wr, .int .i64 rd, .int .i64 top] 67))
  unfold encR
  go_enter Tryz.func184, Tryz.ntmps184
  go_wp2_with fail
  refine (clamp_r _ _ _).mono ?_
  rintro e w' ⟨rfl, rfl⟩
  rw [hc]
  go_wp2_with fail
  go_ret
  exact ⟨rfl, hx.out⟩
theorem rwriter_r (r : Reg) (w : World) (h1 : 1 ≤ r.n) (h2 : r.n ≤ 8) (h3 : 0 ≤ r.wr) (h4 : r.wr < r.n) : Calls Tryz.prog 300 #[encR r] w fun e w' => e = .returned (.int .i64 r.wr) ∧ Ext w w' := by
  obtain ⟨kind, base, loc, n, wr, rd, top⟩ := r
  simp only at h1 h2 h3 h4
  unfold encR
  have hX := Ext.refl w
  have b1 := Blk.new w (.cells #[.int .i64 kind, .int .i64 base, .int .i64 loc, .int .i64 n, .int .i64 wr, .int .i64 rd, .int .i64 top] 67)
  replace hX := hX.alloc (.cells #[.int .i64 kind, .int .i64 base, .int .i64 loc, .int .i64 n, .int .i64 wr, .int .i64 rd, .int .i64 top] 67)
  have c_b1 := b1.cells
  go_enter Tryz.func300, Tryz.ntmps300
  go_wp2_with fail
  replace hX := hX.drew
  replace b1 := b1.drew
  go_region_held2 (fun w' => ∀ i : Nat, w'.cell? ⟨w.heap.size, i, none⟩ = (#[.int .i64 kind, .int .i64 base, .int .i64 loc, .int .i64 n, .int .i64 wr, .int .i64 rd, .int .i64 top] : Array Value)[i]?) (first | exact c_b1 | go_keep)
    (first
      | (go_at_call 184
         refine (rn_r ⟨kind, base, loc, n, wr, rd, top⟩ _ h1 h2).mono ?_
         rintro e w2 ⟨rfl, hx⟩
         clear c_b1
         replace b1 := b1.ext hx
         have c_b1 := b1.cells
         replace hX := hX.trans hx
         clear hx))
  go_wp2_with fail
  go_ret
  exact ⟨rfl, hX⟩
theorem rnumber_r (r : Reg) (k : Int) (w : World) (h1 : 0 ≤ k ∧ k ≤ 60) (hb1 : 0 ≤ r.base) (hb2 : r.base ≤ 56000) (hl1 : 0 ≤ r.loc) (hl2 : r.loc ≤ 56000) :
    Calls Tryz.prog 303 #[encR r, .int .i64 k] w fun e w' => e = .returned (encR ⟨0, r.base + 16 * k, r.loc + (2 + 18 * k), 0, 0, 0, 0⟩) ∧ Ext w w' := by
  obtain ⟨kind, base, loc, n, wr, rd, top⟩ := r
  simp only at hb1 hb2 hl1 hl2
  unfold encR
  simp only [← Int.add_assoc]
  go_enter Tryz.func303, Tryz.ntmps303
  go_wp2_with fail
  refine bodyPost_ret (v := .agg #[.int .i64 0, .int .i64 (base + 16 * k), .int .i64 (loc + 2 + 18 * k), .int .i64 0, .int .i64 0, .int .i64 0, .int .i64 0]) (by simp [results, Tryz.results303, go_sem]) rfl ?_
  exact ⟨rfl, ((Ext.refl _).alloc _).alloc _⟩
end Go.Proofs.YtbaajjkopdjbgaaGreat
/-
  What comes out of a played operation, on both sides (plain), and the document's Out.
-/
namespace Kv
theorem shortN_zero (L : List Int) : ∀ n i, shortN L n ≤ i → i < n → L.getD i 0 = 0
  | 0, i, _, h => absurd h (Nat.not_lt_zero i)
  | n + 1, i, h1, h2 => by
    unfold shortN at h1
    split at h1
    · rename_i e
      by_cases hi : i = n
      · rw [hi]; exact e
      · exact shortN_zero L n i h1 (by omega)
    · omega
theorem shortN_last (L : List Int) : ∀ n, shortN L n = 0 ∨ L.getD (shortN L n - 1) 0 ≠ 0
  | 0 => .inl rfl
  | n + 1 => by
    unfold shortN
    split
    · exact shortN_last L n
    · rename_i e; exact .inr e
theorem shortL_zero (L : List Int) (i : Nat) (h : shortN L L.length ≤ i) : L.getD i 0 = 0 := by
  by_cases hi : i < L.length
  · exact shortN_zero L _ i h hi
  · simp [List.getD, List.getElem?_eq_none (show L.length ≤ i by omega)]
theorem shortN_eq {L L' : List Int} (h : ∀ i, L.getD i 0 = L'.getD i 0) : shortN L L.length = shortN L' L'.length := by
  have a := shortN_last L L.length
  have b := shortN_last L' L'.length
  have a2 := shortL_zero L
  have b2 := shortL_zero L'
  generalize shortN L L.length = N at *
  generalize shortN L' L'.length = N' at *
  rcases Nat.lt_trichotomy N N' with e | e | e
  · rcases b with b | b
    · omega
    · exact absurd ((h _).symm.trans (a2 (N' - 1) (by omega))) b
  · exact e
  · rcases a with a | a
    · omega
    · exact absurd ((h _).trans (b2 (N - 1) (by omega))) a
/-- Lists of the same locals are the same, cut short. -/
theorem shortL_eq {L L' : List Int} (h : ∀ i, L.getD i 0 = L'.getD i 0) : shortL L = shortL L' := by
  have e := shortN_eq h
  have l1 := shortN_le L L.length
  have l2 := shortN_le L' L'.length
  unfold shortL
  apply List.ext_getElem?
  intro i
  rw [List.getElem?_take, List.getElem?_take, e]
  split
  · rename_i hi
    have hh := h i
    rw [List.getD_eq_getElem?_getD, List.getD_eq_getElem?_getD] at hh
    rw [List.getElem?_eq_getElem (show i < L.length by omega), List.getElem?_eq_getElem (show i < L'.length by omega)] at hh ⊢
    simpa using hh
  · rfl
/-- What the document's way comes to is what the program's comes to. -/
theorem Ref.outcome {α : Type} {p : Prog α} {S S' : TS} {a : α} {o : Bool} (h : Ref p false S a o S') : p.run S = (if o then none else some a, S') := by
  cases h with
  | done h => exact h
  | stop _ h => exact h
end Kv
namespace Go.Proofs.YtbaajjkopdjbgaaGreat
open Go.RowKit Kv
theorem out_r (B p : Nat) (o : Bool) (S : TS) (w : World) (h : RAt B w p o S) :
    Calls Tryz.prog 31 #[.pointer (some ⟨p, 0, none⟩)] w fun e w' => ∃ vC vN vs L, e = .returned (.agg #[.bool (!o), vC, vN, vs]) ∧ w'.ownsRow B 112 3 vC S.acc.length (accVals S.acc) ∧ w'.ownsRow B 114 2 vN S.nts.length (ntVals S.nts) ∧ Ints w' vs (shortL L) ∧ LocIs L S.loc ∧ L.length ≤ 32768 ∧ Ext w w' := by
  obtain ⟨n, vA, vC, vN, vL, L, h, -⟩ := h
  have hc := cell_of_heap h.heap
  have hI : Ints w vL L := IntRow.ints h.rowL
  obtain ⟨Ac, cc, hvC⟩ : ∃ A c, vC = .slice A S.acc.length c := by
    rcases h.rowC.2 with ⟨rfl, h0⟩ | ⟨g, cap, cur, rfl, _⟩
    · exact ⟨none, 0, by rw [h0]⟩
    · exact ⟨_, _, rfl⟩
  obtain ⟨An, cn, hvN⟩ : ∃ A c, vN = .slice A S.nts.length c := by
    rcases h.rowN.2 with ⟨rfl, h0⟩ | ⟨g, cap, cur, rfl, _⟩
    · exact ⟨none, 0, by rw [h0]⟩
    · exact ⟨_, _, rfl⟩
  subst hvC hvN
  obtain ⟨As, cs, rfl, hs1, hs2⟩ := hI.slice
  have hlt := h.lt
  have hh := Lib.hid h
  clear h
  have hX := Ext.refl w
  have b1 := Blk.new w (.cells #[.bool false, .slice none 0 0, .slice none 0 0, .slice none 0 0] 30)
  replace hX := hX.alloc (.cells #[.bool false, .slice none 0 0, .slice none 0 0, .slice none 0 0] 30)
  have c_b1 := b1.cells
  have hc1 : ∀ i, (w.alloc (.cells #[.bool false, .slice none 0 0, .slice none 0 0, .slice none 0 0] 30)).cell? ⟨p, i, none⟩ = (#[vA, .int .i64 n, .bool o, .slice Ac S.acc.length cc, .slice An S.nts.length cn, .slice As L.length cs] : Array Value)[i]? := fun i => (hX.cell (p := ⟨p, i, none⟩) hlt).trans (hc i)
  have f_b1 := frozen_of_heap b1
  have hc2 : Hid (∀ (O' : Obj) (i : Nat), (w.alloc O').drew.cell? ⟨p, i, none⟩ = (#[vA, .int .i64 n, .bool o, .slice Ac S.acc.length cc, .slice An S.nts.length cn, .slice As L.length cs] : Array Value)[i]?) := Lib.hid fun O' i => (((Ext.refl w).alloc O').drew.cell (p := ⟨p, i, none⟩) hlt).trans (hc i)
  clear hc
  go_enter Tryz.func31, Tryz.ntmps31
  go_wp2_with fail
  replace hX := hX.drew
  replace b1 := b1.drew
  have hIh : Hid (∀ w', Ext w w' → Ints w' (.slice As L.length cs) L) := Lib.hid (fun w' hx => hI.ext hx)
  clear hI
  go_region_held2 (fun w' => ∀ i, w'.cell? ⟨p, i, none⟩ = (#[vA, .int .i64 n, .bool o, .slice Ac S.acc.length cc, .slice An S.nts.length cn, .slice As L.length cs] : Array Value)[i]?) (first | with_reducible exact hc1 | with_reducible exact hc2.out _ | go_keep)
    (first
      | (go_at_call 62
         refine (short_at As cs L _ (hIh.out _ hX) hs1 hs2).mono ?_
         rintro e w' ⟨rfl, rfl⟩))
  go_wp2_with fail
  have hX' : ∀ O', Ext w (w.alloc O').drew := fun O' => ((Ext.refl w).alloc O').drew
  refine bodyPost_ret (v := .agg #[.bool (!o), .slice Ac S.acc.length cc, .slice An S.nts.length cn, .slice As (shortN L L.length) cs]) (by simp [results, Tryz.results31, go_sem]) rfl ?_
  exact ⟨_, _, _, L, rfl, row_ext hh.out.rowC (hX' _), row_ext hh.out.rowN (hX' _), shortL_ints (hIh.out _ (hX' _)), hh.out.loc, hh.out.locN, hX' _⟩
end Go.Proofs.YtbaajjkopdjbgaaGreat
/-
  What comes out of a played operation, as a value that can be read: its accesses, notes and locals.
-/
namespace Go.Proofs.YtbaajjkopdjbgaaGreat
open Go.RowKit Kv
/-- A row of values from the head of a block on. -/
def Vals (w : World) (A : Option Addr) (vals : List Value) : Prop := vals ≠ [] → ∃ b, A = some ⟨b, 0, none⟩ ∧ b < w.heap.size ∧ ∀ i u, vals[i]? = some u → w.cell? ⟨b, i, none⟩ = some u
theorem Vals.ext {w w' : World} {A : Option Addr} {vals : List Value} (h : Vals w A vals) (hx : Ext w w') : Vals w' A vals := by
  intro hne
  obtain ⟨b, rfl, hb, hc⟩ := h hne
  exact ⟨b, rfl, Nat.lt_of_lt_of_le hb hx.size, fun i u hu => (hx.cell (p := ⟨b, i, none⟩) hb).trans (hc i u hu)⟩
/-- A row that is owned can be read. -/
theorem vals_row {w : World} {B e size n : Nat} {v : Value} {xs : List Value} (h : w.ownsRow B e size v n xs) : ∃ A c, v = .slice A n c ∧ n ≤ c ∧ c ≤ 9223372036854775807 ∧ Vals w A xs := by
  have h' := h
  obtain ⟨hl, h2⟩ := h
  rcases h2 with ⟨rfl, h0⟩ | ⟨g, cap, cur, rfl, hg, hh, hn, hm, hs, ht⟩
  · subst h0
    refine ⟨none, 0, rfl, Nat.le_refl _, by omega, fun hne => absurd ?_ hne⟩
    simpa using hl
  · refine ⟨_, _, rfl, hn, by unfold maxLen at hm; exact hm, fun _ => ⟨g, rfl, (Array.getElem?_eq_some_iff.1 hh).1, fun i u hi => ?_⟩⟩
    have hc := World.ownsRow.cells h' (g := g) rfl i u hi
    rw [Addr.add_lit, Nat.zero_add] at hc
    exact hc
theorem accVals_len (l : List Acc) : (accVals l).length = 3 * l.length := by
  induction l with
  | nil => rfl
  | cons a l ih => rw [show accVals (a :: l) = [.int .i64 a.kind, .int .i64 a.cell, .int .i64 a.val] ++ accVals l from rfl, List.length_append, ih]; simp; omega
theorem ntVals_len (l : List Nt) : (ntVals l).length = 2 * l.length := by
  induction l with
  | nil => rfl
  | cons a l ih => rw [show ntVals (a :: l) = [.int .i64 a.kind, .int .i64 a.pos] ++ ntVals l from rfl, List.length_append, ih]; simp; omega
theorem accVals_at : ∀ (l : List Acc) (i : Nat) (a : Acc), l[i]? = some a → (accVals l)[3 * i]? = some (.int .i64 a.kind) ∧ (accVals l)[3 * i + 1]? = some (.int .i64 a.cell) ∧ (accVals l)[3 * i + 2]? = some (.int .i64 a.val)
  | [], i, a, h => by simp at h
  | x :: l, 0, a, h => by
    obtain rfl : x = a := by simpa using h
    exact ⟨rfl, rfl, rfl⟩
  | x :: l, i + 1, a, h => by
    have := accVals_at l i a (by simpa using h)
    rw [show accVals (x :: l) = [.int .i64 x.kind, .int .i64 x.cell, .int .i64 x.val] ++ accVals l from rfl]
    refine ⟨?_, ?_, ?_⟩
    · rw [List.getElem?_append_right (by simp; omega)]; simpa [show 3 * (i + 1) - 3 = 3 * i by omega] using this.1
    · rw [List.getElem?_append_right (by simp; omega)]; simpa [show 3 * (i + 1) + 1 - 3 = 3 * i + 1 by omega] using this.2.1
    · rw [List.getElem?_append_right (by simp; omega)]; simpa [show 3 * (i + 1) + 2 - 3 = 3 * i + 2 by omega] using this.2.2
theorem ntVals_at : ∀ (l : List Nt) (i : Nat) (a : Nt), l[i]? = some a → (ntVals l)[2 * i]? = some (.int .i64 a.kind) ∧ (ntVals l)[2 * i + 1]? = some (.int .i64 a.pos)
  | [], i, a, h => by simp at h
  | x :: l, 0, a, h => by
    obtain rfl : x = a := by simpa using h
    exact ⟨rfl, rfl⟩
  | x :: l, i + 1, a, h => by
    have := ntVals_at l i a (by simpa using h)
    rw [show ntVals (x :: l) = [.int .i64 x.kind, .int .i64 x.pos] ++ ntVals l from rfl]
    refine ⟨?_, ?_⟩
    · rw [List.getElem?_append_right (by simp; omega)]; simpa [show 2 * (i + 1) - 2 = 2 * i by omega] using this.1
    · rw [List.getElem?_append_right (by simp; omega)]; simpa [show 2 * (i + 1) + 1 - 2 = 2 * i + 1 by omega] using this.2
/-- Accesses that can be read at an address. -/
def AccAt (w : World) (A : Option Addr) (l : List Acc) : Prop := Vals w A (accVals l)
def NtAt (w : World) (A : Option Addr) (l : List Nt) : Prop := Vals w A (ntVals l)
theorem AccAt.at_ {w : World} {A : Option Addr} {l : List Acc} (h : AccAt w A l) {i : Nat} {a : Acc} (hi : l[i]? = some a) :
    ∃ b, A = some ⟨b, 0, none⟩ ∧ b < w.heap.size ∧ w.cell? ⟨b, i * 3, none⟩ = some (.int .i64 a.kind) ∧ w.cell? ⟨b, i * 3 + 1, none⟩ = some (.int .i64 a.cell) ∧ w.cell? ⟨b, i * 3 + 2, none⟩ = some (.int .i64 a.val) := by
  obtain ⟨h0, h1, h2⟩ := accVals_at l i a hi
  obtain ⟨b, rfl, hb, hc⟩ := h (fun e => by rw [e] at h0; simp at h0)
  rw [Nat.mul_comm i 3]
  exact ⟨b, rfl, hb, hc _ _ h0, hc _ _ h1, hc _ _ h2⟩
theorem NtAt.at_ {w : World} {A : Option Addr} {l : List Nt} (h : NtAt w A l) {i : Nat} {a : Nt} (hi : l[i]? = some a) :
    ∃ b, A = some ⟨b, 0, none⟩ ∧ b < w.heap.size ∧ w.cell? ⟨b, i * 2, none⟩ = some (.int .i64 a.kind) ∧ w.cell? ⟨b, i * 2 + 1, none⟩ = some (.int .i64 a.pos) := by
  obtain ⟨h0, h1⟩ := ntVals_at l i a hi
  obtain ⟨b, rfl, hb, hc⟩ := h (fun e => by rw [e] at h0; simp at h0)
  rw [Nat.mul_comm i 2]
  exact ⟨b, rfl, hb, hc _ _ h0, hc _ _ h1⟩
/-- An Out: done or not, so many accesses, notes and locals. -/
structure OutIs (w : World) (d : Bool) (S : TS) (A : Option Addr) (c : Nat) (A' : Option Addr) (c' : Nat) (vs : Value) (L : List Int) : Prop where
  accs : AccAt w A S.acc
  nts : NtAt w A' S.nts
  locs : Ints w vs (shortL L)
  is : LocIs L S.loc
  len : L.length ≤ 32768
  accc : S.acc.length ≤ c ∧ c ≤ 9223372036854775807
  ntsc : S.nts.length ≤ c' ∧ c' ≤ 9223372036854775807
def outV (d : Bool) (S : TS) (A : Option Addr) (c : Nat) (A' : Option Addr) (c' : Nat) (vs : Value) : Value := .agg #[.bool d, .slice A S.acc.length c, .slice A' S.nts.length c', vs]
theorem OutIs.ext {w w' : World} {d : Bool} {S : TS} {A : Option Addr} {c : Nat} {A' : Option Addr} {c' : Nat} {vs : Value} {L : List Int} (h : OutIs w d S A c A' c' vs L) (hx : Ext w w') : OutIs w' d S A c A' c' vs L :=
  { h with accs := Vals.ext h.accs hx, nts := Vals.ext h.nts hx, locs := h.locs.ext hx }
/-- The value v is the Out of d and S. -/
def Outs (w : World) (v : Value) (d : Bool) (S : TS) : Prop := ∃ A c A' c' vs L, v = outV d S A c A' c' vs ∧ OutIs w d S A c A' c' vs L
theorem Outs.ext {w w' : World} {v : Value} {d : Bool} {S : TS} (h : Outs w v d S) (hx : Ext w w') : Outs w' v d S := by
  obtain ⟨A, c, A', c', vs, L, rfl, h⟩ := h
  exact ⟨A, c, A', c', vs, L, rfl, h.ext hx⟩
theorem outs_of {w : World} {B : Nat} {d : Bool} {S : TS} {vC vN vs : Value} {L : List Int} (h1 : w.ownsRow B 112 3 vC S.acc.length (accVals S.acc)) (h2 : w.ownsRow B 114 2 vN S.nts.length (ntVals S.nts)) (h3 : Ints w vs (shortL L)) (h4 : LocIs L S.loc) (h5 : L.length ≤ 32768) :
    Outs w (.agg #[.bool d, vC, vN, vs]) d S := by
  obtain ⟨A, c, rfl, q1, q2, q3⟩ := vals_row h1
  obtain ⟨A', c', rfl, r1, r2, r3⟩ := vals_row h2
  exact ⟨A, c, A', c', vs, L, rfl, q3, r3, h3, h4, h5, ⟨q1, q2⟩, ⟨r1, r2⟩⟩
theorem dout_r (B p : Nat) (o : Bool) (S : TS) (w : World) (h : RAt B w p o S) :
    Calls Tryz.prog 31 #[.pointer (some ⟨p, 0, none⟩)] w fun e w' => ∃ v, e = .returned v ∧ Outs w' v (!o) S ∧ Ext w w' :=
  (out_r B p o S w h).mono fun _ _ ⟨_, _, _, _, he, h1, h2, h3, h4, h5, hx⟩ => ⟨_, he, outs_of h1 h2 h3 h4 h5, hx⟩
end Go.Proofs.YtbaajjkopdjbgaaGreat
/-
  Worlds in which only one block of those that were there has turned: what a drawn region holds that calls and stores.
-/
namespace Go.Proofs.YtbaajjkopdjbgaaGreat
open Go.RowKit Kv
/-- From W on only block b has turned, which still has n cells. -/
structure Near (W : World) (b n : Nat) (t : TypeId) (w : World) : Prop where
  os : w.os = W.os
  tape : w.tape = W.tape
  output : w.output = W.output
  size : W.heap.size ≤ w.heap.size
  rest : ∀ k, k < W.heap.size → k ≠ b → w.heap[k]? = W.heap[k]?
  blk : ∃ cs, w.heap[b]? = some (.cells cs t (0, 0)) ∧ cs.size = n
section
variable {W w w' : World} {b n : Nat} {t : TypeId}
theorem Near.new {cs : Array Value} (h : W.heap[b]? = some (.cells cs t (0, 0))) (hn : cs.size = n) : Near W b n t W := ⟨rfl, rfl, rfl, Nat.le_refl _, fun _ _ _ => rfl, cs, h, hn⟩
theorem Near.ext (h : Near W b n t w) (hx : Ext w w') : Near W b n t w' := by
  obtain ⟨cs, h1, h2⟩ := h.blk
  exact ⟨hx.os.trans h.os, hx.tape.trans h.tape, hx.output.trans h.output, Nat.le_trans h.size hx.size, fun k hk hb => (Below.block hx k (Nat.lt_of_lt_of_le hk h.size)).trans (h.rest k hk hb), cs, (Below.block hx b (Array.getElem?_eq_some_iff.1 h1).1).trans h1, h2⟩
theorem Near.drew (h : Near W b n t w) : Near W b n t w.drew := h.ext (Ext.refl w).drew
theorem Near.set (h : Near W b n t w) (i : Nat) (u : Value) : Near W b n t (w.setCell ⟨b, i, none⟩ u) := by
  obtain ⟨cs, h1, h2⟩ := h.blk
  refine ⟨h.os, h.tape, h.output, by have := h.size; simpa using this, fun k hk hb => (heap_setCell_ne _ _ hb).trans (h.rest k hk hb), _, heap_setCell h1 u, by simpa using h2⟩
theorem Near.cell (h : Near W b n t w) {k i : Nat} (hk : k < W.heap.size) (hb : k ≠ b) : w.cell? ⟨k, i, none⟩ = W.cell? ⟨k, i, none⟩ := World.cell?_of_block (w := W) (a := ⟨k, i, none⟩) (h.rest k hk hb)
theorem Near.frozen (h : Near W b n t w) (i : Nat) : w.frozen? ⟨b, i, none⟩ = false := by
  obtain ⟨cs, h1, h2⟩ := h.blk
  exact frozen_of_heap h1 i
/-- Behind it nothing below B has turned, if the block is not below B. -/
theorem Near.below {B : Nat} {w0 : World} (h : Near W b n t w) (h0 : Below B w0 W) (hb : B ≤ b) (hB : B ≤ W.heap.size) : Below B w0 w :=
  h0.trans ⟨h.os, h.tape, h.output, h.size, fun k hk => h.rest k (by omega) (by omega)⟩
/-- What stands in a cell. -/
def cellD (w : World) (b i : Nat) : Value := (w.cell? ⟨b, i, none⟩).getD undef
theorem Near.four (h : Near W b 4 t w) : ∀ i, w.cell? ⟨b, i, none⟩ = (#[cellD w b 0, cellD w b 1, cellD w b 2, cellD w b 3] : Array Value)[i]? := by
  obtain ⟨cs, h1, h2⟩ := h.blk
  intro i
  have e := cell_of_heap h1
  unfold cellD
  rw [e, e, e, e, e]
  match i with
  | 0 => simp [h2]
  | 1 => simp [h2]
  | 2 => simp [h2]
  | 3 => simp [h2]
  | i + 4 => simp [h2]
theorem Near.five (h : Near W b 5 t w) : ∀ i, w.cell? ⟨b, i, none⟩ = (#[cellD w b 0, cellD w b 1, cellD w b 2, cellD w b 3, cellD w b 4] : Array Value)[i]? := by
  obtain ⟨cs, h1, h2⟩ := h.blk
  intro i
  have e := cell_of_heap h1
  unfold cellD
  rw [e, e, e, e, e, e]
  match i with
  | 0 => simp [h2]
  | 1 => simp [h2]
  | 2 => simp [h2]
  | 3 => simp [h2]
  | 4 => simp [h2]
  | i + 5 => simp [h2]
end
end Go.Proofs.YtbaajjkopdjbgaaGreat
/-
  The document's Mem made.
-/
namespace Go.Proofs.YtbaajjkopdjbgaaGreat
open Go.RowKit Kv
set_option maxRecDepth 100000 in
theorem new_r (a : Addr) (c : Nat) (L : List Int) (Aa : Option Addr) (n ca : Nat) (w : World) (h : Ints w (.slice (some a) L.length c) L) (hl : L.length ≤ 32768) :
    Calls Tryz.prog 27 #[.slice (some a) L.length c, .slice Aa n ca] w fun e w' => ∃ p vL, e = .returned (.pointer (some ⟨p, 0, none⟩)) ∧ w.heap.size ≤ p ∧ w'.heap[p]? = some (.cells #[.slice Aa n ca, .int .i64 0, .bool false, .slice none 0 0, .slice none 0 0, vL] 49 (0, 0)) ∧ IntRow w' w.heap.size vL L ∧ Ext w w' := by
  have hh := Lib.hid h
  go_enter Tryz.func27, Tryz.ntmps27
  go_wp2_with (at_builtin; refine append_all rfl _ _ rfl a c L hh.out rfl rfl (by omega) ?_)
  intro v' w' h1 h2
  obtain ⟨A', c', rfl, hc1, hc2⟩ := h1.ints.slice
  have h1h := Lib.hid h1
  clear h1 h
  go_wp2_with fail
  go_ret
  exact ⟨w'.heap.size, _, rfl, h2.size, heap_alloc_new _ _, row_ext h1h.out ((Ext.refl _).alloc _), h2.alloc _⟩
/-- Locals as they begin. -/
def locOf (L : List Int) (i : Nat) : Int := L.getD i 0
/-- The state in which an operation begins. -/
def TS0 (L ans : List Int) : TS := ⟨ans, [], [], locOf L⟩
theorem new_at (a : Addr) (c : Nat) (L : List Int) (Aa : Option Addr) (ca : Nat) (ans : List Int) (w : World) (h : Ints w (.slice (some a) L.length c) L) (ha : Ints w (.slice Aa ans.length ca) ans) (hl : L.length ≤ 32768) (hn : ans.length ≤ maxAns)
    (hb : ∀ b, (Value.slice Aa ans.length ca).ownBlock = some b → b < w.heap.size) :
    Calls Tryz.prog 27 #[.slice (some a) L.length c, .slice Aa ans.length ca] w fun e w' => ∃ p, e = .returned (.pointer (some ⟨p, 0, none⟩)) ∧ RAt w.heap.size w' p false (TS0 L ans) ∧ Ext w w' := by
  refine (new_r a c L Aa ans.length ca w h hl).mono ?_
  rintro e w' ⟨p, vL, rfl, hp, hh, hr, hx⟩
  refine ⟨p, rfl, ⟨0, _, _, _, _, L, { ge := hp, heap := hh, ans := ha.ext hx, ansB := hb, rowL := hr, rowC := World.ownsRow_nil _ _ _ _, rowN := World.ownsRow_nil _ _ _ _, loc := fun _ => rfl, locN := hl, accN := Nat.zero_le _, ansN := hn, ntsN := Nat.zero_le _ }, by simp [TS0], by simp [TS0]⟩, hx⟩
set_option maxRecDepth 100000 in
theorem new_nil (c : Nat) (Aa : Option Addr) (n ca : Nat) (w : World) :
    Calls Tryz.prog 27 #[.slice none 0 c, .slice Aa n ca] w fun e w' => ∃ p vL, e = .returned (.pointer (some ⟨p, 0, none⟩)) ∧ w.heap.size ≤ p ∧ w'.heap[p]? = some (.cells #[.slice Aa n ca, .int .i64 0, .bool false, .slice none 0 0, .slice none 0 0, vL] 49 (0, 0)) ∧ IntRow w' w.heap.size vL [] ∧ Ext w w' := by
  go_enter Tryz.func27, Tryz.ntmps27
  go_wp2_with fail
  go_ret
  have hown : (w.alloc (.cells #[] 3)).ownsRow w.heap.size 3 1 (.slice (some ⟨w.heap.size, 0, none⟩) 0 0) 0 [] :=
    ⟨rfl, .inr ⟨w.heap.size, 0, #[], rfl, Nat.le_refl _, heap_alloc_new _ _, Nat.le_refl _, Nat.zero_le _, rfl, rfl⟩⟩
  refine ⟨w.heap.size + 1, _, rfl, Nat.le_succ _, ?_, row_ext hown ((Ext.refl _).alloc _), ((Ext.refl _).alloc _).alloc _⟩
  have hz : (w.alloc (.cells #[] 3)).heap.size = w.heap.size + 1 := by simp
  rw [← hz]
  exact heap_alloc_new _ _
theorem new_any (A : Option Addr) (c : Nat) (L : List Int) (Aa : Option Addr) (ca : Nat) (ans : List Int) (w : World) (h : Ints w (.slice A L.length c) L) (ha : Ints w (.slice Aa ans.length ca) ans) (hl : L.length ≤ 32768) (hn : ans.length ≤ maxAns)
    (hb : ∀ b, (Value.slice Aa ans.length ca).ownBlock = some b → b < w.heap.size) :
    Calls Tryz.prog 27 #[.slice A L.length c, .slice Aa ans.length ca] w fun e w' => ∃ p, e = .returned (.pointer (some ⟨p, 0, none⟩)) ∧ RAt w.heap.size w' p false (TS0 L ans) ∧ Ext w w' := by
  cases A with
  | some a => exact new_at a c L Aa ca ans w h ha hl hn hb
  | none =>
    have hL : L = [] := by
      obtain ⟨A', c', he, _, _, h3⟩ := h
      by_cases e : L = []
      · exact e
      · obtain ⟨b, off, rfl, _⟩ := h3 e
        cases he
    subst hL
    refine (new_nil c Aa ans.length ca w).mono ?_
    rintro e w' ⟨p, vL, rfl, hp, hh, hr, hx⟩
    exact ⟨p, rfl, ⟨0, _, _, _, _, [], { ge := hp, heap := hh, ans := ha.ext hx, ansB := hb, rowL := hr, rowC := World.ownsRow_nil _ _ _ _, rowN := World.ownsRow_nil _ _ _ _, loc := fun _ => rfl, locN := hl, accN := Nat.zero_le _, ansN := hn, ntsN := Nat.zero_le _ }, by simp [TS0], by simp [TS0]⟩, hx⟩
end Go.Proofs.YtbaajjkopdjbgaaGreat
/-
  An operation played: its deferred end, whether it came to its end or stopped; what comes of the play.
-/
namespace Go.Proofs.YtbaajjkopdjbgaaGreat
open Go.RowKit Kv
@[go_sem] theorem build_out (x : Bool) (A1 A2 A3 : Option Addr) (n1 n2 n3 c1 c2 c3 : Nat) (w : World) : (Instr.build 30 #[(0, .bool x), (1, .slice A1 n1 c1), (2, .slice A2 n2 c2), (3, .slice A3 n3 c3)]).run Tryz.prog w = .ok (.agg #[.bool x, .slice A1 n1 c1, .slice A2 n2 c2, .slice A3 n3 c3]) w := run_build w 30 _ _ (by kernel_rfl)
@[go_sem] theorem as_stop (v : Value) (w : World) : (Instr.typeAssert (.iface 92 v) 20 92 true).run Tryz.prog w = .ok (.tuple #[v, .bool true]) w := by kernel_rfl
@[go_sem] theorem ne_mem (a : Addr) (w : World) : (binOp .neq 33 (.pointer (some a)) (.pointer (some a))).run Tryz.prog w = .ok (.bool false) w := by
  have hs : (Tryz.prog.info? 90).isSome = true := by kernel_rfl
  obtain ⟨j, hj⟩ := Option.isSome_iff_exists.1 hs
  have h : ∀ d : Nat, (Op.equalIn (d + 1) 33 (.pointer (some a)) (.pointer (some a))).run Tryz.prog w = .ok true w := fun d => by
    simp [Op.equalIn, run_underlying Tryz.underlying33, sizeOf, typeInfo, hj, run_sameAddr_same]
  simp only [binOp]
  simp [Op.equal, Op.maxDepth, h 9999]
section
variable {B p b bo : Nat} {w w' W : World} {S : TS} {st : Int} {vA vL vC vN vs : Value} {L : List Int}
/-- A store into a block beside what the Mem owns. -/
theorem PMem.setO (h : PMem B w p S st vA vL vC vN L) (hn : ¬ ownR [2, 3, 4] w p b) (hb : B ≤ b) (i : Nat) (u : Value) : PMem B (w.setCell ⟨b, i, none⟩ u) p S st vA vL vC vN L := by
  have hp : p ≠ b := fun e => hn (.inl e.symm)
  refine { h with heap := (heap_setCell_ne _ _ hp).trans h.heap, ans := ints_set h.ans _ _ ?_, rowL := row_set h.rowL ?_, rowC := row_set h.rowC ?_, rowN := row_set h.rowN ?_ }
  · intro k hk e
    have := h.ansB k hk
    simp only at e
    omega
  · exact fun e => hn (ownR_at (i := 2) h.heap (by simp) rfl e)
  · exact fun e => hn (ownR_at (i := 3) h.heap (by simp) rfl e)
  · exact fun e => hn (ownR_at (i := 4) h.heap (by simp) rfl e)
theorem Held.setO {ix : List Nat} {k : Nat} {o : Obj} (h : Held ix w p k o) (hk : k ≠ b) (hn : ¬ ownR ix w p b) (i : Nat) (u : Value) : Held ix (w.setCell ⟨b, i, none⟩ u) p k o :=
  ⟨(heap_setCell_ne _ _ hk).trans h.1, fun h' => h.2 ((ownR_same (heap_setCell_ne _ _ (fun e => hn (.inl e.symm))) k).1 h')⟩
/-- The Out laid behind all. -/
theorem end_out {d x0 : Bool} {x1 x2 x3 : Value} (HM : PMem B W p S st vA vL vC vN L) (ho : W.heap[bo]? = some (.cells #[.bool x0, x1, x2, x3] 30 (0, 0))) (h2 : Ext W w') (h1 : IntRow w' W.heap.size vs (shortL L)) :
    ((((w'.setCell ⟨bo, 0, none⟩ (.bool d)).setCell ⟨bo, 1, none⟩ vC).setCell ⟨bo, 2, none⟩ vN).setCell ⟨bo, 3, none⟩ vs).heap[bo]? = some (.cells #[.bool d, vC, vN, vs] 30 (0, 0)) ∧
      Outs ((((w'.setCell ⟨bo, 0, none⟩ (.bool d)).setCell ⟨bo, 1, none⟩ vC).setCell ⟨bo, 2, none⟩ vN).setCell ⟨bo, 3, none⟩ vs) (.agg #[.bool d, vC, vN, vs]) d S := by
  have hlt := (Array.getElem?_eq_some_iff.1 ho).1
  have e0 := (Below.block h2 bo hlt).trans ho
  have rC := row_ext HM.rowC h2
  have rN := row_ext HM.rowN h2
  have nC := row_not rC e0 (by decide)
  have nN := row_not rN e0 (by decide)
  have hv : ∀ k, vs.ownBlock = some k → k ≠ bo := fun k hk => by have := (h1.lt k hk).1; omega
  have e4 := heap_setCell (i := 3) (heap_setCell (i := 2) (heap_setCell (i := 1) (heap_setCell (i := 0) e0 (.bool d)) vC) vN) vs
  refine ⟨e4, outs_of (L := L) (row_set (row_set (row_set (row_set rC nC) nC) nC) nC) (row_set (row_set (row_set (row_set rN nN) nN) nN) nN) (ints_set (ints_set (ints_set (ints_set h1.ints _ _ hv) _ _ hv) _ _ hv) _ _ hv) HM.loc HM.locN⟩
end

/-- What the deferred end leaves. -/
def EndAt (B : Nat) (w w' : World) (bg bo : Nat) (v : Value) (d : Bool) (S : TS) : Prop :=
  w'.heap[bg]? = some (.cells #[v] 3 (0, 0)) ∧ (∃ vC vN vs, w'.heap[bo]? = some (.cells #[.bool d, vC, vN, vs] 30 (0, 0)) ∧ Outs w' (.agg #[.bool d, vC, vN, vs]) d S) ∧ Below B w w'
set_option maxRecDepth 100000 in
set_option maxHeartbeats 1000000 in
theorem end_ok (B p : Nat) (S : TS) (bm bg bo : Nat) (v : Value) (w : World) (h : Plays B w p S) (hm : HeldP w p bm (.cells #[.pointer (some ⟨p, 0, none⟩)] 33 (0, 0))) (hg : HeldP w p bg (.cells #[v] 3 (0, 0)))
    (ho : HeldP w p bo (.cells #[.bool false, .slice none 0 0, .slice none 0 0, .slice none 0 0] 30 (0, 0))) (hB2 : B ≤ bo) :
    CallsD Tryz.prog 93 #[.pointer (some ⟨bm, 0, none⟩), .pointer (some ⟨bg, 0, none⟩), .pointer (some ⟨bo, 0, none⟩)] .returning w fun e u' w' => e = .returned (.tuple #[]) ∧ u' = .returning ∧ EndAt B w w' bg bo v true S := by
  obtain ⟨h1, vA, vL, vC, vN, L, h⟩ := h
  have hc := cell_of_heap h.heap
  have hfz := frozen_of_heap h.heap
  have cm := hm.cells
  refine callsD_of_wpS Tryz.func93 rfl fun c₀ cs hu => ?_
  simp only [Tryz.ntmps93, List.size_toArray, List.length_cons, List.length_nil, Nat.reduceAdd, Nat.reduceSub, Array.replicate_succ, Array.replicate_zero, List.push_toArray, List.append_toArray, List.nil_append, List.cons_append]
  apply wpS_seq
  refine wpS_of_wp ?_
  go_wp2_with fail
  simp only [Exit.thenS]
  apply wpS_seq
  refine wpS_of_wp ?_
  go_wp2_with fail
  simp only [Exit.thenS]
  obtain ⟨HM, HK⟩ := h.state 0
  have hmh := Lib.hid (hm.keep HK)
  have hgh := Lib.hid (hg.keep HK).1
  have hoh := Lib.hid (ho.keep HK)
  have hq := cell_of_heap HM.heap
  have cm2 := hmh.out.cells
  have HMh := Lib.hid HM
  have hbel := Lib.hid HK.below
  clear HM HK hc hfz cm hm hg ho h
  generalize w.setCell ⟨p, 0, none⟩ (.int .i64 0) = W at *
  apply wpS_seq
  apply wpS_seq
  apply wpS_region
  simp [wpOpsS, go_sem, recoverD, hu, Exit.thenS]
  refine wpS_of_wp ?_
  go_wp2_with fail
  simp only [Exit.thenS]
  refine wpS_of_wp ?_
  go_wp2_with fail
  have hI : Ints W vL L := IntRow.ints HMh.out.rowL
  obtain ⟨Al, cl, rfl, q1, q2⟩ := hI.slice
  have hIh := Lib.hid hI
  obtain ⟨Ac, cc, rfl, -, -, -⟩ := vals_row HMh.out.rowC
  obtain ⟨An, cn, rfl, -, -, -⟩ := vals_row HMh.out.rowN
  have hlen := HMh.out.locN
  have hplt := HMh.out.lt
  have hmlt := hmh.out.lt
  clear hI
  have hpo : p ≠ bo := fun e => hoh.out.2 (.inl e.symm)
  have hmo : bm ≠ bo := fun e => by
    have h1 := hmh.out.1
    rw [e, hoh.out.1] at h1
    injection h1 with h1
    injection h1 with _ h2
    cases h2
  have hlo : (Value.slice Al L.length cl).ownBlock ≠ some bo := row_not HMh.out.rowL hoh.out.1 (by decide)
  have hS : ∀ w', Near W bo 4 30 w' → ((∀ i, w'.cell? ⟨p, i, none⟩ = (#[.int .i64 0, vA, .slice Al L.length cl, .slice Ac S.acc.length cc, .slice An S.nts.length cn] : Array Value)[i]?) ∧ (∀ i, w'.cell? ⟨bm, i, none⟩ = (#[.pointer (some ⟨p, 0, none⟩)] : Array Value)[i]?) ∧ (∀ i, w'.cell? ⟨bo, i, none⟩ = (#[cellD w' bo 0, cellD w' bo 1, cellD w' bo 2, cellD w' bo 3] : Array Value)[i]?) ∧ (∀ i, w'.frozen? ⟨bo, i, none⟩ = false) ∧ Near W bo 4 30 w') := fun w' hx =>
    ⟨fun i => (hx.cell hplt hpo).trans (hq i), fun i => (hx.cell hmlt hmo).trans (cm2 i), hx.four, hx.frozen, hx⟩
  have hN : Near W bo 4 30 W := Near.new hoh.out.1 rfl
  go_region_held2 (fun w' => (∀ i, w'.cell? ⟨p, i, none⟩ = (#[.int .i64 0, vA, .slice Al L.length cl, .slice Ac S.acc.length cc, .slice An S.nts.length cn] : Array Value)[i]?) ∧ (∀ i, w'.cell? ⟨bm, i, none⟩ = (#[.pointer (some ⟨p, 0, none⟩)] : Array Value)[i]?) ∧ (∀ i, w'.cell? ⟨bo, i, none⟩ = (#[cellD w' bo 0, cellD w' bo 1, cellD w' bo 2, cellD w' bo 3] : Array Value)[i]?) ∧ (∀ i, w'.frozen? ⟨bo, i, none⟩ = false) ∧ Near W bo 4 30 w') (first | exact hS _ hN.drew | (refine hS _ ?_; (repeat refine Near.set ?_ _ _); exact hN.drew.ext h2))
    (first
      | (go_at_call 87
         refine (tshort_p Al cl L _ (hIh.out.ext (Ext.refl W).drew) q1 q2 (by omega)).mono ?_
         rintro e w' ⟨v', rfl, h1, h2⟩
         obtain ⟨As, cs, rfl, hs1, hs2⟩ := h1.ints.slice))
  obtain ⟨f1, f2⟩ := end_out (d := true) HMh.out hoh.out.1 ((Ext.refl W).drew.trans h2) h1
  have fg : bg ≠ bo := fun e => by
    have h1 := hgh.out
    rw [e, hoh.out.1] at h1
    injection h1 with h1
    injection h1 with _ h2
    cases h2
  refine ⟨rfl, FrameMode.returning, (by cases c₀; simp only at hu; subst hu; rfl), .tuple #[], (by simp [results, Tryz.results93, go_sem]), rfl, rfl, ?_, ⟨_, _, _, f1, f2⟩, ?_⟩
  · rw [heap_setCell_ne _ _ fg, heap_setCell_ne _ _ fg, heap_setCell_ne _ _ fg, heap_setCell_ne _ _ fg]
    exact (Below.block ((Ext.refl W).drew.trans h2) bg (Array.getElem?_eq_some_iff.1 hgh.out).1).trans hgh.out
  · exact ((((hN.drew.ext h2).set _ _).set _ _).set _ _ |>.set _ _).below hbel.out hB2 (by have := HMh.out.ge; omega)
set_option maxRecDepth 100000 in
set_option maxHeartbeats 1000000 in
theorem end_stop (B p : Nat) (S : TS) (bm bg bo : Nat) (v : Value) (older : List PanicEntry) (w : World) (h : Stops B w p S) (hm : HeldP w p bm (.cells #[.pointer (some ⟨p, 0, none⟩)] 33 (0, 0))) (hg : HeldP w p bg (.cells #[v] 3 (0, 0)))
    (ho : HeldP w p bo (.cells #[.bool false, .slice none 0 0, .slice none 0 0, .slice none 0 0] 30 (0, 0))) (hB1 : B ≤ bg) (hB2 : B ≤ bo) :
    CallsD Tryz.prog 93 #[.pointer (some ⟨bm, 0, none⟩), .pointer (some ⟨bg, 0, none⟩), .pointer (some ⟨bo, 0, none⟩)] (.panicking ({ v := .iface 92 (.agg #[.pointer (some ⟨p, 0, none⟩)]), recovered := false } :: older)) w fun e u' w' =>
      e = .returned (.tuple #[]) ∧ u' = .panicking ({ v := .iface 92 (.agg #[.pointer (some ⟨p, 0, none⟩)]), recovered := true } :: older) ∧ EndAt B w w' bg bo (.int .i64 0) false S := by
  obtain ⟨vA, vL, vC, vN, L, h⟩ := h
  have hc := cell_of_heap h.heap
  have hfz := frozen_of_heap h.heap
  have cm := hm.cells
  refine callsD_of_wpS Tryz.func93 rfl fun c₀ cs hu => ?_
  simp only [Tryz.ntmps93, List.size_toArray, List.length_cons, List.length_nil, Nat.reduceAdd, Nat.reduceSub, Array.replicate_succ, Array.replicate_zero, List.push_toArray, List.append_toArray, List.nil_append, List.cons_append]
  apply wpS_seq
  refine wpS_of_wp ?_
  go_wp2_with fail
  simp only [Exit.thenS]
  apply wpS_seq
  refine wpS_of_wp ?_
  go_wp2_with fail
  simp only [Exit.thenS]
  obtain ⟨HM, HK⟩ := h.state 0
  have hm2 := hm.keep HK
  have hg2 := hg.keep HK
  have ho2 := ho.keep HK
  clear hc hfz cm hm hg ho h
  generalize w.setCell ⟨p, 0, none⟩ (.int .i64 0) = W0 at *
  have hX := (Ext.refl W0).alloc (.cells #[.agg #[.pointer (some ⟨p, 0, none⟩)]] 92)
  have hq0 := cell_of_heap HM.heap
  have cm0 := hm2.cells
  have hqa : Hid (∀ O, ∀ i, (W0.alloc O).cell? ⟨bm, i, none⟩ = (#[.pointer (some ⟨p, 0, none⟩)] : Array Value)[i]?) := Lib.hid fun O i => (((Ext.refl W0).alloc O).cell (p := ⟨bm, i, none⟩) hm2.lt).trans (hm2.cells i)
  have cma := hqa.out
  have fga := frozen_of_heap hg2.1
  have cg0 := hg2.cells
  have W0lt := hg2.lt
  have fgb : Hid (∀ O i, (W0.alloc O).frozen? ⟨bg, i, none⟩ = false) := Lib.hid fun O i => frozen_of_heap ((Below.block ((Ext.refl W0).alloc O) bg hg2.lt).trans hg2.1) i
  have cgb : Hid (∀ O i, (W0.alloc O).cell? ⟨bg, i, none⟩ = (#[v] : Array Value)[i]?) := Lib.hid fun O i => (((Ext.refl W0).alloc O).cell (p := ⟨bg, i, none⟩) hg2.lt).trans (hg2.cells i)
  have fgb' := fgb.out
  have cgb' := cgb.out
  have HMh0 := Lib.hid HM
  have HKh := Lib.hid HK
  have hmh0 := Lib.hid hm2
  have hgh0 := Lib.hid hg2
  have hoh0 := Lib.hid ho2
  clear HM HK hm2 hg2 ho2
  apply wpS_seq
  apply wpS_seq
  apply wpS_region
  simp [wpOpsS, go_sem, recoverD, hu, Exit.thenS]
  refine wpS_of_wp ?_
  go_wp2_with fail
  simp only [Exit.thenS]
  refine wpS_of_wp ?_
  go_wp2_with fail
  have hgp := hgh0.out.2
  have hmg : bm ≠ bg := fun e => by
    have h1 := hmh0.out.1
    rw [e, hgh0.out.1] at h1
    injection h1 with h1
    injection h1 with _ h2
    cases h2
  have hog : bo ≠ bg := fun e => by
    have h1 := hoh0.out.1
    rw [e, hgh0.out.1] at h1
    injection h1 with h1
    injection h1 with _ h2
    cases h2
  have HM1 := HMh0.out.setO hgp hB1 0 (.int .i64 0)
  have hm1 := hmh0.out.setO hmg hgp 0 (.int .i64 0)
  have ho1 := hoh0.out.setO hog hgp 0 (.int .i64 0)
  have hg1 := heap_setCell (i := 0) hgh0.out.1 (.int .i64 0)
  have hb1 : Below B w (W0.setCell ⟨bg, 0, none⟩ (.int .i64 0)) := Below.setCell HKh.out.below (by show B ≤ bg; exact hB1) _
  have HMh := Lib.hid (HM1.ext ((Ext.refl _).alloc (.cells #[.pointer (some ⟨p, 0, none⟩)] 92)))
  have hmh := Lib.hid (hm1.alloc (.cells #[.pointer (some ⟨p, 0, none⟩)] 92) HM1.lt)
  have hoh := Lib.hid (ho1.alloc (.cells #[.pointer (some ⟨p, 0, none⟩)] 92) HM1.lt)
  have hgh := Lib.hid ((Below.block ((Ext.refl _).alloc (.cells #[.pointer (some ⟨p, 0, none⟩)] 92)) bg (Array.getElem?_eq_some_iff.1 hg1).1).trans hg1)
  have hbel := Lib.hid (Below.alloc hb1 (by have := HM1.ge; have := HM1.lt; omega) (.cells #[.pointer (some ⟨p, 0, none⟩)] 92))
  clear hX hq0 cm0 hqa cma fga cg0 fgb cgb fgb' cgb' HMh0 hmh0 hgh0 hoh0 HKh HM1 hm1 ho1 hg1 hb1 hgp W0lt
  generalize (World.alloc (W0.setCell ⟨bg, 0, none⟩ (.int .i64 0)) (.cells #[.pointer (some ⟨p, 0, none⟩)] 92)) = W at *
  have hq := cell_of_heap HMh.out.heap
  have cm2 := hmh.out.cells
  have hI : Ints W vL L := IntRow.ints HMh.out.rowL
  obtain ⟨Al, cl, rfl, q1, q2⟩ := hI.slice
  have hIh := Lib.hid hI
  obtain ⟨Ac, cc, rfl, -, -, -⟩ := vals_row HMh.out.rowC
  obtain ⟨An, cn, rfl, -, -, -⟩ := vals_row HMh.out.rowN
  have hlen := HMh.out.locN
  have hplt := HMh.out.lt
  have hmlt := hmh.out.lt
  clear hI
  have hpo : p ≠ bo := fun e => hoh.out.2 (.inl e.symm)
  have hmo : bm ≠ bo := fun e => by
    have h1 := hmh.out.1
    rw [e, hoh.out.1] at h1
    injection h1 with h1
    injection h1 with _ h2
    cases h2
  have hlo : (Value.slice Al L.length cl).ownBlock ≠ some bo := row_not HMh.out.rowL hoh.out.1 (by decide)
  have hS : ∀ w', Near W bo 4 30 w' → ((∀ i, w'.cell? ⟨p, i, none⟩ = (#[.int .i64 0, vA, .slice Al L.length cl, .slice Ac S.acc.length cc, .slice An S.nts.length cn] : Array Value)[i]?) ∧ (∀ i, w'.cell? ⟨bm, i, none⟩ = (#[.pointer (some ⟨p, 0, none⟩)] : Array Value)[i]?) ∧ (∀ i, w'.cell? ⟨bo, i, none⟩ = (#[cellD w' bo 0, cellD w' bo 1, cellD w' bo 2, cellD w' bo 3] : Array Value)[i]?) ∧ (∀ i, w'.frozen? ⟨bo, i, none⟩ = false) ∧ Near W bo 4 30 w') := fun w' hx =>
    ⟨fun i => (hx.cell hplt hpo).trans (hq i), fun i => (hx.cell hmlt hmo).trans (cm2 i), hx.four, hx.frozen, hx⟩
  have hN : Near W bo 4 30 W := Near.new hoh.out.1 rfl
  go_region_held2 (fun w' => (∀ i, w'.cell? ⟨p, i, none⟩ = (#[.int .i64 0, vA, .slice Al L.length cl, .slice Ac S.acc.length cc, .slice An S.nts.length cn] : Array Value)[i]?) ∧ (∀ i, w'.cell? ⟨bm, i, none⟩ = (#[.pointer (some ⟨p, 0, none⟩)] : Array Value)[i]?) ∧ (∀ i, w'.cell? ⟨bo, i, none⟩ = (#[cellD w' bo 0, cellD w' bo 1, cellD w' bo 2, cellD w' bo 3] : Array Value)[i]?) ∧ (∀ i, w'.frozen? ⟨bo, i, none⟩ = false) ∧ Near W bo 4 30 w') (first | exact hS _ hN.drew | (refine hS _ ?_; (repeat refine Near.set ?_ _ _); exact hN.drew.ext h2))
    (first
      | (go_at_call 87
         refine (tshort_p Al cl L _ (hIh.out.ext (Ext.refl W).drew) q1 q2 (by omega)).mono ?_
         rintro e w' ⟨v', rfl, h1, h2⟩
         obtain ⟨As, cs, rfl, hs1, hs2⟩ := h1.ints.slice))
  obtain ⟨f1, f2⟩ := end_out (d := false) HMh.out hoh.out.1 ((Ext.refl W).drew.trans h2) h1
  have fg : bg ≠ bo := fun e => by
    have h1 := hgh.out
    rw [e, hoh.out.1] at h1
    injection h1 with h1
    injection h1 with _ h2
    cases h2
  refine ⟨rfl, FrameMode.panicking ({ v := .iface 92 (.agg #[.pointer (some ⟨p, 0, none⟩)]), recovered := true } :: older), (by cases c₀; simp only at hu; subst hu; rfl), .tuple #[], (by simp [results, Tryz.results93, go_sem]), rfl, rfl, ?_, ⟨_, _, _, f1, f2⟩, ?_⟩
  · rw [heap_setCell_ne _ _ fg, heap_setCell_ne _ _ fg, heap_setCell_ne _ _ fg, heap_setCell_ne _ _ fg]
    exact (Below.block ((Ext.refl W).drew.trans h2) bg (Array.getElem?_eq_some_iff.1 hgh.out).1).trans hgh.out
  · exact ((((hN.drew.ext h2).set _ _).set _ _).set _ _ |>.set _ _).below hbel.out hB2 (by have := HMh.out.ge; omega)
end Go.Proofs.YtbaajjkopdjbgaaGreat
/-
  Playing an operation: the whole of it.
-/
namespace Go.Proofs.YtbaajjkopdjbgaaGreat
open Go.RowKit Kv
theorem row_base {w : World} {B B' e size n : Nat} {v : Value} {xs : List Value} (h : w.ownsRow B' e size v n xs) (hB : B ≤ B') : w.ownsRow B e size v n xs := by
  obtain ⟨h1, h2⟩ := h
  rcases h2 with h2 | ⟨g, cap, cur, rfl, hg, r⟩
  · exact ⟨h1, .inl h2⟩
  · exact ⟨h1, .inr ⟨g, cap, cur, rfl, Nat.le_trans hB hg, r⟩⟩
theorem four_boxes (w : World) (o1 o2 o3 o4 : Obj) : Ext w ((((w.alloc o1).alloc o2).alloc o3).alloc o4) ∧ ((((w.alloc o1).alloc o2).alloc o3).alloc o4).heap[w.heap.size]? = some o1 ∧ ((((w.alloc o1).alloc o2).alloc o3).alloc o4).heap[w.heap.size + 1]? = some o2 ∧
    ((((w.alloc o1).alloc o2).alloc o3).alloc o4).heap[w.heap.size + 1 + 1]? = some o3 ∧ ((((w.alloc o1).alloc o2).alloc o3).alloc o4).heap[w.heap.size + 1 + 1 + 1]? = some o4 := by
  refine ⟨((((Ext.refl w).alloc o1).alloc o2).alloc o3).alloc o4, ?_, ?_, ?_, ?_⟩
  · exact (Below.block ((((Ext.refl (w.alloc o1)).alloc o2).alloc o3).alloc o4) _ (by simp)).trans (heap_alloc_new w o1)
  · have := heap_alloc_new (w.alloc o1) o2
    rw [World.size_alloc] at this
    exact (Below.block (((Ext.refl ((w.alloc o1).alloc o2)).alloc o3).alloc o4) _ (by simp)).trans this
  · have := heap_alloc_new ((w.alloc o1).alloc o2) o3
    rw [World.size_alloc, World.size_alloc] at this
    exact (Below.block ((Ext.refl (((w.alloc o1).alloc o2).alloc o3)).alloc o4) _ (by simp)).trans this
  · have := heap_alloc_new (((w.alloc o1).alloc o2).alloc o3) o4
    rw [World.size_alloc, World.size_alloc, World.size_alloc] at this
    exact this
/-- Worlds with the same blocks. -/
structure SameW (w w' : World) : Prop where
  os : w'.os = w.os
  tape : w'.tape = w.tape
  output : w'.output = w.output
  size : w'.heap.size = w.heap.size
  blocks : ∀ k : Nat, w'.heap[k]? = w.heap[k]?
theorem SameW.drew (w : World) : SameW w w.drew := ⟨rfl, rfl, rfl, rfl, fun _ => rfl⟩
theorem SameW.drew2 {w w' : World} (h : SameW w w') : SameW w w'.drew := ⟨h.os, h.tape, h.output, h.size, h.blocks⟩
theorem SameW.refl (w : World) : SameW w w := ⟨rfl, rfl, rfl, rfl, fun _ => rfl⟩
theorem SameW.ext {w w' : World} (h : SameW w w') : Ext w w' := ⟨h.os, h.tape, h.output, Nat.le_of_eq h.size.symm, fun k _ => h.blocks k⟩
theorem SameW.set {w w' : World} {b : Nat} {cs : Array Value} {t : TypeId} (h : SameW w w') (g : w.heap[b]? = some (.cells cs t (0, 0))) {i : Nat} {v : Value} (hv : cs[i]? = some v) : SameW w (w'.setCell ⟨b, i, none⟩ v) := by
  refine ⟨h.os, h.tape, h.output, by rw [← h.size]; simp, fun k => ?_⟩
  by_cases e : k = b
  · subst e
    rw [heap_setCell ((h.blocks k).trans g) v, g]
    congr 2
    apply Array.ext_getElem?
    intro j
    rw [Array.getElem?_setIfInBounds]
    split
    · rename_i e
      subst e
      rw [hv]
      split
      · rfl
      · rename_i h2
        rw [Array.getElem?_eq_none (by omega)] at hv
        cases hv
    · rfl
  · rw [heap_setCell_ne _ _ e]
    exact h.blocks k
/-- A play begins. -/
theorem play_start {w W w' : World} {p : Nat} {Aa : Option Addr} {ca : Nat} {ans L : List Int} {v' : Value} (hx : Ext w W) (hp : w.heap.size ≤ p) (g : W.heap[p]? = some (.cells #[.int .i64 1, .slice Aa ans.length ca, .slice none 0 0, .slice none 0 0, .slice none 0 0] 90 (0, 0)))
    (h2 : Ext W w') (h1 : IntRow w' W.heap.size v' L) (hl : L.length ≤ 32768) (ha : Ints w (.slice Aa ans.length ca) ans) (hn : ans.length ≤ maxAns) (hb : ∀ b, (Value.slice Aa ans.length ca).ownBlock = some b → b < w.heap.size) :
    Plays w.heap.size (w'.setCell ⟨p, 2, none⟩ v') p (TS0 L ans) ∧ (∀ b o, W.heap[b]? = some o → b ≠ p → HeldP (w'.setCell ⟨p, 2, none⟩ v') p b o) ∧ Ext w (w'.setCell ⟨p, 2, none⟩ v') := by
  have hlt := (Array.getElem?_eq_some_iff.1 g).1
  have g' := heap_setCell (i := 2) ((Below.block h2 p hlt).trans g) v'
  have hv : ∀ k, v'.ownBlock = some k → W.heap.size ≤ k := fun k hk => (h1.lt k hk).1
  have ha' := (ha.ext hx).ext h2
  refine ⟨⟨Nat.zero_le _, .slice Aa ans.length ca, v', .slice none 0 0, .slice none 0 0, L, { ge := hp, heap := g', ans := ints_set ha' _ _ ?_, ansB := hb, rowL := row_base (row_set h1 ?_) hx.size, rowC := World.ownsRow_nil _ _ _ _, rowN := World.ownsRow_nil _ _ _ _, loc := fun _ => rfl, locN := hl, accN := Nat.zero_le _, ansN := hn, ntsN := Nat.zero_le _ }⟩, ?_, (hx.trans h2).setCell hp _⟩
  · intro k hk e
    have := hb k hk
    simp only at e
    omega
  · intro e
    have := hv p e
    omega
  · intro b o hb ho
    have hbl := (Array.getElem?_eq_some_iff.1 hb).1
    refine ⟨(heap_setCell_ne _ _ ho).trans ((Below.block h2 b hbl).trans hb), fun h' => ?_⟩
    rcases h' with e | ⟨i, hi, v, hv1, hv2⟩
    · exact ho e
    · rw [cell_of_heap g'] at hv1
      simp only [List.mem_cons, List.not_mem_nil, or_false] at hi
      rcases hi with rfl | rfl | rfl
      · obtain rfl : v' = v := by simpa using hv1
        have := hv b hv2
        omega
      · obtain rfl : Value.slice none 0 0 = v := by simpa using hv1
        simp [Value.ownBlock] at hv2
      · obtain rfl : Value.slice none 0 0 = v := by simpa using hv1
        simp [Value.ownBlock] at hv2
set_option maxRecDepth 100000 in
set_option maxHeartbeats 1000000 in
theorem play_int (f : FuncId) (cap : Array Value) (T : Prog Int) (Al : Option Addr) (cl : Nat) (L : List Int) (Aa : Option Addr) (ca : Nat) (ans : List Int) (w : World) (h : Ints w (.slice Al L.length cl) L) (hl : L.length ≤ 32768) (ha : Ints w (.slice Aa ans.length ca) ans) (hn : ans.length ≤ maxAns)
    (hb : ∀ b, (Value.slice Aa ans.length ca).ownBlock = some b → b < w.heap.size)
    (hcf : ∀ (args : Array Value) (w : World), (callFunc f args).run Tryz.prog w = .ok (.enter f args) w)
    (hdo : ∀ w1 p, Ext w w1 → Plays w.heap.size w1 p (TS0 L ans) → Calls Tryz.prog f (#[.pointer (some ⟨p, 0, none⟩)] ++ cap) w1 (Post encI w.heap.size p w1 (T.run (TS0 L ans)))) :
    Calls Tryz.prog 17 #[.func (.func f) #[] cap, .slice Al L.length cl, .slice Aa ans.length ca] w fun e w' => ∃ v, e = .returned (.tuple #[.int .i64 ((T.run (TS0 L ans)).1.getD 0), v]) ∧ Outs w' v (T.run (TS0 L ans)).1.isSome (T.run (TS0 L ans)).2 ∧ Ext w w' := by
  obtain ⟨q1, q2⟩ : L.length ≤ cl ∧ cl ≤ 9223372036854775807 := by
    obtain ⟨A', c', he, q1, q2, _⟩ := h
    injection he with e1 e2 e3
    subst e3
    exact ⟨q1, q2⟩
  generalize hR : (fun e w' => ∃ v, e = Ending.returned (.tuple #[.int .i64 ((T.run (TS0 L ans)).1.getD 0), v]) ∧ Outs w' v (T.run (TS0 L ans)).1.isSome (T.run (TS0 L ans)).2 ∧ Ext w w') = R
  have hfin : ∀ v w', Outs w' v (T.run (TS0 L ans)).1.isSome (T.run (TS0 L ans)).2 → Ext w w' → R (.returned (.tuple #[.int .i64 ((T.run (TS0 L ans)).1.getD 0), v])) w' := fun v w' h1 h2 => hR ▸ ⟨v, rfl, h1, h2⟩
  clear hR
  have hmf : ∀ (fn : Fn) (first cap : Array Value) (w : World), (Instr.makeFunc fn first cap).run Tryz.prog w = .ok (.func fn first cap) w := fun _ _ _ _ => rfl
  go_enter_defers Tryz.func17, Tryz.ntmps17
  go_wp2_with fail
  obtain ⟨hx, g1, g2, g3, g4⟩ := four_boxes w (.cells #[.int .i64 0] 3) (.cells #[.bool false, .slice none 0 0, .slice none 0 0, .slice none 0 0] 30) (.cells #[.int .i64 1, .slice Aa ans.length ca, .slice none 0 0, .slice none 0 0, .slice none 0 0] 90) (.cells #[.pointer (some ⟨w.heap.size + 1 + 1, 0, none⟩)] 33)
  generalize hW : World.alloc (World.alloc (World.alloc (World.alloc w _) _) _) _ = W at *
  clear hW
  have hI := h.ext hx
  have cm := cell_of_heap g4
  have hN : Near W (w.heap.size + 1 + 1) 5 90 W := Near.new g3 rfl
  have hmlt := (Array.getElem?_eq_some_iff.1 g4).1
  have hmin : min (L.length : Int) 32768 = (L.length : Int) := by omega
  have hS : ∀ w', Near W (w.heap.size + 1 + 1) 5 90 w' → ((∀ i, w'.cell? ⟨w.heap.size + 1 + 1 + 1, i, none⟩ = (#[.pointer (some ⟨w.heap.size + 1 + 1, 0, none⟩)] : Array Value)[i]?) ∧ (∀ i, w'.cell? ⟨w.heap.size + 1 + 1, i, none⟩ = (#[cellD w' (w.heap.size + 1 + 1) 0, cellD w' (w.heap.size + 1 + 1) 1, cellD w' (w.heap.size + 1 + 1) 2, cellD w' (w.heap.size + 1 + 1) 3, cellD w' (w.heap.size + 1 + 1) 4] : Array Value)[i]?) ∧ (∀ i, w'.frozen? ⟨w.heap.size + 1 + 1, i, none⟩ = false)) := fun w' hx =>
    ⟨fun i => (hx.cell hmlt (by omega)).trans (cm i), hx.five, hx.frozen⟩
  go_region_held3 (fun w' => (∀ i, w'.cell? ⟨w.heap.size + 1 + 1 + 1, i, none⟩ = (#[.pointer (some ⟨w.heap.size + 1 + 1, 0, none⟩)] : Array Value)[i]?) ∧ (∀ i, w'.cell? ⟨w.heap.size + 1 + 1, i, none⟩ = (#[cellD w' (w.heap.size + 1 + 1) 0, cellD w' (w.heap.size + 1 + 1) 1, cellD w' (w.heap.size + 1 + 1) 2, cellD w' (w.heap.size + 1 + 1) 3, cellD w' (w.heap.size + 1 + 1) 4] : Array Value)[i]?) ∧ (∀ i, w'.frozen? ⟨w.heap.size + 1 + 1, i, none⟩ = false)) (first | exact hS _ hN.drew | (refine hS _ ?_; (repeat refine Near.set ?_ _ _); exact hN.drew.ext h2))
    (first
      | (go_at_call 85
         refine (clone_any Al cl L _ (hI.ext (Ext.refl W).drew) (by omega)).mono ?_
         rintro e w' ⟨v', rfl, h1, h2⟩
         obtain ⟨As, cs, rfl, hs1, hs2⟩ := h1.ints.slice))
  obtain ⟨hP, hH, hE⟩ := play_start (p := w.heap.size + 1 + 1) hx (by omega) g3 ((Ext.refl W).drew.trans h2) h1 hl ha hn hb
  have hbg := hH _ _ g1 (by omega)
  have hbo := hH _ _ g2 (by omega)
  have hbm := hH _ _ g4 (by omega)
  clear hH g1 g2 g3 g4 hS hN h1 h2 hI cm hmin hmlt
  rename_i hh
  clear hh
  have hT := hdo _ _ hE hP
  clear hdo
  generalize World.setCell _ _ _ = W2 at *
  have cbm := hbm.cells
  have hnf : (binOp .neq 39 (.func (.func f) #[] cap) .nilFunc).run Tryz.prog W2 = .ok (.bool true) W2 := by kernel_rfl
  go_wp2_with fail
  generalize hr : T.run (TS0 L ans) = r at hT hfin
  obtain ⟨o, S⟩ := r
  clear hr
  cases o with
  | some a =>
    refine hT.mono ?_
    rintro e w3 ⟨rfl, hP3, hK3⟩
    have hbg3 := hbg.keep hK3
    have hbo3 := hbo.keep hK3
    have hbm3 := hbm.keep hK3
    have hE3 : Ext w w3 := Below.trans hE hK3.below
    clear hbg hbo hbm hE hK3 hT hP cbm hnf
    have cbg := hbg3.cells
    have fbg := frozen_of_heap hbg3.1
    have cbo := hbo3.cells
    have fbo := frozen_of_heap hbo3.1
    go_wp2_with fail
    have fgo : w.heap.size ≠ w.heap.size + 1 := by omega
    have hg4 := heap_setCell (i := 0) hbg3.1 (.int .i64 a)
    have hP4 : Plays w.heap.size (w3.setCell ⟨w.heap.size, 0, none⟩ (.int .i64 a)) (w.heap.size + 1 + 1) S := by
      obtain ⟨q, vA, vL, vC, vN, L', hM⟩ := hP3
      exact ⟨q, vA, vL, vC, vN, L', hM.setO hbg3.2 (Nat.le_refl _) _ _⟩
    have hbm4 := hbm3.setO (b := w.heap.size) (by omega) hbg3.2 0 (.int .i64 a)
    have hbo4 := hbo3.setO (b := w.heap.size) (by omega) hbg3.2 0 (.int .i64 a)
    have hbg4 : HeldP (w3.setCell ⟨w.heap.size, 0, none⟩ (.int .i64 a)) (w.heap.size + 1 + 1) w.heap.size (.cells #[.int .i64 a] 3 (0, 0)) := ⟨hg4, fun h' => hbg3.2 ((ownR_same (heap_setCell_ne _ _ (by omega)) _).1 h')⟩
    have hE4 : Ext w (w3.setCell ⟨w.heap.size, 0, none⟩ (.int .i64 a)) := hE3.setCell (Nat.le_refl _) _
    clear hP3 hbg3 hbo3 hbm3 hE3 cbg fbg cbo fbo hg4
    generalize World.setCell _ _ _ = w4 at *
    generalize hbq : w.heap.size + 1 = bo at hbm4 hbo4 hP4 ⊢
    have fgo1 : w.heap.size ≠ bo := by omega
    have fgo2 : bo ≠ w.heap.size := by omega
    clear fgo
    have cbg := hbg4.cells
    have fbg := frozen_of_heap hbg4.1
    have cbo := hbo4.cells
    have fbo := frozen_of_heap hbo4.1
    go_region
    all_goals
      generalize hW5 : World.drew _ = W5
      have hsm : SameW w4 W5 := by
        rw [← hW5]
        repeat first | with_reducible exact SameW.refl _ | with_reducible refine SameW.drew2 ?_ | refine SameW.set ?_ hbg4.1 rfl | refine SameW.set ?_ hbo4.1 rfl
      clear hW5 cbg fbg cbo fbo
      have hP5 := hP4.ext hsm.ext
      have hbm5 := hbm4.ext hsm.ext hP4.lt
      have hbg5 := hbg4.ext hsm.ext (by rw [hbq]; exact hP4.lt)
      have hbo5 := hbo4.ext hsm.ext hP4.lt
      have hE5 : Ext w W5 := hE4.trans hsm.ext
      clear hP4 hbm4 hbg4 hbo4 hE4 hsm
      go_wp2_with fail
      refine leaves_cons (f := 93) (args := #[.pointer (some ⟨bo + 1 + 1, 0, none⟩), .pointer (some ⟨w.heap.size, 0, none⟩), .pointer (some ⟨bo, 0, none⟩)]) (by simp) (by simp [go_sem]) ?_
      refine (end_ok w.heap.size _ S _ _ _ _ _ hP5 hbm5 (by rw [← hbq]; exact hbg5) hbo5 (by omega)).mono ?_
      rintro e u' w4 ⟨rfl, rfl, hg, ⟨vC, vN, vs, ho, hO⟩, hB⟩
      have cg := cell_of_heap hg
      have co := cell_of_heap ho
      have cg0 := cg 0
      have co0 := co 0
      have co1 := co 1
      have co2 := co 2
      have co3 := co 3
      refine ⟨.tuple #[.int .i64 a, .agg #[.bool true, vC, vN, vs]], ?_, hfin _ _ hO (Below.trans hE5 hB)⟩
      simp [results, Tryz.results17, go_sem, cg0, co0, co1, co2, co3]
  | none =>
    refine hT.mono ?_
    rintro e w3 ⟨rfl, hP3, hK3⟩
    have hbg3 := hbg.keep hK3
    have hbo3 := hbo.keep hK3
    have hbm3 := hbm.keep hK3
    have hE3 : Ext w w3 := Below.trans hE hK3.below
    clear hbg hbo hbm hE hK3 hT hP cbm hnf
    refine leaves_cons (f := 93) (args := #[.pointer (some ⟨w.heap.size + 1 + 1 + 1, 0, none⟩), .pointer (some ⟨w.heap.size, 0, none⟩), .pointer (some ⟨w.heap.size + 1, 0, none⟩)]) (by simp) (by simp [go_sem]) ?_
    refine (end_stop w.heap.size _ S _ _ _ _ [] _ hP3 hbm3 hbg3 hbo3 (Nat.le_refl _) (by omega)).mono ?_
    rintro e u' w4 ⟨rfl, rfl, hg, ⟨vC, vN, vs, ho, hO⟩, hB⟩
    have cg := cell_of_heap hg
    have co := cell_of_heap ho
    have cg0 := cg 0
    have co0 := co 0
    have co1 := co 1
    have co2 := co 2
    have co3 := co 3
    refine ⟨.tuple #[.int .i64 0, .agg #[.bool false, vC, vN, vs]], ?_, hfin _ _ hO (Below.trans hE3 hB)⟩
    simp [results, Tryz.results17, go_sem, cg0, co0, co1, co2, co3]
    trace_state
end Go.Proofs.YtbaajjkopdjbgaaGreat
/-
  An operation played whose result is an error's number: its deferred end.
-/
namespace Go.Proofs.YtbaajjkopdjbgaaGreat
open Go.RowKit Kv

/-- What the deferred end leaves. -/
def EndAtE (B : Nat) (w w' : World) (bg bo : Nat) (v : Value) (d : Bool) (S : TS) : Prop :=
  w'.heap[bg]? = some (.cells #[v] 26 (0, 0)) ∧ (∃ vC vN vs, w'.heap[bo]? = some (.cells #[.bool d, vC, vN, vs] 30 (0, 0)) ∧ Outs w' (.agg #[.bool d, vC, vN, vs]) d S) ∧ Below B w w'
set_option maxRecDepth 100000 in
set_option maxHeartbeats 1000000 in
theorem end_okE (B p : Nat) (S : TS) (bm bg bo : Nat) (v : Value) (w : World) (h : Plays B w p S) (hm : HeldP w p bm (.cells #[.pointer (some ⟨p, 0, none⟩)] 33 (0, 0))) (hg : HeldP w p bg (.cells #[v] 26 (0, 0)))
    (ho : HeldP w p bo (.cells #[.bool false, .slice none 0 0, .slice none 0 0, .slice none 0 0] 30 (0, 0))) (hB2 : B ≤ bo) :
    CallsD Tryz.prog 86 #[.pointer (some ⟨bm, 0, none⟩), .pointer (some ⟨bg, 0, none⟩), .pointer (some ⟨bo, 0, none⟩)] .returning w fun e u' w' => e = .returned (.tuple #[]) ∧ u' = .returning ∧ EndAtE B w w' bg bo v true S := by
  obtain ⟨h1, vA, vL, vC, vN, L, h⟩ := h
  have hc := cell_of_heap h.heap
  have hfz := frozen_of_heap h.heap
  have cm := hm.cells
  refine callsD_of_wpS Tryz.func86 rfl fun c₀ cs hu => ?_
  simp only [Tryz.ntmps86, List.size_toArray, List.length_cons, List.length_nil, Nat.reduceAdd, Nat.reduceSub, Array.replicate_succ, Array.replicate_zero, List.push_toArray, List.append_toArray, List.nil_append, List.cons_append]
  apply wpS_seq
  refine wpS_of_wp ?_
  go_wp2_with fail
  simp only [Exit.thenS]
  apply wpS_seq
  refine wpS_of_wp ?_
  go_wp2_with fail
  simp only [Exit.thenS]
  obtain ⟨HM, HK⟩ := h.state 0
  have hmh := Lib.hid (hm.keep HK)
  have hgh := Lib.hid (hg.keep HK).1
  have hoh := Lib.hid (ho.keep HK)
  have hq := cell_of_heap HM.heap
  have cm2 := hmh.out.cells
  have HMh := Lib.hid HM
  have hbel := Lib.hid HK.below
  clear HM HK hc hfz cm hm hg ho h
  generalize w.setCell ⟨p, 0, none⟩ (.int .i64 0) = W at *
  apply wpS_seq
  apply wpS_seq
  apply wpS_region
  simp [wpOpsS, go_sem, recoverD, hu, Exit.thenS]
  refine wpS_of_wp ?_
  go_wp2_with fail
  simp only [Exit.thenS]
  refine wpS_of_wp ?_
  go_wp2_with fail
  have hI : Ints W vL L := IntRow.ints HMh.out.rowL
  obtain ⟨Al, cl, rfl, q1, q2⟩ := hI.slice
  have hIh := Lib.hid hI
  obtain ⟨Ac, cc, rfl, -, -, -⟩ := vals_row HMh.out.rowC
  obtain ⟨An, cn, rfl, -, -, -⟩ := vals_row HMh.out.rowN
  have hlen := HMh.out.locN
  have hplt := HMh.out.lt
  have hmlt := hmh.out.lt
  clear hI
  have hpo : p ≠ bo := fun e => hoh.out.2 (.inl e.symm)
  have hmo : bm ≠ bo := fun e => by
    have h1 := hmh.out.1
    rw [e, hoh.out.1] at h1
    injection h1 with h1
    injection h1 with _ h2
    cases h2
  have hlo : (Value.slice Al L.length cl).ownBlock ≠ some bo := row_not HMh.out.rowL hoh.out.1 (by decide)
  have hS : ∀ w', Near W bo 4 30 w' → ((∀ i, w'.cell? ⟨p, i, none⟩ = (#[.int .i64 0, vA, .slice Al L.length cl, .slice Ac S.acc.length cc, .slice An S.nts.length cn] : Array Value)[i]?) ∧ (∀ i, w'.cell? ⟨bm, i, none⟩ = (#[.pointer (some ⟨p, 0, none⟩)] : Array Value)[i]?) ∧ (∀ i, w'.cell? ⟨bo, i, none⟩ = (#[cellD w' bo 0, cellD w' bo 1, cellD w' bo 2, cellD w' bo 3] : Array Value)[i]?) ∧ (∀ i, w'.frozen? ⟨bo, i, none⟩ = false) ∧ Near W bo 4 30 w') := fun w' hx =>
    ⟨fun i => (hx.cell hplt hpo).trans (hq i), fun i => (hx.cell hmlt hmo).trans (cm2 i), hx.four, hx.frozen, hx⟩
  have hN : Near W bo 4 30 W := Near.new hoh.out.1 rfl
  go_region_held2 (fun w' => (∀ i, w'.cell? ⟨p, i, none⟩ = (#[.int .i64 0, vA, .slice Al L.length cl, .slice Ac S.acc.length cc, .slice An S.nts.length cn] : Array Value)[i]?) ∧ (∀ i, w'.cell? ⟨bm, i, none⟩ = (#[.pointer (some ⟨p, 0, none⟩)] : Array Value)[i]?) ∧ (∀ i, w'.cell? ⟨bo, i, none⟩ = (#[cellD w' bo 0, cellD w' bo 1, cellD w' bo 2, cellD w' bo 3] : Array Value)[i]?) ∧ (∀ i, w'.frozen? ⟨bo, i, none⟩ = false) ∧ Near W bo 4 30 w') (first | exact hS _ hN.drew | (refine hS _ ?_; (repeat refine Near.set ?_ _ _); exact hN.drew.ext h2))
    (first
      | (go_at_call 87
         refine (tshort_p Al cl L _ (hIh.out.ext (Ext.refl W).drew) q1 q2 (by omega)).mono ?_
         rintro e w' ⟨v', rfl, h1, h2⟩
         obtain ⟨As, cs, rfl, hs1, hs2⟩ := h1.ints.slice))
  obtain ⟨f1, f2⟩ := end_out (d := true) HMh.out hoh.out.1 ((Ext.refl W).drew.trans h2) h1
  have fg : bg ≠ bo := fun e => by
    have h1 := hgh.out
    rw [e, hoh.out.1] at h1
    injection h1 with h1
    injection h1 with _ h2
    cases h2
  refine ⟨rfl, FrameMode.returning, (by cases c₀; simp only at hu; subst hu; rfl), .tuple #[], (by simp [results, Tryz.results86, go_sem]), rfl, rfl, ?_, ⟨_, _, _, f1, f2⟩, ?_⟩
  · rw [heap_setCell_ne _ _ fg, heap_setCell_ne _ _ fg, heap_setCell_ne _ _ fg, heap_setCell_ne _ _ fg]
    exact (Below.block ((Ext.refl W).drew.trans h2) bg (Array.getElem?_eq_some_iff.1 hgh.out).1).trans hgh.out
  · exact ((((hN.drew.ext h2).set _ _).set _ _).set _ _ |>.set _ _).below hbel.out hB2 (by have := HMh.out.ge; omega)
set_option maxRecDepth 100000 in
set_option maxHeartbeats 1000000 in
theorem end_stopE (B p : Nat) (S : TS) (bm bg bo : Nat) (v : Value) (older : List PanicEntry) (w : World) (h : Stops B w p S) (hm : HeldP w p bm (.cells #[.pointer (some ⟨p, 0, none⟩)] 33 (0, 0))) (hg : HeldP w p bg (.cells #[v] 26 (0, 0)))
    (ho : HeldP w p bo (.cells #[.bool false, .slice none 0 0, .slice none 0 0, .slice none 0 0] 30 (0, 0))) (hB1 : B ≤ bg) (hB2 : B ≤ bo) :
    CallsD Tryz.prog 86 #[.pointer (some ⟨bm, 0, none⟩), .pointer (some ⟨bg, 0, none⟩), .pointer (some ⟨bo, 0, none⟩)] (.panicking ({ v := .iface 92 (.agg #[.pointer (some ⟨p, 0, none⟩)]), recovered := false } :: older)) w fun e u' w' =>
      e = .returned (.tuple #[]) ∧ u' = .panicking ({ v := .iface 92 (.agg #[.pointer (some ⟨p, 0, none⟩)]), recovered := true } :: older) ∧ EndAtE B w w' bg bo (.int .i64 0) false S := by
  obtain ⟨vA, vL, vC, vN, L, h⟩ := h
  have hc := cell_of_heap h.heap
  have hfz := frozen_of_heap h.heap
  have cm := hm.cells
  refine callsD_of_wpS Tryz.func86 rfl fun c₀ cs hu => ?_
  simp only [Tryz.ntmps86, List.size_toArray, List.length_cons, List.length_nil, Nat.reduceAdd, Nat.reduceSub, Array.replicate_succ, Array.replicate_zero, List.push_toArray, List.append_toArray, List.nil_append, List.cons_append]
  apply wpS_seq
  refine wpS_of_wp ?_
  go_wp2_with fail
  simp only [Exit.thenS]
  apply wpS_seq
  refine wpS_of_wp ?_
  go_wp2_with fail
  simp only [Exit.thenS]
  obtain ⟨HM, HK⟩ := h.state 0
  have hm2 := hm.keep HK
  have hg2 := hg.keep HK
  have ho2 := ho.keep HK
  clear hc hfz cm hm hg ho h
  generalize w.setCell ⟨p, 0, none⟩ (.int .i64 0) = W0 at *
  have hX := (Ext.refl W0).alloc (.cells #[.agg #[.pointer (some ⟨p, 0, none⟩)]] 92)
  have hq0 := cell_of_heap HM.heap
  have cm0 := hm2.cells
  have hqa : Hid (∀ O, ∀ i, (W0.alloc O).cell? ⟨bm, i, none⟩ = (#[.pointer (some ⟨p, 0, none⟩)] : Array Value)[i]?) := Lib.hid fun O i => (((Ext.refl W0).alloc O).cell (p := ⟨bm, i, none⟩) hm2.lt).trans (hm2.cells i)
  have cma := hqa.out
  have fga := frozen_of_heap hg2.1
  have cg0 := hg2.cells
  have W0lt := hg2.lt
  have fgb : Hid (∀ O i, (W0.alloc O).frozen? ⟨bg, i, none⟩ = false) := Lib.hid fun O i => frozen_of_heap ((Below.block ((Ext.refl W0).alloc O) bg hg2.lt).trans hg2.1) i
  have cgb : Hid (∀ O i, (W0.alloc O).cell? ⟨bg, i, none⟩ = (#[v] : Array Value)[i]?) := Lib.hid fun O i => (((Ext.refl W0).alloc O).cell (p := ⟨bg, i, none⟩) hg2.lt).trans (hg2.cells i)
  have fgb' := fgb.out
  have cgb' := cgb.out
  have HMh0 := Lib.hid HM
  have HKh := Lib.hid HK
  have hmh0 := Lib.hid hm2
  have hgh0 := Lib.hid hg2
  have hoh0 := Lib.hid ho2
  clear HM HK hm2 hg2 ho2
  apply wpS_seq
  apply wpS_seq
  apply wpS_region
  simp [wpOpsS, go_sem, recoverD, hu, Exit.thenS]
  refine wpS_of_wp ?_
  go_wp2_with fail
  simp only [Exit.thenS]
  refine wpS_of_wp ?_
  go_wp2_with fail
  have hgp := hgh0.out.2
  have hmg : bm ≠ bg := fun e => by
    have h1 := hmh0.out.1
    rw [e, hgh0.out.1] at h1
    injection h1 with h1
    injection h1 with _ h2
    cases h2
  have hog : bo ≠ bg := fun e => by
    have h1 := hoh0.out.1
    rw [e, hgh0.out.1] at h1
    injection h1 with h1
    injection h1 with _ h2
    cases h2
  have HM1 := HMh0.out.setO hgp hB1 0 (.int .i64 0)
  have hm1 := hmh0.out.setO hmg hgp 0 (.int .i64 0)
  have ho1 := hoh0.out.setO hog hgp 0 (.int .i64 0)
  have hg1 := heap_setCell (i := 0) hgh0.out.1 (.int .i64 0)
  have hb1 : Below B w (W0.setCell ⟨bg, 0, none⟩ (.int .i64 0)) := Below.setCell HKh.out.below (by show B ≤ bg; exact hB1) _
  have HMh := Lib.hid (HM1.ext ((Ext.refl _).alloc (.cells #[.pointer (some ⟨p, 0, none⟩)] 92)))
  have hmh := Lib.hid (hm1.alloc (.cells #[.pointer (some ⟨p, 0, none⟩)] 92) HM1.lt)
  have hoh := Lib.hid (ho1.alloc (.cells #[.pointer (some ⟨p, 0, none⟩)] 92) HM1.lt)
  have hgh := Lib.hid ((Below.block ((Ext.refl _).alloc (.cells #[.pointer (some ⟨p, 0, none⟩)] 92)) bg (Array.getElem?_eq_some_iff.1 hg1).1).trans hg1)
  have hbel := Lib.hid (Below.alloc hb1 (by have := HM1.ge; have := HM1.lt; omega) (.cells #[.pointer (some ⟨p, 0, none⟩)] 92))
  clear hX hq0 cm0 hqa cma fga cg0 fgb cgb fgb' cgb' HMh0 hmh0 hgh0 hoh0 HKh HM1 hm1 ho1 hg1 hb1 hgp W0lt
  generalize (World.alloc (W0.setCell ⟨bg, 0, none⟩ (.int .i64 0)) (.cells #[.pointer (some ⟨p, 0, none⟩)] 92)) = W at *
  have hq := cell_of_heap HMh.out.heap
  have cm2 := hmh.out.cells
  have hI : Ints W vL L := IntRow.ints HMh.out.rowL
  obtain ⟨Al, cl, rfl, q1, q2⟩ := hI.slice
  have hIh := Lib.hid hI
  obtain ⟨Ac, cc, rfl, -, -, -⟩ := vals_row HMh.out.rowC
  obtain ⟨An, cn, rfl, -, -, -⟩ := vals_row HMh.out.rowN
  have hlen := HMh.out.locN
  have hplt := HMh.out.lt
  have hmlt := hmh.out.lt
  clear hI
  have hpo : p ≠ bo := fun e => hoh.out.2 (.inl e.symm)
  have hmo : bm ≠ bo := fun e => by
    have h1 := hmh.out.1
    rw [e, hoh.out.1] at h1
    injection h1 with h1
    injection h1 with _ h2
    cases h2
  have hlo : (Value.slice Al L.length cl).ownBlock ≠ some bo := row_not HMh.out.rowL hoh.out.1 (by decide)
  have hS : ∀ w', Near W bo 4 30 w' → ((∀ i, w'.cell? ⟨p, i, none⟩ = (#[.int .i64 0, vA, .slice Al L.length cl, .slice Ac S.acc.length cc, .slice An S.nts.length cn] : Array Value)[i]?) ∧ (∀ i, w'.cell? ⟨bm, i, none⟩ = (#[.pointer (some ⟨p, 0, none⟩)] : Array Value)[i]?) ∧ (∀ i, w'.cell? ⟨bo, i, none⟩ = (#[cellD w' bo 0, cellD w' bo 1, cellD w' bo 2, cellD w' bo 3] : Array Value)[i]?) ∧ (∀ i, w'.frozen? ⟨bo, i, none⟩ = false) ∧ Near W bo 4 30 w') := fun w' hx =>
    ⟨fun i => (hx.cell hplt hpo).trans (hq i), fun i => (hx.cell hmlt hmo).trans (cm2 i), hx.four, hx.frozen, hx⟩
  have hN : Near W bo 4 30 W := Near.new hoh.out.1 rfl
  go_region_held2 (fun w' => (∀ i, w'.cell? ⟨p, i, none⟩ = (#[.int .i64 0, vA, .slice Al L.length cl, .slice Ac S.acc.length cc, .slice An S.nts.length cn] : Array Value)[i]?) ∧ (∀ i, w'.cell? ⟨bm, i, none⟩ = (#[.pointer (some ⟨p, 0, none⟩)] : Array Value)[i]?) ∧ (∀ i, w'.cell? ⟨bo, i, none⟩ = (#[cellD w' bo 0, cellD w' bo 1, cellD w' bo 2, cellD w' bo 3] : Array Value)[i]?) ∧ (∀ i, w'.frozen? ⟨bo, i, none⟩ = false) ∧ Near W bo 4 30 w') (first | exact hS _ hN.drew | (refine hS _ ?_; (repeat refine Near.set ?_ _ _); exact hN.drew.ext h2))
    (first
      | (go_at_call 87
         refine (tshort_p Al cl L _ (hIh.out.ext (Ext.refl W).drew) q1 q2 (by omega)).mono ?_
         rintro e w' ⟨v', rfl, h1, h2⟩
         obtain ⟨As, cs, rfl, hs1, hs2⟩ := h1.ints.slice))
  obtain ⟨f1, f2⟩ := end_out (d := false) HMh.out hoh.out.1 ((Ext.refl W).drew.trans h2) h1
  have fg : bg ≠ bo := fun e => by
    have h1 := hgh.out
    rw [e, hoh.out.1] at h1
    injection h1 with h1
    injection h1 with _ h2
    cases h2
  refine ⟨rfl, FrameMode.panicking ({ v := .iface 92 (.agg #[.pointer (some ⟨p, 0, none⟩)]), recovered := true } :: older), (by cases c₀; simp only at hu; subst hu; rfl), .tuple #[], (by simp [results, Tryz.results86, go_sem]), rfl, rfl, ?_, ⟨_, _, _, f1, f2⟩, ?_⟩
  · rw [heap_setCell_ne _ _ fg, heap_setCell_ne _ _ fg, heap_setCell_ne _ _ fg, heap_setCell_ne _ _ fg]
    exact (Below.block ((Ext.refl W).drew.trans h2) bg (Array.getElem?_eq_some_iff.1 hgh.out).1).trans hgh.out
  · exact ((((hN.drew.ext h2).set _ _).set _ _).set _ _ |>.set _ _).below hbel.out hB2 (by have := HMh.out.ge; omega)
end Go.Proofs.YtbaajjkopdjbgaaGreat
/-
  Playing an operation whose result is an error's number.
-/
namespace Go.Proofs.YtbaajjkopdjbgaaGreat
open Go.RowKit Kv
set_option maxRecDepth 100000 in
set_option maxHeartbeats 1000000 in
theorem play_err (f : FuncId) (cap : Array Value) (T : Prog Int) (Al : Option Addr) (cl : Nat) (L : List Int) (Aa : Option Addr) (ca : Nat) (ans : List Int) (w : World) (h : Ints w (.slice Al L.length cl) L) (hl : L.length ≤ 32768) (ha : Ints w (.slice Aa ans.length ca) ans) (hn : ans.length ≤ maxAns)
    (hb : ∀ b, (Value.slice Aa ans.length ca).ownBlock = some b → b < w.heap.size)
    (hcf : ∀ (args : Array Value) (w : World), (callFunc f args).run Tryz.prog w = .ok (.enter f args) w)
    (hdo : ∀ w1 p, Ext w w1 → Plays w.heap.size w1 p (TS0 L ans) → Calls Tryz.prog f (#[.pointer (some ⟨p, 0, none⟩)] ++ cap) w1 (Post encI w.heap.size p w1 (T.run (TS0 L ans)))) :
    Calls Tryz.prog 13 #[.func (.func f) #[] cap, .slice Al L.length cl, .slice Aa ans.length ca] w fun e w' => ∃ v, e = .returned (.tuple #[.int .i64 ((T.run (TS0 L ans)).1.getD 0), v]) ∧ Outs w' v (T.run (TS0 L ans)).1.isSome (T.run (TS0 L ans)).2 ∧ Ext w w' := by
  obtain ⟨q1, q2⟩ : L.length ≤ cl ∧ cl ≤ 9223372036854775807 := by
    obtain ⟨A', c', he, q1, q2, _⟩ := h
    injection he with e1 e2 e3
    subst e3
    exact ⟨q1, q2⟩
  generalize hR : (fun e w' => ∃ v, e = Ending.returned (.tuple #[.int .i64 ((T.run (TS0 L ans)).1.getD 0), v]) ∧ Outs w' v (T.run (TS0 L ans)).1.isSome (T.run (TS0 L ans)).2 ∧ Ext w w') = R
  have hfin : ∀ v w', Outs w' v (T.run (TS0 L ans)).1.isSome (T.run (TS0 L ans)).2 → Ext w w' → R (.returned (.tuple #[.int .i64 ((T.run (TS0 L ans)).1.getD 0), v])) w' := fun v w' h1 h2 => hR ▸ ⟨v, rfl, h1, h2⟩
  clear hR
  have hmf : ∀ (fn : Fn) (first cap : Array Value) (w : World), (Instr.makeFunc fn first cap).run Tryz.prog w = .ok (.func fn first cap) w := fun _ _ _ _ => rfl
  go_enter_defers Tryz.func13, Tryz.ntmps13
  go_wp2_with fail
  obtain ⟨hx, g1, g2, g3, g4⟩ := four_boxes w (.cells #[.int .i64 0] 26) (.cells #[.bool false, .slice none 0 0, .slice none 0 0, .slice none 0 0] 30) (.cells #[.int .i64 1, .slice Aa ans.length ca, .slice none 0 0, .slice none 0 0, .slice none 0 0] 90) (.cells #[.pointer (some ⟨w.heap.size + 1 + 1, 0, none⟩)] 33)
  generalize hW : World.alloc (World.alloc (World.alloc (World.alloc w _) _) _) _ = W at *
  clear hW
  have hI := h.ext hx
  have cm := cell_of_heap g4
  have hN : Near W (w.heap.size + 1 + 1) 5 90 W := Near.new g3 rfl
  have hmlt := (Array.getElem?_eq_some_iff.1 g4).1
  have hmin : min (L.length : Int) 32768 = (L.length : Int) := by omega
  have hS : ∀ w', Near W (w.heap.size + 1 + 1) 5 90 w' → ((∀ i, w'.cell? ⟨w.heap.size + 1 + 1 + 1, i, none⟩ = (#[.pointer (some ⟨w.heap.size + 1 + 1, 0, none⟩)] : Array Value)[i]?) ∧ (∀ i, w'.cell? ⟨w.heap.size + 1 + 1, i, none⟩ = (#[cellD w' (w.heap.size + 1 + 1) 0, cellD w' (w.heap.size + 1 + 1) 1, cellD w' (w.heap.size + 1 + 1) 2, cellD w' (w.heap.size + 1 + 1) 3, cellD w' (w.heap.size + 1 + 1) 4] : Array Value)[i]?) ∧ (∀ i, w'.frozen? ⟨w.heap.size + 1 + 1, i, none⟩ = false)) := fun w' hx =>
    ⟨fun i => (hx.cell hmlt (by omega)).trans (cm i), hx.five, hx.frozen⟩
  go_region_held3 (fun w' => (∀ i, w'.cell? ⟨w.heap.size + 1 + 1 + 1, i, none⟩ = (#[.pointer (some ⟨w.heap.size + 1 + 1, 0, none⟩)] : Array Value)[i]?) ∧ (∀ i, w'.cell? ⟨w.heap.size + 1 + 1, i, none⟩ = (#[cellD w' (w.heap.size + 1 + 1) 0, cellD w' (w.heap.size + 1 + 1) 1, cellD w' (w.heap.size + 1 + 1) 2, cellD w' (w.heap.size + 1 + 1) 3, cellD w' (w.heap.size + 1 + 1) 4] : Array Value)[i]?) ∧ (∀ i, w'.frozen? ⟨w.heap.size + 1 + 1, i, none⟩ = false)) (first | exact hS _ hN.drew | (refine hS _ ?_; (repeat refine Near.set ?_ _ _); exact hN.drew.ext h2))
    (first
      | (go_at_call 85
         refine (clone_any Al cl L _ (hI.ext (Ext.refl W).drew) (by omega)).mono ?_
         rintro e w' ⟨v', rfl, h1, h2⟩
         obtain ⟨As, cs, rfl, hs1, hs2⟩ := h1.ints.slice))
  obtain ⟨hP, hH, hE⟩ := play_start (p := w.heap.size + 1 + 1) hx (by omega) g3 ((Ext.refl W).drew.trans h2) h1 hl ha hn hb
  have hbg := hH _ _ g1 (by omega)
  have hbo := hH _ _ g2 (by omega)
  have hbm := hH _ _ g4 (by omega)
  clear hH g1 g2 g3 g4 hS hN h1 h2 hI cm hmin hmlt
  rename_i hh
  clear hh
  have hT := hdo _ _ hE hP
  clear hdo
  generalize World.setCell _ _ _ = W2 at *
  have cbm := hbm.cells
  have hnf : (binOp .neq 35 (.func (.func f) #[] cap) .nilFunc).run Tryz.prog W2 = .ok (.bool true) W2 := by kernel_rfl
  go_wp2_with fail
  generalize hr : T.run (TS0 L ans) = r at hT hfin
  obtain ⟨o, S⟩ := r
  clear hr
  cases o with
  | some a =>
    refine hT.mono ?_
    rintro e w3 ⟨rfl, hP3, hK3⟩
    have hbg3 := hbg.keep hK3
    have hbo3 := hbo.keep hK3
    have hbm3 := hbm.keep hK3
    have hE3 : Ext w w3 := Below.trans hE hK3.below
    clear hbg hbo hbm hE hK3 hT hP cbm hnf
    have cbg := hbg3.cells
    have fbg := frozen_of_heap hbg3.1
    have cbo := hbo3.cells
    have fbo := frozen_of_heap hbo3.1
    go_wp2_with fail
    have fgo : w.heap.size ≠ w.heap.size + 1 := by omega
    have hg4 := heap_setCell (i := 0) hbg3.1 (.int .i64 a)
    have hP4 : Plays w.heap.size (w3.setCell ⟨w.heap.size, 0, none⟩ (.int .i64 a)) (w.heap.size + 1 + 1) S := by
      obtain ⟨q, vA, vL, vC, vN, L', hM⟩ := hP3
      exact ⟨q, vA, vL, vC, vN, L', hM.setO hbg3.2 (Nat.le_refl _) _ _⟩
    have hbm4 := hbm3.setO (b := w.heap.size) (by omega) hbg3.2 0 (.int .i64 a)
    have hbo4 := hbo3.setO (b := w.heap.size) (by omega) hbg3.2 0 (.int .i64 a)
    have hbg4 : HeldP (w3.setCell ⟨w.heap.size, 0, none⟩ (.int .i64 a)) (w.heap.size + 1 + 1) w.heap.size (.cells #[.int .i64 a] 26 (0, 0)) := ⟨hg4, fun h' => hbg3.2 ((ownR_same (heap_setCell_ne _ _ (by omega)) _).1 h')⟩
    have hE4 : Ext w (w3.setCell ⟨w.heap.size, 0, none⟩ (.int .i64 a)) := hE3.setCell (Nat.le_refl _) _
    clear hP3 hbg3 hbo3 hbm3 hE3 cbg fbg cbo fbo hg4
    generalize World.setCell _ _ _ = w4 at *
    generalize hbq : w.heap.size + 1 = bo at hbm4 hbo4 hP4 ⊢
    have fgo1 : w.heap.size ≠ bo := by omega
    have fgo2 : bo ≠ w.heap.size := by omega
    clear fgo
    have cbg := hbg4.cells
    have fbg := frozen_of_heap hbg4.1
    have cbo := hbo4.cells
    have fbo := frozen_of_heap hbo4.1
    go_region
    all_goals
      generalize hW5 : World.drew _ = W5
      have hsm : SameW w4 W5 := by
        rw [← hW5]
        repeat first | with_reducible exact SameW.refl _ | with_reducible refine SameW.drew2 ?_ | refine SameW.set ?_ hbg4.1 rfl | refine SameW.set ?_ hbo4.1 rfl
      clear hW5 cbg fbg cbo fbo
      have hP5 := hP4.ext hsm.ext
      have hbm5 := hbm4.ext hsm.ext hP4.lt
      have hbg5 := hbg4.ext hsm.ext (by rw [hbq]; exact hP4.lt)
      have hbo5 := hbo4.ext hsm.ext hP4.lt
      have hE5 : Ext w W5 := hE4.trans hsm.ext
      clear hP4 hbm4 hbg4 hbo4 hE4 hsm
      go_wp2_with fail
      refine leaves_cons (f := 86) (args := #[.pointer (some ⟨bo + 1 + 1, 0, none⟩), .pointer (some ⟨w.heap.size, 0, none⟩), .pointer (some ⟨bo, 0, none⟩)]) (by simp) (by simp [go_sem]) ?_
      refine (end_okE w.heap.size _ S _ _ _ _ _ hP5 hbm5 (by rw [← hbq]; exact hbg5) hbo5 (by omega)).mono ?_
      rintro e u' w4 ⟨rfl, rfl, hg, ⟨vC, vN, vs, ho, hO⟩, hB⟩
      have cg := cell_of_heap hg
      have co := cell_of_heap ho
      have cg0 := cg 0
      have co0 := co 0
      have co1 := co 1
      have co2 := co 2
      have co3 := co 3
      refine ⟨.tuple #[.int .i64 a, .agg #[.bool true, vC, vN, vs]], ?_, hfin _ _ hO (Below.trans hE5 hB)⟩
      simp [results, Tryz.results13, go_sem, cg0, co0, co1, co2, co3]
  | none =>
    refine hT.mono ?_
    rintro e w3 ⟨rfl, hP3, hK3⟩
    have hbg3 := hbg.keep hK3
    have hbo3 := hbo.keep hK3
    have hbm3 := hbm.keep hK3
    have hE3 : Ext w w3 := Below.trans hE hK3.below
    clear hbg hbo hbm hE hK3 hT hP cbm hnf
    refine leaves_cons (f := 86) (args := #[.pointer (some ⟨w.heap.size + 1 + 1 + 1, 0, none⟩), .pointer (some ⟨w.heap.size, 0, none⟩), .pointer (some ⟨w.heap.size + 1, 0, none⟩)]) (by simp) (by simp [go_sem]) ?_
    refine (end_stopE w.heap.size _ S _ _ _ _ [] _ hP3 hbm3 hbg3 hbo3 (Nat.le_refl _) (by omega)).mono ?_
    rintro e u' w4 ⟨rfl, rfl, hg, ⟨vC, vN, vs, ho, hO⟩, hB⟩
    have cg := cell_of_heap hg
    have co := cell_of_heap ho
    have cg0 := cg 0
    have co0 := co 0
    have co1 := co 1
    have co2 := co 2
    have co3 := co 3
    refine ⟨.tuple #[.int .i64 0, .agg #[.bool false, vC, vN, vs]], ?_, hfin _ _ hO (Below.trans hE3 hB)⟩
    simp [results, Tryz.results13, go_sem, cg0, co0, co1, co2, co3]
    trace_state
end Go.Proofs.YtbaajjkopdjbgaaGreat
/-
  Accesses, notes and wants compared.
-/
namespace Go.Proofs.YtbaajjkopdjbgaaGreat
open Go.RowKit Kv
theorem eqIn_acc (a b c a' b' c' : Int) (w : World) : (Op.equalIn 10000 112 (.agg #[.int .i64 a, .int .i64 b, .int .i64 c]) (.agg #[.int .i64 a', .int .i64 b', .int .i64 c'])).run Tryz.prog w = .ok (decide (a = a' ∧ b = b' ∧ c = c')) w := by
  rw [run_equalIn_struct w 9999 112 _ _ (by kernel_rfl) (by kernel_rfl)]
  have hu : Tryz.prog.underlying 3 = some (.int .i64) := Tryz.underlying3
  simp only [Program.fieldsOf, Tryz.underlying112, Op.eqFields]
  simp [go_sem, run_equalIn_int, hu]
  by_cases h0 : a = a' <;> by_cases h1 : b = b' <;> by_cases h2 : c = c' <;> simp [h0, h1, h2]
@[go_sem] theorem eql_acc (a b c a' b' c' : Int) (w : World) : (binOp .eql 112 (.agg #[.int .i64 a, .int .i64 b, .int .i64 c]) (.agg #[.int .i64 a', .int .i64 b', .int .i64 c'])).run Tryz.prog w = .ok (.bool (decide (a = a' ∧ b = b' ∧ c = c'))) w := by
  rw [run_eql_struct, eqIn_acc]; rfl
@[go_sem] theorem neq_acc (a b c a' b' c' : Int) (w : World) : (binOp .neq 112 (.agg #[.int .i64 a, .int .i64 b, .int .i64 c]) (.agg #[.int .i64 a', .int .i64 b', .int .i64 c'])).run Tryz.prog w = .ok (.bool (!decide (a = a' ∧ b = b' ∧ c = c'))) w := by
  rw [run_neq_struct, eqIn_acc]; rfl
theorem eqIn_nt (a b a' b' : Int) (w : World) : (Op.equalIn 10000 114 (.agg #[.int .i64 a, .int .i64 b]) (.agg #[.int .i64 a', .int .i64 b'])).run Tryz.prog w = .ok (decide (a = a' ∧ b = b')) w := by
  rw [run_equalIn_struct w 9999 114 _ _ (by kernel_rfl) (by kernel_rfl)]
  have hu : Tryz.prog.underlying 3 = some (.int .i64) := Tryz.underlying3
  simp only [Program.fieldsOf, Tryz.underlying114, Op.eqFields]
  simp [go_sem, run_equalIn_int, hu]
  by_cases h0 : a = a' <;> by_cases h1 : b = b' <;> simp [h0, h1]
@[go_sem] theorem eql_nt (a b a' b' : Int) (w : World) : (binOp .eql 114 (.agg #[.int .i64 a, .int .i64 b]) (.agg #[.int .i64 a', .int .i64 b'])).run Tryz.prog w = .ok (.bool (decide (a = a' ∧ b = b'))) w := by
  rw [run_eql_struct, eqIn_nt]; rfl
@[go_sem] theorem neq_nt (a b a' b' : Int) (w : World) : (binOp .neq 114 (.agg #[.int .i64 a, .int .i64 b]) (.agg #[.int .i64 a', .int .i64 b'])).run Tryz.prog w = .ok (.bool (!decide (a = a' ∧ b = b'))) w := by
  rw [run_neq_struct, eqIn_nt]; rfl
theorem eqIn_want (a b a' b' : Int) (w : World) : (Op.equalIn 10000 179 (.agg #[.int .i64 a, .int .i64 b]) (.agg #[.int .i64 a', .int .i64 b'])).run Tryz.prog w = .ok (decide (a = a' ∧ b = b')) w := by
  rw [run_equalIn_struct w 9999 179 _ _ (by kernel_rfl) (by kernel_rfl)]
  have hu : Tryz.prog.underlying 3 = some (.int .i64) := Tryz.underlying3
  simp only [Program.fieldsOf, Tryz.underlying179, Op.eqFields]
  simp [go_sem, run_equalIn_int, hu]
  by_cases h0 : a = a' <;> by_cases h1 : b = b' <;> simp [h0, h1]
@[go_sem] theorem eql_want (a b a' b' : Int) (w : World) : (binOp .eql 179 (.agg #[.int .i64 a, .int .i64 b]) (.agg #[.int .i64 a', .int .i64 b'])).run Tryz.prog w = .ok (.bool (decide (a = a' ∧ b = b'))) w := by
  rw [run_eql_struct, eqIn_want]; rfl
@[go_sem] theorem neq_want (a b a' b' : Int) (w : World) : (binOp .neq 179 (.agg #[.int .i64 a, .int .i64 b]) (.agg #[.int .i64 a', .int .i64 b'])).run Tryz.prog w = .ok (.bool (!decide (a = a' ∧ b = b'))) w := by
  rw [run_neq_struct, eqIn_want]; rfl
end Go.Proofs.YtbaajjkopdjbgaaGreat
