/-
  How many cells a register of the program has.
-/
import Derived.Test.YtpcohbpeglledaaJB3
import Derived.ProofKit
import Derived.OpenShut
import Derived.Deep.DeepHandedRow
import Derived.WideKeyArgs
import Derived.Carry
import Derived.ChangeSame
import Derived.Lib.SmallJoins
import Derived.Test.YtpcohbpeglledaaRows
/-
  How many cells a register of the program has.
-/
namespace Go.Proofs.Ytpcohbpeglledaa
open Go.RowKit Kv
theorem info_strip : (Try.prog.info? 92).map (fun i => (i.zero, i.size, i.bytes)) = some (some (.agg #[.int .i64 0, .int .i64 0, .int .i64 0]), 3, 24) := by kernel_rfl
/-- Records appended, out of a row that can be read, to a row of the call's own. -/
theorem append_recs {ops : Array Oper} {rest : List Oper} {o : Oper} {a : Act} {Q : Exit → Act → World → Prop} {w0 w : World} {e t : TypeId} {z : Value} {size bytes : Nat}
    (hinfo : (Try.prog.info? e).map (fun i => (i.zero, i.size, i.bytes)) = some (some z, size, bytes)) (hund : Try.prog.underlying t = some (.slice e)) (hzs : z.cells.size = size) (hsz : 0 < size) (hby : bytes ≤ 100)
    (hgd : o.guard = none) (s x : Operand) (ho : o.op = .call { callee := .builtin .append, args := #[s, x], argTypes := #[t, t] })
    (v : Value) (n : Nat) (xs news : List Value) (ad : Addr) (m c : Nat) (hX : Ext w0 w) (hown : w.ownsRow w0.heap.size e size v n xs) (hs : a.eval s = v) (hx : a.eval x = .slice (some ad) m c)
    (hnl : news.length = m * size) (hnews : ∀ j u, news[j]? = some u → w.cell? (ad.add j) = some u) (h1 : ∀ u ∈ news, u.oneCell' = true) (hlen : n < 1000000000) (hm : m < 1000000000)
    (h : ∀ v' w', w'.ownsRow w0.heap.size e size v' (n + m) (xs ++ news) → Ext w0 w' → wpList Try.prog ops Q rest (a.put o.dst v') w') :
    wpList Try.prog ops Q (o :: rest) a w := by
  obtain ⟨i0, hi, hz0, hz1, hz2⟩ := info_parts hinfo
  refine wpList_append_own_at _ hgd s x t ho w0.heap.size e i0 z size bytes hund hi hz0 hz1 hz2 hzs hsz v n xs hs hown ad m c news hx hnl hnews h1 (by unfold maxLen; omega) ?_ hX.size fun v' w' h2 h3 _ _ => ?_
  · have : (n + m) * bytes ≤ (n + m) * 100 := Nat.mul_le_mul_left _ hby
    omega
  · refine h v' w' h2 (Below.grown hX h3 hX.size fun k hk => ?_)
    rcases hown.2 with ⟨rfl, _⟩ | ⟨g, cap, cur, rfl, hgb, _⟩
    · simp [Value.ownBlock] at hk
    · simp [Value.ownBlock] at hk
      omega
/-- A row that was just laid. -/
theorem row_new (w : World) (xs : List Value) (e size n : Nat) (h : xs.length = n * size) (hn : n ≤ 1000000) : (w.alloc (.cells xs.toArray e)).ownsRow w.heap.size e size (.slice (some ⟨w.heap.size, 0, none⟩) n n) n xs :=
  ⟨h, .inr ⟨w.heap.size, n, xs.toArray, rfl, Nat.le_refl _, heap_alloc_new _ _, Nat.le_refl _, by unfold maxLen; omega, by simpa using h, by simp [← h]⟩⟩
@[go_sem] theorem build_strip (a b c : Int) (w : World) : (Instr.build 92 #[(0, .int .i64 a), (1, .int .i64 b), (2, .int .i64 c)]).run Try.prog w = .ok (.agg #[.int .i64 a, .int .i64 b, .int .i64 c]) w := run_build w 92 _ _ (by kernel_rfl)
theorem trstrips_p (w : World) : Calls Try.prog 119 #[] w fun e w' => e = .returned (.slice (some ⟨w.heap.size, 0, none⟩) 1 1) ∧ w.alloc (.cells #[.int .i64 3, .int .i64 1, .int .i64 1] 92) = w' := by
  go_enter Try.func119, Try.ntmps119
  go_wp2_with fail
  go_ret
  exact ⟨rfl, rfl⟩
def sixVals : List Value := [.int .i64 4, .int .i64 1, .int .i64 1099511627776, .int .i64 12, .int .i64 1, .int .i64 1]
def pairVals (m : Nat) : List Value := (List.replicate m ()).flatMap fun _ => sixVals
theorem pairVals_succ (m : Nat) : pairVals (m + 1) = pairVals m ++ sixVals := by unfold pairVals; rw [List.replicate_succ', List.flatMap_append]; rfl
theorem pairVals_add (m k : Nat) : pairVals (m + k) = pairVals m ++ pairVals k := by unfold pairVals; rw [← List.flatMap_append, List.replicate_append_replicate]
theorem pairVals_len (m : Nat) : (pairVals m).length = 6 * m := by unfold pairVals; rw [flat_len _ 6 (fun _ => rfl), List.length_replicate]
theorem pairVals_one (m : Nat) : ∀ u ∈ pairVals m, u.oneCell' = true := by
  intro u hu
  unfold pairVals at hu
  simp only [List.mem_flatMap, sixVals, List.mem_cons, List.not_mem_nil, or_false] at hu
  obtain ⟨_, _, h⟩ := hu
  rcases h with rfl | rfl | rfl | rfl | rfl | rfl <;> rfl
theorem pair_at (m i : Nat) (h : i < 2 * m) : (pairVals m)[i * 3]? = some (.int .i64 (if i % 2 = 0 then 4 else 12)) ∧ (∃ x, (pairVals m)[i * 3 + 1]? = some (.int .i64 x)) ∧ ∃ x, (pairVals m)[i * 3 + 2]? = some (.int .i64 x) := by
  have f := fun j hj => flat_at (fun _ : Unit => sixVals) 6 (fun _ => rfl) (List.replicate m ()) (i / 2) j () (by rw [List.getElem?_replicate, if_pos (by omega)]) hj
  rcases Nat.mod_two_eq_zero_or_one i with e | e
  · rw [if_pos e]
    have e0 : i * 3 = 6 * (i / 2) + 0 := by omega
    rw [e0]
    exact ⟨f 0 (by omega), ⟨_, f 1 (by omega)⟩, ⟨_, f 2 (by omega)⟩⟩
  · rw [if_neg (by omega)]
    have e0 : i * 3 = 6 * (i / 2) + 3 := by omega
    rw [e0]
    exact ⟨f 3 (by omega), ⟨_, f 4 (by omega)⟩, ⟨_, f 5 (by omega)⟩⟩
set_option maxRecDepth 100000 in
theorem sstrips_p (w : World) : Calls Try.prog 120 #[] w fun e w' => ∃ v, e = .returned v ∧ w'.ownsRow w.heap.size 92 3 v 2 sixVals ∧ Ext w w' := by
  have hr := row_new w [.int .i64 4, .int .i64 1, .int .i64 1099511627776] 92 3 1 rfl (by omega)
  have hX := (Ext.refl w).alloc (.cells [.int .i64 4, .int .i64 1, .int .i64 1099511627776].toArray 92)
  go_enter Try.func120, Try.ntmps120
  go_wp2_with fail
  generalize w.alloc _ = W at *
  refine (trstrips_p _).mono ?_
  rintro e w' ⟨rfl, rfl⟩
  have g1 := Blk.new W (.cells #[.int .i64 3, .int .i64 1, .int .i64 1] 92)
  have x1 := (Ext.refl W).alloc (.cells #[.int .i64 3, .int .i64 1, .int .i64 1] 92)
  replace hr := row_ext hr x1
  replace hX := hX.trans x1
  generalize W.alloc _ = W1 at *
  go_wp2_with fail
  go_loopw [1, 8] (fun v i wr => ∃ j : Nat, i = .int .i64 j ∧ j ≤ 1 ∧ (j = 0 → Blk wr W.heap.size (.cells #[.int .i64 3, .int .i64 1, .int .i64 1] 92)) ∧ Ext w wr ∧ wr.ownsRow w.heap.size 92 3 v (1 + j) (sixVals.take (3 + 3 * j))) (fun _ i _ => 1 - (intOf i).toNat)
  case atStart => exact ⟨0, rfl, by omega, fun _ => g1, hX, hr⟩
  case round =>
    obtain ⟨j, rfl, hj, hx, hX2, hown⟩ := hrel
    clear hr hX
    by_cases hl : j < 1
    · obtain rfl : j = 0 := by omega
      have g2 := hx rfl
      clear hx
      have c_g := g2.cells
      have g3 := Blk.new wr (.cells #[.int .i64 3, .int .i64 1, .int .i64 1] 92)
      have h12 : Ext w ((wr.alloc (.cells #[.int .i64 12, .int .i64 1, .int .i64 1] 92))) := hX2.alloc _
      have ho12 : ((wr.alloc (.cells #[.int .i64 12, .int .i64 1, .int .i64 1] 92))).ownsRow w.heap.size 92 3 u1 1 [.int .i64 4, .int .i64 1, .int .i64 1099511627776] := World.ownsRow.alloc hown _
      clear hown
      go_wp2_with (at_builtin; refine append_rec info_strip Try.underlying89 rfl (by decide) (by decide) rfl _ _ rfl _ 1 _ [.int .i64 12, .int .i64 1, .int .i64 1] h12 ho12 rfl (by simp [Act.eval, World.size_alloc]) rfl (by simp [Value.oneCell']) (by omega) ?_)
      intro v' w' ho hx' _
      have hoh := Lib.hid ho
      clear ho ho12 h12 c_g g2 g3
      go_wp2_with fail
      refine ⟨⟨1, by go_num, by omega, fun h => by omega, hx', hoh.out⟩, ?_⟩
      simp [intOf]
    · obtain rfl : j = 1 := by omega
      have hownh := Lib.hid hown
      clear hown
      go_wp2_with fail
      go_ret
      exact ⟨_, rfl, hownh.out, hX2⟩
set_option maxRecDepth 100000 in
theorem tstrips_p (n : Int) (w : World) (h1 : 1 ≤ n) (h2 : n ≤ 8) : Calls Try.prog 121 #[.int .i64 n] w fun e w' => ∃ v, e = .returned v ∧ w'.ownsRow w.heap.size 92 3 v (2 * ((n - 1).toNat * (n - 1).toNat)) (pairVals ((n - 1).toNat * (n - 1).toNat)) ∧ Ext w w' := by
  obtain ⟨k, rfl⟩ : ∃ k : Nat, n = (k : Int) + 1 := ⟨(n - 1).toNat, by omega⟩
  have hk : k * k ≤ 49 := Nat.mul_le_mul (show k ≤ 7 by omega) (show k ≤ 7 by omega)
  have hkk : (k : Int) * (k : Int) = ((k * k : Nat) : Int) := by simp
  rw [show ((k : Int) + 1 - 1).toNat = k by omega]
  generalize hm : k * k = m at *
  clear hm
  go_enter Try.func121, Try.ntmps121
  go_wp2_with fail
  refine (threads_p ((k : Int) + 1) _ h1 h2).mono ?_
  rintro e w' ⟨rfl, rfl⟩
  go_wp2_with fail
  go_loopw [4, 11] (fun v i wr => ∃ j : Nat, i = .int .i64 j ∧ j ≤ m ∧ wr.ownsRow w.heap.size 92 3 v (2 * j) (pairVals j) ∧ Ext w wr) (fun _ i _ => m - (intOf i).toNat)
  case atStart => exact ⟨0, rfl, by omega, World.ownsRow_nil _ _ _ _, Ext.refl _⟩
  case round =>
    obtain ⟨j, rfl, hj, hown, hX⟩ := hrel
    by_cases hl : j < m
    · go_wp2_with fail
      refine (sstrips_p _).mono ?_
      rintro e w2 ⟨v2, rfl, hr2, hx2⟩
      obtain ⟨A, c, rfl, r1, r2, hV⟩ := Recs.of_row hr2
      obtain ⟨b, rfl, hb, hc⟩ := hV (by simp [sixVals])
      replace hown := row_ext hown hx2
      replace hX := hX.trans hx2
      clear hr2 hV hx2
      go_wp2_with (at_builtin; refine append_recs info_strip Try.underlying89 rfl (by decide) (by decide) rfl _ _ rfl _ (2 * j) _ sixVals ⟨b, 0, none⟩ 2 c hX hown rfl rfl rfl (fun i u hu => by rw [Addr.add_lit, Nat.zero_add]; exact hc i u hu) (fun u hu => pairVals_one 1 u (by simpa [pairVals] using hu)) (by omega) (by omega) ?_)
      intro v' w' ho hx'
      have hoh := Lib.hid ho
      clear hown ho hc
      go_wp2_with fail
      refine ⟨⟨j + 1, by go_num, by omega, by rw [pairVals_succ]; exact hoh.out, hx'⟩, ?_⟩
      simp [intOf]; omega
    · obtain rfl : j = m := by omega
      have hownh := Lib.hid hown
      clear hown
      go_wp2_with fail
      go_ret
      exact ⟨_, rfl, hownh.out, hX⟩
set_option maxRecDepth 100000 in
theorem mstrips_p (n : Int) (w : World) (h1 : 2 ≤ n) (h2 : n ≤ 8) (ht : Calls Try.prog 108 #[.int .i64 n] w fun e w' => e = .returned (.int .i64 n) ∧ w = w') : Calls Try.prog 122 #[.int .i64 n] w fun e w' => ∃ v, e = .returned v ∧ w'.ownsRow w.heap.size 92 3 v (2 * (n.toNat * ((n - 1).toNat * (n - 1).toNat))) (pairVals (n.toNat * ((n - 1).toNat * (n - 1).toNat))) ∧ Ext w w' := by
  have hT := fun w => tstrips_p n w (by omega) h2
  have hm1 : 1 ≤ (n - 1).toNat * (n - 1).toNat := Nat.mul_pos (by omega) (by omega)
  have hk : (n - 1).toNat * (n - 1).toNat ≤ 49 := Nat.mul_le_mul (show (n - 1).toNat ≤ 7 by omega) (show (n - 1).toNat ≤ 7 by omega)
  generalize (n - 1).toNat * (n - 1).toNat = m at *
  obtain ⟨k, rfl⟩ : ∃ k : Nat, n = (k : Int) := ⟨n.toNat, by omega⟩
  rw [Int.toNat_natCast]
  go_enter Try.func122, Try.ntmps122
  go_wp2_with fail
  refine ht.mono ?_
  rintro e w' ⟨rfl, rfl⟩
  go_wp2_with fail
  go_loopw [3, 6] (fun v i wr => ∃ j : Nat, i = .int .i64 j ∧ j ≤ k ∧ wr.ownsRow w.heap.size 92 3 v (2 * (j * m)) (pairVals (j * m)) ∧ Ext w wr) (fun _ i _ => k - (intOf i).toNat)
  case atStart => exact ⟨0, rfl, by omega, by rw [Nat.zero_mul]; exact World.ownsRow_nil _ _ _ _, Ext.refl _⟩
  case round =>
    obtain ⟨j, rfl, hj, hown, hX⟩ := hrel
    by_cases hl : j < k
    · have hjm : j * m ≤ 8 * 49 := Nat.mul_le_mul (by omega) hk
      go_wp2_with fail
      refine (hT _).mono ?_
      rintro e w2 ⟨v2, rfl, hr2, hx2⟩
      obtain ⟨A, c, rfl, r1, r2, hV⟩ := Recs.of_row hr2
      replace hown := row_ext hown hx2
      replace hX := hX.trans hx2
      have hjs : (j + 1) * m = j * m + m := Nat.succ_mul j m
      obtain ⟨b, rfl, hb, hc⟩ := hV (fun e => by have := pairVals_len m; rw [e] at this; simp at this; omega)
      clear hr2 hV hx2
      go_wp2_with (at_builtin; refine append_recs info_strip Try.underlying89 rfl (by decide) (by decide) rfl _ _ rfl _ (2 * (j * m)) _ (pairVals m) ⟨b, 0, none⟩ (2 * m) c hX hown rfl rfl (by rw [pairVals_len]; omega) (fun i u hu => by rw [Addr.add_lit, Nat.zero_add]; exact hc i u hu) (pairVals_one m) (by omega) (by omega) ?_)
      intro v' w' ho hx'
      have hoh := Lib.hid ho
      clear hown ho hc
      go_wp2_with fail
      refine ⟨⟨j + 1, by go_num, by omega, ?_, hx'⟩, ?_⟩
      · rw [hjs, pairVals_add, Nat.mul_add]; exact hoh.out
      · simp [intOf]; omega
    · obtain rfl : j = k := by omega
      have hownh := Lib.hid hown
      clear hown
      go_wp2_with fail
      go_ret
      exact ⟨_, rfl, hownh.out, hX⟩
/-- The strips of a register: as a row, and what their cells add up to, one behind the other. -/
def StripsAre (w w' : World) (v : Value) (n : Nat) (f : Nat → Int) : Prop :=
  ∃ A c vals, v = .slice A n c ∧ n ≤ c ∧ c ≤ 9223372036854775807 ∧ Ext w w' ∧ ∀ i, i < n → ∃ b x y, A = some ⟨b, 0, none⟩ ∧ b < w'.heap.size ∧ vals = b ∧ w'.cell? ⟨b, i * 3, none⟩ = some (.int .i64 (f i)) ∧ w'.cell? ⟨b, i * 3 + 1, none⟩ = some (.int .i64 x) ∧ w'.cell? ⟨b, i * 3 + 2, none⟩ = some (.int .i64 y)
def pairF (i : Nat) : Int := if i % 2 = 0 then 4 else 12
theorem strips_pairs {w w' : World} {B : Nat} {v : Value} {m : Nat} (h : w'.ownsRow B 92 3 v (2 * m) (pairVals m)) (hx : Ext w w') : StripsAre w w' v (2 * m) pairF := by
  obtain ⟨A, c, rfl, r1, r2, hV⟩ := Recs.of_row h
  by_cases hm : m = 0
  · subst hm
    exact ⟨A, c, 0, rfl, r1, r2, hx, fun i hi => by omega⟩
  · obtain ⟨b, rfl, hb, hc⟩ := hV (fun e => by have := pairVals_len m; rw [e] at this; simp at this; omega)
    refine ⟨_, c, b, rfl, r1, r2, hx, fun i hi => ?_⟩
    obtain ⟨p0, ⟨x, p1⟩, ⟨y, p2⟩⟩ := pair_at m i hi
    exact ⟨b, x, y, rfl, hb, rfl, hc _ _ p0, hc _ _ p1, hc _ _ p2⟩
def manyF (r : Reg) : Nat := if r.kind = 1 then 1 else if r.kind = 6 then 2 * ((r.n - 1).toNat * (r.n - 1).toNat) else 2 * (r.n.toNat * ((r.n - 1).toNat * (r.n - 1).toNat))
def stripF (r : Reg) (i : Nat) : Int := if r.kind = 1 then 1 else pairF i
set_option maxRecDepth 100000 in
theorem rstrips_p (r : Reg) (w : World) (hk : r.kind = 1 ∨ r.kind = 6 ∨ (r.kind = 7 ∧ 2 ≤ r.n)) (hn : 1 ≤ r.n ∧ r.n ≤ 8) (ht : ∀ w, Calls Try.prog 108 #[.int .i64 r.n] w fun e w' => e = .returned (.int .i64 r.n) ∧ w = w') :
    Calls Try.prog 89 #[encR r] w fun e w' => ∃ v, e = .returned v ∧ StripsAre w w' v (manyF r) (stripF r) := by
  obtain ⟨kind, base, loc, n, wr, rd, top⟩ := r
  simp only at hk hn ht
  unfold encR
  simp only
  have hX := Ext.refl w
  have b1 := Blk.new w (.cells #[.int .i64 kind, .int .i64 base, .int .i64 loc, .int .i64 n, .int .i64 wr, .int .i64 rd, .int .i64 top] 41)
  replace hX := hX.alloc (.cells #[.int .i64 kind, .int .i64 base, .int .i64 loc, .int .i64 n, .int .i64 wr, .int .i64 rd, .int .i64 top] 41)
  have c_b1 := b1.cells
  rcases hk with rfl | rfl | ⟨rfl, h2⟩
  · go_enter Try.func89, Try.ntmps89
    go_wp2_with fail
    refine (clamp_p _ _ _).mono ?_
    rintro e w' ⟨rfl, rfl⟩
    have g1 := Blk.new (w.alloc (.cells #[.int .i64 1, .int .i64 base, .int .i64 loc, .int .i64 n, .int .i64 wr, .int .i64 rd, .int .i64 top] 41)) (.cells #[.int .i64 1, .int .i64 3, .int .i64 (clamp top 1099511627776)] 92)
    have hX2 := Lib.hid (hX.alloc (.cells #[.int .i64 1, .int .i64 3, .int .i64 (clamp top 1099511627776)] 92))
    simp only [World.size_alloc] at g1
    have g1h := Lib.hid g1
    clear g1
    go_wp2_with fail
    go_ret
    refine ⟨_, rfl, some ⟨w.heap.size + 1, 0, none⟩, 1, w.heap.size + 1, rfl, by simp [manyF], by omega, hX2.out, fun i hi => ?_⟩
    have hi0 : i = 0 := by simp [manyF] at hi; exact hi
    subst hi0
    exact ⟨_, _, _, rfl, g1h.out.lt, rfl, g1h.out.cells 0, g1h.out.cells 1, g1h.out.cells 2⟩
  · go_enter Try.func89, Try.ntmps89
    go_wp2_with fail
    refine (tstrips_p n _ hn.1 hn.2).mono ?_
    rintro e w2 ⟨v, rfl, hr, hx⟩
    have hS := Lib.hid (strips_pairs hr (hX.trans hx))
    clear hr hx
    go_wp2_with fail
    go_ret
    exact ⟨_, rfl, hS.out⟩
  · go_enter Try.func89, Try.ntmps89
    go_wp2_with fail
    refine (mstrips_p n _ h2 hn.2 (ht _)).mono ?_
    rintro e w2 ⟨v, rfl, hr, hx⟩
    have hS := Lib.hid (strips_pairs hr (hX.trans hx))
    clear hr hx
    go_wp2_with fail
    go_ret
    exact ⟨_, rfl, hS.out⟩
/-- What the first of them add up to. -/
def sumF (f : Nat → Int) : Nat → Int
  | 0 => 0
  | n + 1 => sumF f n + f n
theorem sum_pair : ∀ m : Nat, sumF pairF (2 * m) = 16 * (m : Int)
  | 0 => rfl
  | m + 1 => by
    have h1 : pairF (2 * m) = 4 := by unfold pairF; rw [if_pos (by omega)]
    have h2 : pairF (2 * m + 1) = 12 := by unfold pairF; rw [if_neg (by omega)]
    show sumF pairF (2 * m) + pairF (2 * m) + pairF (2 * m + 1) = _
    rw [sum_pair m, h1, h2]
    omega
theorem sumF_bd (r : Reg) : ∀ n : Nat, 0 ≤ sumF (stripF r) n ∧ sumF (stripF r) n ≤ 12 * n
  | 0 => by simp [sumF]
  | n + 1 => by
    have h := sumF_bd r n
    have h2 : 0 ≤ stripF r n ∧ stripF r n ≤ 12 := by unfold stripF pairF; split <;> (try split) <;> omega
    show 0 ≤ sumF (stripF r) n + stripF r n ∧ sumF (stripF r) n + stripF r n ≤ _
    omega
theorem sum_cells (r : Reg) (hk : r.kind = 1 ∨ r.kind = 6 ∨ r.kind = 7) (hn : 1 ≤ r.n ∧ r.n ≤ 8) : sumF (stripF r) (manyF r) = cellsM r := by
  obtain ⟨k, hk0⟩ : ∃ k : Nat, r.n = (k : Int) + 1 := ⟨(r.n - 1).toNat, by omega⟩
  rcases hk with h | h | h
  · unfold manyF cellsM
    rw [if_pos h, if_pos h]
    show sumF (stripF r) 0 + stripF r 0 = 1
    unfold stripF
    rw [if_pos h]
    rfl
  · have e : stripF r = pairF := by funext i; unfold stripF; rw [if_neg (by omega)]
    have n1 : r.kind ≠ 1 := by omega
    unfold manyF cellsM
    rw [if_neg n1, if_neg n1, if_pos h, if_pos h, e, sum_pair, hk0, show ((k : Int) + 1 - 1) = (k : Int) by omega, Int.toNat_natCast, Int.natCast_mul, ← Int.mul_assoc]
  · have e : stripF r = pairF := by funext i; unfold stripF; rw [if_neg (by omega)]
    have n1 : r.kind ≠ 1 := by omega
    have n6 : r.kind ≠ 6 := by omega
    unfold manyF cellsM
    rw [if_neg n1, if_neg n1, if_neg n6, if_neg n6, e, sum_pair, hk0, show ((k : Int) + 1 - 1) = (k : Int) by omega, show ((k : Int) + 1).toNat = k + 1 by omega, Int.toNat_natCast, Int.natCast_mul, Int.natCast_mul, Int.mul_comm ((k + 1 : Nat) : Int), ← Int.mul_assoc, ← Int.mul_assoc]
    rfl
theorem manyF_bd (r : Reg) (hn : 1 ≤ r.n ∧ r.n ≤ 8) : manyF r ≤ 784 := by
  have h1 : (r.n - 1).toNat * (r.n - 1).toNat ≤ 49 := Nat.mul_le_mul (show (r.n - 1).toNat ≤ 7 by omega) (show (r.n - 1).toNat ≤ 7 by omega)
  have h2 : r.n.toNat * ((r.n - 1).toNat * (r.n - 1).toNat) ≤ 8 * 49 := Nat.mul_le_mul (by omega) h1
  unfold manyF
  split
  · omega
  · split <;> omega
set_option maxRecDepth 100000 in
theorem cells_p (r : Reg) (w : World) (hk : r.kind = 1 ∨ r.kind = 6 ∨ (r.kind = 7 ∧ 2 ≤ r.n)) (hn : 1 ≤ r.n ∧ r.n ≤ 8) (ht : ∀ w, Calls Try.prog 108 #[.int .i64 r.n] w fun e w' => e = .returned (.int .i64 r.n) ∧ w = w') :
    Calls Try.prog 47 #[encR r] w fun e w' => e = .returned (.int .i64 (cellsM r)) ∧ Ext w w' := by
  have hS := fun w => rstrips_p r w hk hn ht
  have hsum := sum_cells r (by omega) hn
  have hbd := sumF_bd r
  have hmn := manyF_bd r hn
  generalize stripF r = f at *
  generalize manyF r = M at *
  rw [← hsum]
  clear hsum hk hn ht
  obtain ⟨kind, base, loc, n, wr, rd, top⟩ := r
  unfold encR at hS ⊢
  simp only at hS ⊢
  have hX := Ext.refl w
  have b1 := Blk.new w (.cells #[.int .i64 kind, .int .i64 base, .int .i64 loc, .int .i64 n, .int .i64 wr, .int .i64 rd, .int .i64 top] 41)
  replace hX := hX.alloc (.cells #[.int .i64 kind, .int .i64 base, .int .i64 loc, .int .i64 n, .int .i64 wr, .int .i64 rd, .int .i64 top] 41)
  have c_b1 := b1.cells
  go_enter Try.func47, Try.ntmps47
  go_wp2_with fail
  refine (hS _).mono ?_
  rintro e w2 ⟨v, rfl, A, c, bb, rfl, r1, r2, hx, hat⟩
  replace hX := hX.trans hx
  clear hx hS c_b1 b1
  go_wp2_with fail
  go_loopw [3, 9] (fun s i wr => ∃ j : Nat, i = .int .i64 j ∧ j ≤ M ∧ s = .int .i64 (sumF f j) ∧ Ext w2 wr) (fun _ i _ => M - (intOf i).toNat)
  case atStart => exact ⟨0, rfl, by omega, rfl, Ext.refl _⟩
  case round =>
    obtain ⟨j, rfl, hj, rfl, hx⟩ := hrel
    by_cases hl : j < M
    · obtain ⟨b, x, y, rfl, hb, rfl, e1, e2, e3⟩ := hat j hl
      have e1 := (hx.cell (p := ⟨bb, j * 3, none⟩) hb).trans e1
      have e2 := (hx.cell (p := ⟨bb, j * 3 + 1, none⟩) hb).trans e2
      have e3 := (hx.cell (p := ⟨bb, j * 3 + 2, none⟩) hb).trans e3
      have hb1 := hbd j
      have hb2 := hbd (j + 1)
      have hs : sumF f (j + 1) = sumF f j + f j := rfl
      rw [hs] at hb2
      have hxa := Lib.hid (hx.alloc (.cells #[.int .i64 (f j), .int .i64 x, .int .i64 y] 92))
      have hsh := Lib.hid hs
      clear hat hbd hs
      generalize sumF f j = s at *
      generalize f j = F at *
      go_wp2_with fail
      refine ⟨⟨j + 1, by go_num, by omega, by rw [hsh.out], hxa.out⟩, ?_⟩
      simp [intOf]; omega
    · obtain rfl : j = M := by omega
      clear hat hbd
      have hf := Lib.hid (hX.trans hx)
      go_wp2_with fail
      go_ret
      exact ⟨rfl, hf.out⟩
end Go.Proofs.Ytpcohbpeglledaa
/-
  How many answers are left, read off the Mem; a block that spins.
-/
namespace Go.Proofs.Ytpcohbpeglledaa
open Go.RowKit Kv
def lenOf : Option Value → Nat
  | some (.slice _ n _) => n
  | _ => 0
/-- How many answers the Mem at p has left: the answers' cell, less the accesses' one. -/
def leftW (i j : Nat) (w : World) (p : Nat) : Nat := lenOf (w.cell? ⟨p, i, none⟩) - lenOf (w.cell? ⟨p, j, none⟩)
theorem row_slice {w : World} {B e size n : Nat} {v : Value} {xs : List Value} (h : w.ownsRow B e size v n xs) : ∃ A c, v = .slice A n c := by
  rcases h.2 with ⟨rfl, h0⟩ | ⟨g, cap, cur, rfl, _⟩
  · exact ⟨none, 0, by rw [h0]⟩
  · exact ⟨_, _, rfl⟩
theorem Plays.left {B p : Nat} {w : World} {S : TS} (h : Plays B w p S) : leftW 1 3 w p = S.left := by
  obtain ⟨_, vA, vL, vC, vN, L, h⟩ := h
  obtain ⟨A, c, rfl, _⟩ := h.ans.slice
  obtain ⟨C, d, rfl⟩ := row_slice h.rowC
  unfold leftW TS.left
  rw [cell_of_heap h.heap, cell_of_heap h.heap]
  rfl
theorem RegsAt.extL {ix : List Nat} {p b : Nat} {w w' : World} {l : List Reg} (h : RegsAt ix w p b l) (hx : Ext w w') (hp : p < w.heap.size) : RegsAt ix w' p b l := h.keep (B := 0) (Keep.of_ext hx hp (Nat.zero_le _))
theorem Plays.len {B p : Nat} {w : World} {S : TS} (h : Plays B w p S) : S.acc.length ≤ S.ans.length := h.1
theorem RegsAt.four {ix : List Nat} {p b : Nat} {w : World} {x y z u : Reg} (h : RegsAt ix w p b [x, y, z, u]) :
    RegCells w b 0 x ∧ RegCells w b 7 y ∧ RegCells w b 14 z ∧ RegCells w b 21 u :=
  ⟨⟨h.cells 0 _ rfl, h.cells 1 _ rfl, h.cells 2 _ rfl, h.cells 3 _ rfl, h.cells 4 _ rfl, h.cells 5 _ rfl, h.cells 6 _ rfl⟩, ⟨h.cells 7 _ rfl, h.cells 8 _ rfl, h.cells 9 _ rfl, h.cells 10 _ rfl, h.cells 11 _ rfl, h.cells 12 _ rfl, h.cells 13 _ rfl⟩,
    ⟨h.cells 14 _ rfl, h.cells 15 _ rfl, h.cells 16 _ rfl, h.cells 17 _ rfl, h.cells 18 _ rfl, h.cells 19 _ rfl, h.cells 20 _ rfl⟩, ⟨h.cells 21 _ rfl, h.cells 22 _ rfl, h.cells 23 _ rfl, h.cells 24 _ rfl, h.cells 25 _ rfl, h.cells 26 _ rfl, h.cells 27 _ rfl⟩⟩
/-- One call behind what was done, with what it takes of the answers. -/
theorem tstepL {α β : Type} {B p : Nat} {w0 w : World} {S : TS} {R : Ending → World → Prop} {P : Program} {f : FuncId} {args : Array Value} {K : Ending → World → Prop} {enc : α → Value} {enc' : β → Value} {T : Prog α} {g : α → Prog β}
    (hO : Owes R enc' B p w0 ((T.bind g).run S)) (hB : KeepP B p w0 w) (h : Calls P f args w (Post enc B p w (T.run S))) (hp : ∀ w', R (stopE p) w' → K (stopE p) w')
    (hk : ∀ v S1 w1, S1.left ≤ S.left → (T.Asks → S1.left < S.left) → Plays B w1 p S1 → KeepP B p w w1 → KeepP B p w0 w1 → Owes R enc' B p w0 ((g v).run S1) → K (.returned (enc v)) w1) : Calls P f args w K := by
  refine tstep hO hB h hp fun v S1 w1 hr hP hk1 hk2 hO1 => hk v S1 w1 ?_ (fun ha => ha.left hr hP.1) hP hk1 hk2 hO1
  have := Prog.run_left T S
  rw [hr] at this
  exact this
/-- What the Mem still may do: the answers that are left, and one more if it is not over. -/
def leftR (w : World) (p : Nat) : Nat := leftW 0 3 w p + (match w.cell? ⟨p, 2, none⟩ with
  | some (.bool true) => 0
  | _ => 1)
theorem ref_lefts {α : Type} {T : Prog α} {o o' : Bool} {S S' : TS} {a : α} (h : Ref T o S a o' S') : S'.left ≤ S.left := by
  cases h with
  | over => exact Nat.le_refl _
  | done h => have := Prog.run_left T S; rw [h] at this; exact this
  | stop _ h => have := Prog.run_left T S; rw [h] at this; exact this
end Go.Proofs.Ytpcohbpeglledaa
/-
  The frame of a law's statement, for any law that returns true and leaves all that was there as it was: what its row's post asks.
-/
namespace Go.Proofs.Ytpcohbpeglledaa
open Go.RowKit Go.WideShapes Go.ChangeShapes
section
variable {H : Type} {enc : TypeId × Value → H} {P : Program}
theorem post_of_below {f : Func} {s : ChangeSpec} {apart fresh handsOn again : Bool} {W W' : World} {args : Array Value} {v : Value} {ds gs : List (DataW H)} {before pa pv : List MemPlace}
    (hW : DataW.Whole enc P f.params.toList s.vars apart W args.toList ds gs before)
    (hres : ∀ (b : Nat) (sp : Nat → Bool) (hd : Bool), DataW.TrodAll enc P W' b sp hd f.resultTypes.toList (v.resultList f.resultTypes.size) (s.fn H (ds ++ gs)).results [])
    (hargs : ∀ sp : Nat → Bool, (∀ p ∈ before, sp p.block = true) → DataW.TrodAll enc P W' 0 sp true f.params.toList args.toList (s.fn H (ds ++ gs)).args pa)
    (hvars : ∀ sp : Nat → Bool, (∀ p ∈ before, sp p.block = true) → DataW.TrodVars enc P W' sp s.vars (s.fn H (ds ++ gs)).vars pv)
    (hps : before = pa ++ pv) (hb : Below W.heap.size W W')
    (hok : ∀ (j : Nat) (t : TypeId) (r : Value), f.resultTypes[j]? = some t → (v.resultList f.resultTypes.size)[j]? = some r → Value.okWide P W' .any 0 t r) :
    s.post enc P f apart fresh handsOn again W args v W' := by
  have hlt : ∀ p ∈ before, p.block < W.heap.size := fun p hp => hW.lt p hp
  have hold : ∀ p ∈ before, (fun b => decide (b < W.heap.size)) p.block = true := fun p hp => by simpa using hlt p hp
  refine ⟨ds, gs, before, [], pa, pv, hW, hres _ _ _, hargs _ hold, hvars _ hold, World.keptBut_mono (fun p hp => ⟨hp, ?_⟩) (hb.frame (· ∈ before)), fun _ => ?_⟩
  · rw [hps, List.mem_append] at hp
    exact Or.inr hp
  · obtain ⟨_, _, _, _, _, hz, hn⟩ := hW
    refine ⟨hok, _, _, ([] ++ pa) ++ pv, ⟨[] ++ pa, pv, trodAll_append (hargs _ (fun _ _ => rfl)) (hres _ _ _), hvars _ (fun _ _ => rfl), rfl, ?_, ?_⟩, ?_⟩
    · intro b off hp
      have hin : MemPlace.cell b off ∈ before := by rw [hps]; simpa using hp
      rw [hb.frozen (hlt _ hin)]
      exact hz b off hin
    · intro ha
      have := hn ha
      rw [hps] at this
      simpa using this
    · intro p hp _
      rw [hps]
      simpa using hp
end
section
variable {H : Type} {enc : TypeId × Value → H} {P : Program}
theorem trodAll_stays (hl : laidOutB P = true) : ∀ (ts : List TypeId), (∀ t ∈ ts, P.readableRec t = true ∧ t < P.types.size) → ∀ {W W' : World} {sp : Nat → Bool} {vs : List Value} {ds : List (DataW H)} {ps : List MemPlace},
    DataW.TrodAll enc P W 0 (fun _ => true) true ts vs ds ps → (∀ p ∈ ps, W.sameAt W' p) → (∀ p ∈ ps, sp p.block = true) → DataW.TrodAll enc P W' 0 sp true ts vs ds ps
  | [], _, W, W', sp, vs, ds, ps, h, _, _ => by
    cases vs <;> cases ds <;> simp_all [DataW.TrodAll]
  | t :: ts, ht, W, W', sp, vs, ds, ps, h, hs, hsp => by
    obtain ⟨v, vs', d, ds', p, q, rfl, rfl, rfl, hp, hq⟩ := trodAll_cons h
    have h1 := ht t (by simp)
    refine trodAll_cons_mk (WideElems.Trod_stays hl h1.1 h1.2 hp (fun x hx => hs x (by simp [hx])) (fun x hx => hsp x (by simp [hx]))) ?_
    exact trodAll_stays hl ts (fun t' h' => ht t' (by simp [h'])) hq (fun x hx => hs x (by simp [hx])) (fun x hx => hsp x (by simp [hx]))
theorem trodAll_length : ∀ (ts : List TypeId) {W : World} {b : Nat} {sp : Nat → Bool} {held : Bool} {vs : List Value} {ds : List (DataW H)} {ps : List MemPlace}, DataW.TrodAll enc P W b sp held ts vs ds ps → ds.length = ts.length
  | [], W, b, sp, held, vs, ds, ps, h => by cases vs <;> cases ds <;> simp_all [DataW.TrodAll]
  | t :: ts, W, b, sp, held, vs, ds, ps, h => by
    obtain ⟨v, vs', d, ds', p, q, rfl, rfl, rfl, hp, hq⟩ := trodAll_cons h
    simp [trodAll_length ts hq]
/-- THE FRAME: of a law with one bool result. -/
theorem law_post {f : Func} {s : ChangeSpec} {W W' : World} {args : Array Value} {ds gs : List (DataW H)} {before : List MemPlace} {tb : TypeId}
    (hl : laidOutB P = true) (hr : ∀ t ∈ f.params.toList, P.readableRec t = true ∧ t < P.types.size) (hres : f.resultTypes = #[tb]) (htb : P.underlying tb = some .bool)
    (hvars : s.vars = []) (hspec : ∀ ds : List (DataW H), ds.length = f.params.size → s.fn H ds = { results := [.lit (.bool true)], args := ds })
    (hW : DataW.Whole enc P f.params.toList s.vars false W args.toList ds gs before) (hx : Ext W W') :
    s.post enc P f false true false false W args (.bool true) W' := by
  have hWlt : ∀ p ∈ before, p.block < W.heap.size := fun p hp => hW.lt p hp
  obtain ⟨p, q, hA, hV, hpq, hfz, hnd⟩ := hW
  rw [hvars] at hV
  have hgs : gs = [] ∧ q = [] := trodVars_none hV
  obtain ⟨rfl, rfl⟩ := hgs
  have hlen := trodAll_length _ hA
  have hsp := hspec ds (by rw [hlen]; simp)
  have hb : before = p := by rw [hpq]; simp
  subst hb
  have hn : f.resultTypes.size = 1 := by rw [hres]; rfl
  have hlo : (Value.bool true).resultList f.resultTypes.size = [Value.bool true] := by rw [hn]; rfl
  have e0 : ds ++ ([] : List (DataW H)) = ds := List.append_nil _
  refine post_of_below (pa := before) (pv := []) (ds := ds) (gs := []) ⟨before, [], hA, by rw [hvars]; exact hV, hpq, hfz, hnd⟩ ?_ ?_ ?_ hpq hx ?_
  · intro b sp hd
    rw [e0, hsp, hlo, hres]
    exact trodAll_cons_mk (shut_bool htb _) trodAll_mk0
  · intro sp hsp'
    rw [e0, hsp]
    exact trodAll_stays hl _ hr hA (fun p hp => Below.same hx (hWlt p hp)) hsp'
  · intro sp _
    rw [e0, hsp, hvars]
    rfl
  · intro j t r ht hr'
    rw [hres] at ht
    rw [hlo] at hr'
    cases j with
    | zero =>
      obtain rfl : tb = t := by simpa using ht
      obtain rfl : Value.bool true = r := by simpa using hr'
      exact okWide_bool_mk htb _
    | succ j => simp at ht
end
end Go.Proofs.Ytpcohbpeglledaa
/-
  Arguments opened: a slice of ints that came in.
-/
namespace Go.Proofs.Ytpcohbpeglledaa
open Go.ChangeShapes Go.WideShapes Go.ChangeAt Go.RowKit Kv
theorem cellsInt : Try.prog.cellsOf 3 = 1 := by kernel_rfl
theorem cell_lt {w : World} {a : Addr} {v : Value} (h : w.cell? a = some v) : a.block < w.heap.size := by
  rcases Nat.lt_or_ge a.block w.heap.size with hlt | hge
  · exact hlt
  · simp [World.cell?, Array.getElem?_eq_none hge] at h
set_option maxRecDepth 100000 in
theorem ints_trod {H : Type} {enc : TypeId × Value → H} {W : World} {v : Value} {fuel : Nat} {x : DataW H × List MemPlace}
    (hf : DataW.trod enc Try.prog W 0 (fun _ => true) true fuel 22 [v] = some x) :
    ∃ l, Ints W v l ∧ ∀ x ∈ l, -9223372036854775808 ≤ x ∧ x ≤ 9223372036854775807 := by
  rcases open_ints Try.underlying22 Try.underlying3 cellsInt hf with ⟨hcs, hx⟩ | ⟨a, len', cap', zs, hcs, _, hl, hm, hz, hx, hcell, hwz⟩
  · obtain rfl : v = .slice none 0 0 := by simpa using hcs
    exact ⟨[], Ints.nil W, by simp⟩
  · obtain rfl : v = .slice (some a) len' cap' := by simpa using hcs
    simp only [if_true] at hz
    refine ⟨zs.take len', ?_, fun x hx => bounds_i64 (hwz x (List.mem_of_mem_take hx))⟩
    have hlen : (zs.take len').length = len' := by rw [List.length_take]; omega
    refine ⟨some a, cap', by rw [hlen], by omega, by unfold maxLen at hm; exact hm, fun hne => ?_⟩
    have hpos : 0 < zs.length := by
      rcases Nat.eq_zero_or_pos zs.length with h0 | h0
      · have : zs = [] := List.eq_nil_of_length_eq_zero h0
        subst this
        simp at hne
      · exact h0
    obtain ⟨b, off, rfl, hc⟩ := ints_at hcell hpos
    refine ⟨b, off, rfl, cell_lt (hc 0 hpos), fun i x hi => ?_⟩
    have hi2 : i < zs.length := by
      have := (List.getElem?_eq_some_iff.1 hi).1
      rw [List.length_take] at this
      omega
    rw [hc i hi2]
    have hi3 : i < len' := by
      have := (List.getElem?_eq_some_iff.1 hi).1
      omega
    rw [List.getElem?_take, if_pos hi3] at hi
    rw [List.getD_eq_getElem?_getD, hi]
    rfl
set_option maxRecDepth 100000 in
theorem ints_arg {H : Type} {enc : TypeId × Value → H} {W : World} {b0 : Nat} {r : Reach} {v : Value} {d : DataW H} {p : List MemPlace}
    (hv : Value.okWide Try.prog W r b0 22 v) (h : DataW.Trod enc Try.prog W 0 (fun _ => true) true 22 v d p) :
    ∃ l, Ints W v l ∧ ∀ x ∈ l, -9223372036854775808 ≤ x ∧ x ≤ 9223372036854775807 := by
  obtain ⟨a0, len, cap, rfl⟩ := okWide_slice Try.underlying22 hv
  obtain ⟨fuel, hf⟩ := h
  rcases open_ints Try.underlying22 Try.underlying3 cellsInt hf with ⟨hcs, hx⟩ | ⟨a, len', cap', zs, hcs, _, hl, hm, hz, hx, hcell, hwz⟩
  · simp [Value.cells] at hcs
    obtain ⟨rfl, rfl, rfl⟩ := hcs
    exact ⟨[], Ints.nil W, by simp⟩
  · simp [Value.cells] at hcs
    obtain ⟨rfl, rfl, rfl⟩ := hcs
    simp only [if_true] at hz
    refine ⟨zs.take len, ?_, fun x hx => bounds_i64 (hwz x (List.mem_of_mem_take hx))⟩
    have hlen : (zs.take len).length = len := by rw [List.length_take]; omega
    refine ⟨some a, cap, by rw [hlen], by omega, by unfold maxLen at hm; exact hm, fun hne => ?_⟩
    have hpos : 0 < zs.length := by
      rcases Nat.eq_zero_or_pos zs.length with h0 | h0
      · have : zs = [] := List.eq_nil_of_length_eq_zero h0
        subst this
        simp at hne
      · exact h0
    obtain ⟨b, off, rfl, hc⟩ := ints_at hcell hpos
    refine ⟨b, off, rfl, cell_lt (hc 0 hpos), fun i x hi => ?_⟩
    have hi2 : i < zs.length := by
      have := (List.getElem?_eq_some_iff.1 hi).1
      rw [List.length_take] at this
      omega
    rw [hc i hi2]
    have hi3 : i < len := by
      have := (List.getElem?_eq_some_iff.1 hi).1
      omega
    rw [List.getElem?_take, if_pos hi3] at hi
    rw [List.getD_eq_getElem?_getD, hi]
    rfl
end Go.Proofs.Ytpcohbpeglledaa
/-
  Struct arguments of five one-cell fields, by value (after the kit's page on structs).
-/
namespace Go.Proofs.Ytpcohbpeglledaa
open Go.Joins Go.ChangeShapes Go.WideShapes Go.RowKit Go.Deep
section
variable {H : Type} {enc : TypeId × Value → H} {P : Program} {w : World} {base : Nat} {spare : Nat → Bool} {held : Bool}
theorem open_agg5 {r : Reach} {b0 : Nat} {t : TypeId} {f0 f1 f2 f3 f4 : Field} {v : Value} {d : DataW H} {p : List MemPlace} (hs : P.underlying t = some (.struct #[f0, f1, f2, f3, f4])) (hone : oneCellFields P #[f0, f1, f2, f3, f4] = true) (hC : P.cellsOf t = 5)
    (hv : Value.okWide P w r b0 t v) (h : DataW.Trod enc P w base spare held t v d p) :
    ∃ (v0 v1 v2 v3 v4 : Value) (y0 y1 y2 y3 y4 : DataW H × List MemPlace) (n : Nat), v = .agg #[v0, v1, v2, v3, v4] ∧ d = .agg [y0.1, y1.1, y2.1, y3.1, y4.1] ∧ p = y0.2 ++ (y1.2 ++ (y2.2 ++ (y3.2 ++ y4.2))) ∧
      DataW.trod enc P w base spare held n f0.type [v0] = some y0 ∧ DataW.trod enc P w base spare held n f1.type [v1] = some y1 ∧ DataW.trod enc P w base spare held n f2.type [v2] = some y2 ∧ DataW.trod enc P w base spare held n f3.type [v3] = some y3 ∧ DataW.trod enc P w base spare held n f4.type [v4] = some y4 := by
  obtain ⟨cs, rfl, hsz⟩ := okWide_struct hs hv
  obtain ⟨l⟩ := cs
  match l, hsz.trans hC with
  | [c0, c1, c2, c3, c4], _ =>
    obtain ⟨fuel, hf⟩ := h
    obtain ⟨xs, n, _, hx, _, hlen, hg⟩ := DataW.trod_struct hs hf
    obtain ⟨o0, k0⟩ := hone_of hone 0 f0 rfl
    obtain ⟨o1, k1⟩ := hone_of hone 1 f1 rfl
    obtain ⟨o2, k2⟩ := hone_of hone 2 f2 rfl
    obtain ⟨o3, k3⟩ := hone_of hone 3 f3 rfl
    obtain ⟨o4, k4⟩ := hone_of hone 4 f4 rfl
    match xs, hlen with
    | [y0, y1, y2, y3, y4], _ =>
      simp only [Prod.mk.injEq] at hx
      exact ⟨c0, c1, c2, c3, c4, y0, y1, y2, y3, y4, n, rfl, by simpa using hx.1, by simpa using hx.2, by simpa [Value.cells, o0, k0] using hg 0 f0 rfl, by simpa [Value.cells, o1, k1] using hg 1 f1 rfl, by simpa [Value.cells, o2, k2] using hg 2 f2 rfl, by simpa [Value.cells, o3, k3] using hg 3 f3 rfl, by simpa [Value.cells, o4, k4] using hg 4 f4 rfl⟩

theorem open_agg6 {r : Reach} {b0 : Nat} {t : TypeId} {f0 f1 f2 f3 f4 f5 : Field} {v : Value} {d : DataW H} {p : List MemPlace} (hs : P.underlying t = some (.struct #[f0, f1, f2, f3, f4, f5])) (hone : oneCellFields P #[f0, f1, f2, f3, f4, f5] = true) (hC : P.cellsOf t = 6)
    (hv : Value.okWide P w r b0 t v) (h : DataW.Trod enc P w base spare held t v d p) :
    ∃ (v0 v1 v2 v3 v4 v5 : Value) (y0 y1 y2 y3 y4 y5 : DataW H × List MemPlace) (n : Nat), v = .agg #[v0, v1, v2, v3, v4, v5] ∧
      DataW.trod enc P w base spare held n f0.type [v0] = some y0 ∧ DataW.trod enc P w base spare held n f1.type [v1] = some y1 ∧ DataW.trod enc P w base spare held n f2.type [v2] = some y2 ∧ DataW.trod enc P w base spare held n f3.type [v3] = some y3 ∧ DataW.trod enc P w base spare held n f4.type [v4] = some y4 ∧ DataW.trod enc P w base spare held n f5.type [v5] = some y5 := by
  obtain ⟨cs, rfl, hsz⟩ := okWide_struct hs hv
  obtain ⟨l⟩ := cs
  match l, hsz.trans hC with
  | [c0, c1, c2, c3, c4, c5], _ =>
    obtain ⟨fuel, hf⟩ := h
    obtain ⟨xs, n, _, hx, _, hlen, hg⟩ := DataW.trod_struct hs hf
    obtain ⟨o0, k0⟩ := hone_of hone 0 f0 rfl
    obtain ⟨o1, k1⟩ := hone_of hone 1 f1 rfl
    obtain ⟨o2, k2⟩ := hone_of hone 2 f2 rfl
    obtain ⟨o3, k3⟩ := hone_of hone 3 f3 rfl
    obtain ⟨o4, k4⟩ := hone_of hone 4 f4 rfl
    obtain ⟨o5, k5⟩ := hone_of hone 5 f5 rfl
    match xs, hlen with
    | [y0, y1, y2, y3, y4, y5], _ =>
      exact ⟨c0, c1, c2, c3, c4, c5, y0, y1, y2, y3, y4, y5, n, rfl, by simpa [Value.cells, o0, k0] using hg 0 f0 rfl, by simpa [Value.cells, o1, k1] using hg 1 f1 rfl, by simpa [Value.cells, o2, k2] using hg 2 f2 rfl, by simpa [Value.cells, o3, k3] using hg 3 f3 rfl, by simpa [Value.cells, o4, k4] using hg 4 f4 rfl, by simpa [Value.cells, o5, k5] using hg 5 f5 rfl⟩

end
end Go.Proofs.Ytpcohbpeglledaa
/-
  What the frame of a plain law asks beside its walk.
-/
namespace Go.Proofs.Ytpcohbpeglledaa
theorem own : ownKnob Try.prog.godebug = none := by kernel_rfl
end Go.Proofs.Ytpcohbpeglledaa
