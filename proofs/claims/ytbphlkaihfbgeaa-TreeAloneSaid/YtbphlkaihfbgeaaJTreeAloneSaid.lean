/-
  TreeAlone holds: whoever is alone climbs a tree by three or four accesses for each level, and comes down by one for each; two paths meet.
-/
import Derived.Test.YtbphlkaihfbgeaaJTreeAloneSaid2
import Derived.Laws.AppendOwnNone
import Derived.Laws.MakeOwn
import Derived.Deep.DeepCutAuto
import Derived.BigQuiet
import Derived.Deep.QuietTactic
/-
  The cells of any register that a plan lays.
-/
namespace Go.Proofs.Ytbphlkaihfbgeaa
open Go.RowKit Kv
theorem append_none {w : World} {ops : Array Oper} {rest : List Oper} {o : Oper} {a : Act} {Q : Exit → Act → World → Prop} {z : Value} {e t : TypeId} {size bytes : Nat}
    (hinfo : (Try.prog.info? e).map (fun i => (i.zero, i.size, i.bytes)) = some (some z, size, bytes)) (hund : Try.prog.underlying t = some (.slice e)) (hgd : o.guard = none) (s x : Operand)
    (ho : o.op = .call { callee := .builtin .append, args := #[s, x], argTypes := #[t, t] }) (base : Nat) (v : Value) (n : Nat) (xs : List Value) (hown : w.ownsRow base e size v n xs) (hs : a.eval s = v) (hx : a.eval x = .slice none 0 0)
    (h : wpList Try.prog ops Q rest (a.put o.dst v) w) : wpList Try.prog ops Q (o :: rest) a w := by
  obtain ⟨i0, hi, hz0, hz1, hz2⟩ := info_parts hinfo
  exact wpList_append_own_none hgd s x t ho base e i0 size hund hi v n xs hs hown hx h
set_option maxRecDepth 100000 in
theorem mstrips1_p (w : World) : Calls Try.prog 177 #[.int .i64 1] w fun e w' => ∃ A c, e = .returned (.slice A 0 c) ∧ Ext w w' := by
  go_enter Try.func177, Try.ntmps177
  go_wp2_with fail
  refine (mthreads_p 1 _ (by omega) (by omega)).mono ?_
  rintro e w' ⟨rfl, rfl⟩
  go_wp2_with fail
  go_loopw [3, 6] (fun v i wr => ∃ j : Nat, i = .int .i64 j ∧ j ≤ 1 ∧ wr.ownsRow w.heap.size 109 3 v 0 [] ∧ Ext w wr) (fun _ i _ => 1 - (intOf i).toNat)
  case atStart => exact ⟨0, rfl, by omega, World.ownsRow_nil _ _ _ _, Ext.refl _⟩
  case round =>
    obtain ⟨j, rfl, hj, hown, hX⟩ := hrel
    by_cases hl : j < 1
    · obtain rfl : j = 0 := by omega
      go_wp2_with fail
      refine (tstrips_p 1 _ (by omega) (by omega)).mono ?_
      rintro e w2 ⟨v2, rfl, hr2, hx2⟩
      rw [show 2 * ((1 - 1 : Int).toNat * (1 - 1 : Int).toNat) = 0 from rfl, show pairVals ((1 - 1 : Int).toNat * (1 - 1 : Int).toNat) = [] from rfl] at hr2
      replace hown := row_ext hown hx2
      replace hX := hX.trans hx2
      clear hx2
      rcases hr2.2 with ⟨rfl, -⟩ | ⟨g, cap, cur, rfl, q1, q2, q3, q4, -⟩
      · clear hr2
        go_wp2_with (at_builtin; refine append_none info_strip Try.underlying106 rfl _ _ rfl w.heap.size _ 0 [] hown rfl rfl ?_)
        have hoh := Lib.hid hown
        clear hown
        go_wp2_with fail
        refine ⟨⟨1, by go_num, by omega, hoh.out, hX⟩, ?_⟩
        simp [intOf]
      · clear hr2
        go_wp2_with (at_builtin; refine append_recs info_strip Try.underlying106 rfl (by decide) (by decide) rfl _ _ rfl _ 0 [] [] ⟨g, 0, none⟩ 0 cap hX hown rfl rfl rfl (fun i u hu => by simp at hu) (fun u hu => by simp at hu) (by omega) (by omega) ?_)
        intro v' w' ho hx'
        have hoh := Lib.hid ho
        clear hown ho q1 q2 q3 q4
        go_wp2_with fail
        refine ⟨⟨1, by go_num, by omega, hoh.out, hx'⟩, ?_⟩
        simp [intOf]
    · obtain rfl : j = 1 := by omega
      obtain ⟨A, c, rfl, -⟩ := Recs.of_row hown
      clear hown
      go_wp2_with fail
      go_ret
      exact ⟨_, _, rfl, hX⟩
set_option maxRecDepth 100000 in
theorem cells71_p (base loc wr rd top : Int) (w : World) : Calls Try.prog 45 #[.agg #[.int .i64 7, .int .i64 base, .int .i64 loc, .int .i64 1, .int .i64 wr, .int .i64 rd, .int .i64 top]] w fun e w' => e = .returned (.int .i64 0) ∧ Ext w w' := by
  have hS : ∀ w, Calls Try.prog 114 #[.agg #[.int .i64 7, .int .i64 base, .int .i64 loc, .int .i64 1, .int .i64 wr, .int .i64 rd, .int .i64 top]] w fun e w' => ∃ A c, e = .returned (.slice A 0 c) ∧ Ext w w' := by
    intro w
    have hX := Ext.refl w
    have b1 := Blk.new w (.cells #[.int .i64 7, .int .i64 base, .int .i64 loc, .int .i64 1, .int .i64 wr, .int .i64 rd, .int .i64 top] 56)
    replace hX := hX.alloc (.cells #[.int .i64 7, .int .i64 base, .int .i64 loc, .int .i64 1, .int .i64 wr, .int .i64 rd, .int .i64 top] 56)
    have c_b1 := b1.cells
    go_enter Try.func114, Try.ntmps114
    go_wp2_with fail
    refine (mstrips1_p _).mono ?_
    rintro e w2 ⟨A, c, rfl, hx⟩
    have hf := Lib.hid (hX.trans hx)
    clear hx
    go_wp2_with fail
    go_ret
    exact ⟨_, _, rfl, hf.out⟩
  have hX := Ext.refl w
  have b1 := Blk.new w (.cells #[.int .i64 7, .int .i64 base, .int .i64 loc, .int .i64 1, .int .i64 wr, .int .i64 rd, .int .i64 top] 56)
  replace hX := hX.alloc (.cells #[.int .i64 7, .int .i64 base, .int .i64 loc, .int .i64 1, .int .i64 wr, .int .i64 rd, .int .i64 top] 56)
  have c_b1 := b1.cells
  go_enter Try.func45, Try.ntmps45
  go_wp2_with fail
  refine (hS _).mono ?_
  rintro e w2 ⟨A, c, rfl, hx⟩
  have hf := Lib.hid (hX.trans hx)
  clear hx hS c_b1 b1 hX
  go_wp2_with fail
  go_loopw [3, 9] (fun s i wr => i = .int .i64 0 ∧ s = .int .i64 0 ∧ w2 = wr) (fun _ _ _ => 0)
  case atStart => exact ⟨rfl, rfl, rfl⟩
  case round =>
    obtain ⟨rfl, rfl, rfl⟩ := hrel
    go_wp2_with fail
    go_ret
    exact ⟨rfl, hf.out⟩
theorem cells_all (r : Reg) (w : World) (hk : r.kind = 1 ∨ r.kind = 6 ∨ r.kind = 7) (hn : 1 ≤ r.n ∧ r.n ≤ 8) : Calls Try.prog 45 #[encR r] w fun e w' => e = .returned (.int .i64 (cellsM r)) ∧ Ext w w' := by
  by_cases h : r.kind = 7 ∧ r.n = 1
  · obtain ⟨kind, base, loc, n, wr, rd, top⟩ := r
    obtain ⟨rfl, rfl⟩ := h
    exact cells71_p base loc wr rd top w
  · exact cells_p r w (by omega) hn (fun w => mthreads_p r.n w hn.1 hn.2)
/-- A plan laid by the program. -/
theorem plan_p (va : Value) (l : List Want) (n mode base loc : Int) (w : World) (h : WantsAt w va l) (hlen : l.length ≤ 1000) :
    Calls Try.prog 132 #[va, .int .i64 n, .int .i64 mode, .int .i64 base, .int .i64 loc] w (LayPost w.heap.size w (layM l n mode base loc)) :=
  lay_p va l n mode base loc w h hlen fun r w hd _ => cells_all r w hd.kind hd.n
end Go.Proofs.Ytbphlkaihfbgeaa
/-
  Locks' registers, laid by the program and by the document.
-/
namespace Kv
theorem filWants_len (N : Nat) : (filWants N).length = 2 * N - 1 := by simp [filWants]
theorem fastWants_len (N : Nat) : (fastWants N).length = N + 2 := by simp [fastWants]
theorem bwWants_len (N : Nat) : (bwWants N).length = 2 * N + 1 := by simp [bwWants]
end Kv
namespace Go.Proofs.Ytbphlkaihfbgeaa
open Go.RowKit Kv
theorem layr_some {va : Value} {l : List Want} {n mode base loc : Int} {rs : List Reg} (hl : layM l n mode base loc = some rs) (w : World) (h : WantsAt w va l) (hlen : l.length ≤ 1000) :
    Calls Try.prog 74 #[va, .int .i64 n, .int .i64 mode, .int .i64 base, .int .i64 loc] w fun e w' => ∃ v, e = .returned (.tuple #[v, .int .i64 0]) ∧ (RegsV w' v rs ∧ ∀ k, v.ownBlock = some k → w.heap.size ≤ k) ∧ Ext w w' := by
  have := lay_r va l n mode base loc w h hlen
  rw [hl] at this
  exact this.mono fun e w' ⟨hx, v, he, hr⟩ => ⟨v, he, ⟨Recs.of_row hr, fun k hk => (hr.lt k hk).1⟩, hx⟩
theorem layp_some {va : Value} {l : List Want} {n mode base loc : Int} {rs : List Reg} (hl : layM l n mode base loc = some rs) (w : World) (h : WantsAt w va l) (hlen : l.length ≤ 1000) :
    Calls Try.prog 132 #[va, .int .i64 n, .int .i64 mode, .int .i64 base, .int .i64 loc] w fun e w' => ∃ v, e = .returned (.tuple #[v, .int .i64 0]) ∧ (RegsV w' v rs ∧ ∀ k, v.ownBlock = some k → w.heap.size ≤ k) ∧ Ext w w' := by
  have := plan_p va l n mode base loc w h hlen
  rw [hl] at this
  exact this.mono fun e w' ⟨hx, v, he, hr⟩ => ⟨v, he, ⟨Recs.of_row hr, fun k hk => (hr.lt k hk).1⟩, hx⟩
end Go.Proofs.Ytbphlkaihfbgeaa
/-
  Trees of locks of two sides: laid, acquired and released, by the program.
-/
namespace Kv
def treeWants (E N : Nat) : List Want := List.replicate (E * (2 ^ levels N - 1)) ⟨-1, 1⟩
def treeA (E D : Nat) (rs : List Reg) (N m : Nat) : Prog Int := (nt 1).bind fun _ => (forP (fun x _ => nodeE E D rs m x) (pathL N m) ()).bind fun _ => (nt 3).bind fun _ => .ret 0
def treeR (E : Nat) (rs : List Reg) (N m : Nat) : Prog Unit := (nt 5).bind fun _ => forP (fun x _ => nodeL E rs m x) (pathL N m).reverse ()
theorem notes_arbSpin (qo rt : Reg) (s me : Int) : ∀ n : Nat, (arbSpin qo rt s me n).Notes 0
  | 0 => .ret _ _
  | n + 1 => by
    rw [arbSpin_succ]
    refine (notes_regR _ _).bind0 fun x => ?_
    split
    · exact .ret _ _
    · refine (notes_regR _ _).bind0 fun y => ?_
      split
      · exact notes_arbSpin qo rt s me n
      · exact .ret _ _
theorem notes_arbM (n : Nat) (q0 q1 rt : Reg) (side me : Int) : (arbM n q0 q1 rt side me).Notes 0 := by
  unfold arbM
  split <;> exact (notes_regW _ _ _).bind0 fun _ => (notes_regW _ _ _).bind0 fun _ => notes_arbSpin _ _ _ _ _
theorem notes_kesSpin (qo ro : Reg) (s t me : Int) : ∀ n : Nat, (kesSpin qo ro s t me n).Notes 0
  | 0 => .ret _ _
  | n + 1 => by
    unfold kesSpin
    refine (notes_regR _ _).bind0 fun x => ?_
    split
    · exact .ret _ _
    · refine (notes_regR _ _).bind0 fun y => ?_
      split
      · exact .ret _ _
      · exact notes_kesSpin qo ro s t me n
theorem notes_kesM (n : Nat) (q0 q1 r0 r1 : Reg) (side me : Int) : (kesM n q0 q1 r0 r1 side me).Notes 0 := by
  unfold kesM
  split <;> exact (notes_regW _ _ _).bind0 fun _ => (notes_regR _ _).bind0 fun _ => (notes_regW _ _ _).bind0 fun _ => notes_kesSpin _ _ _ _ _ _
theorem notes_nodeE (E D : Nat) (rs : List Reg) (me x : Int) : (nodeE E D rs me x).Notes 0 := by
  unfold nodeE
  split
  · exact notes_kesM _ _ _ _ _ _ _
  · exact notes_arbM _ _ _ _ _ _
theorem notes_nodeL (E : Nat) (rs : List Reg) (me x : Int) : (nodeL E rs me x).Notes 0 := notes_regW _ _ _
end Kv
namespace Go.Proofs.Ytbphlkaihfbgeaa
open Go.RowKit Kv
theorem each_le (kind : Int) : 3 ≤ eachK kind ∧ eachK kind ≤ 4 := by unfold eachK; split <;> omega
set_option maxRecDepth 100000 in
theorem treelay_p (alg mode base loc room me : Int) (N : Nat) (rs : List Reg) (w : World) (h1 : 1 ≤ N) (h2 : N ≤ 64) (hl : layM (treeWants (eachK alg) N) N mode base loc = some rs) (hm0 : 0 ≤ me) (hm1 : me < N) :
    Calls Try.prog 62 #[.agg #[.int .i64 alg, .int .i64 N, .int .i64 mode, .int .i64 base, .int .i64 loc, .int .i64 room], .int .i64 me] w fun e w' => ∃ A c, e = .returned (.tuple #[.slice A rs.length c, .int .i64 0]) ∧ (rs ≠ [] → ∃ b, A = some ⟨b, 0, none⟩ ∧ w.heap.size ≤ b ∧ b < w'.heap.size ∧ (∀ (i : Nat) u, (rs.flatMap regVals)[i]? = some u → w'.cell? ⟨b, i, none⟩ = some u)) ∧ rs.length ≤ c ∧ c ≤ 9223372036854775807 ∧ Ext w w' := by
  have hW := fun w => twants_p alg N w h1 h2
  have hle := (pow_le (lev_le h2)).2
  have hE := each_le alg
  have hwl : (treeWants (eachK alg) N).length ≤ 1000 := by
    unfold treeWants
    rw [List.length_replicate]
    have := Nat.mul_le_mul hE.2 (show 2 ^ levels (N : Int) - 1 ≤ 63 by omega)
    omega
  rw [show List.replicate (eachK alg * (2 ^ levels (N : Int) - 1)) (⟨-1, 1⟩ : Want) = treeWants (eachK alg) N from rfl] at hW
  generalize treeWants (eachK alg) N = lw at *
  replace hl := Lib.hid hl
  clear hle hE
  have d1 : decide (me < 0) = false := by rw [decide_eq_false_iff_not]; omega
  have d2 : decide ((N : Int) ≤ me) = false := by rw [decide_eq_false_iff_not]; omega
  have hX := Ext.refl w
  have b1 := Blk.new w (.cells #[.int .i64 alg, .int .i64 N, .int .i64 mode, .int .i64 base, .int .i64 loc, .int .i64 room] 23)
  replace hX := hX.alloc (.cells #[.int .i64 alg, .int .i64 N, .int .i64 mode, .int .i64 base, .int .i64 loc, .int .i64 room] 23)
  have c_b1 := b1.cells
  go_enter Try.func62, Try.ntmps62
  go_wp2_with fail
  generalize w.alloc _ = W at *
  have hXW := hX
  clear hX c_b1
  have hX := (Ext.refl W).drew
  have hS : ∀ w', Ext W w' → (∀ i, w'.cell? ⟨w.heap.size, i, none⟩ = (#[.int .i64 alg, .int .i64 N, .int .i64 mode, .int .i64 base, .int .i64 loc, .int .i64 room] : Array Value)[i]?) := fun w' hx => (b1.ext hx).cells
  go_region_held2 (fun w' => ∀ i, w'.cell? ⟨w.heap.size, i, none⟩ = (#[.int .i64 alg, .int .i64 N, .int .i64 mode, .int .i64 base, .int .i64 loc, .int .i64 room] : Array Value)[i]?) (exact hS _ hX)
    (first
      | (go_at_call 71
         refine (hW _).mono ?_
         rintro e w2 ⟨v2, rfl, hw2, hx⟩
         replace hX := hX.trans hx
         have hz2 := hX.size
         clear hx)
      | (go_at_call 132
         refine (layp_some hl.out _ (hw2.ext (Ext.refl _)) hwl).mono ?_
         rintro e w3 ⟨v3, rfl, hr3, hx⟩
         replace hX := hX.trans hx
         clear hx))
  rename_i hh
  clear hh
  obtain ⟨⟨A, c, rfl, q1, q2, hV⟩, hown⟩ := hr3
  have hR : Hid (rs ≠ [] → ∃ b, A = some ⟨b, 0, none⟩ ∧ w.heap.size ≤ b ∧ b < w3.heap.size ∧ (∀ (i : Nat) u, (rs.flatMap regVals)[i]? = some u → w3.cell? ⟨b, i, none⟩ = some u)) := Lib.hid fun hne => by
    obtain ⟨b, rfl, hb, hcells⟩ := hV (by cases rs with | nil => exact absurd rfl hne | cons r l => simp [regVals])
    exact ⟨b, rfl, Nat.le_trans (Nat.le_trans hXW.size hz2) (hown b rfl), hb, hcells⟩
  have hfh := Lib.hid (hXW.trans hX)
  clear hV hown hz2
  go_wp2_with fail
  first | go_ret2 | go_ret
  exact ⟨_, _, rfl, hR.out, q1, q2, hfh.out⟩
theorem climb_p (B p D : Nat) (S : TS) (kind : Int) (m place : Nat) (me : Int) (rs : List Reg) (A : Option Addr) (c : Nat) (w : World) (h : Plays B w p S) (h1 : 1 ≤ m) (h2 : m ≤ 64) (h3 : place < m) (hlen : rs.length = eachK kind * (2 ^ levels m - 1)) (hc1 : rs.length ≤ c) (hc2 : c ≤ 9223372036854775807)
    (hreg : rs ≠ [] → ∃ b, A = some ⟨b, 0, none⟩ ∧ RegsAt [2, 3, 4] w p b rs) (hall : ∀ r ∈ rs, r.ok ∧ me < r.n ∧ r.told me) (hm0 : 0 ≤ me) (hD : S.left < D) :
    Calls Try.prog 64 #[.pointer (some ⟨p, 0, none⟩), .slice A rs.length c, .int .i64 kind, .int .i64 m, .int .i64 place, .int .i64 me] w (Post encU B p w ((forP (fun x _ => nodeE (eachK kind) D rs me x) (pathL m place) ()).run S)) := by
  unfold eachK at *
  by_cases hk : kind = 7
  · rw [if_pos hk] at *
    exact climb_p7 B p D S kind m place me rs A c w h hk h1 h2 h3 hlen hc1 hc2 hreg hall hm0 hD
  · rw [if_neg hk] at *
    exact climb_p3 B p D S kind m place me rs A c w h hk h1 h2 h3 hlen hc1 hc2 hreg hall hm0 hD
theorem down_p (B p : Nat) (S : TS) (kind : Int) (m place : Nat) (me : Int) (rs : List Reg) (A : Option Addr) (c : Nat) (w : World) (h : Plays B w p S) (h1 : 1 ≤ m) (h2 : m ≤ 64) (h3 : place < m) (hlen : rs.length = eachK kind * (2 ^ levels m - 1)) (hc1 : rs.length ≤ c) (hc2 : c ≤ 9223372036854775807)
    (hreg : rs ≠ [] → ∃ b, A = some ⟨b, 0, none⟩ ∧ RegsAt [2, 3, 4] w p b rs) (hall : ∀ r ∈ rs, r.ok ∧ me < r.n ∧ r.told me) (hm0 : 0 ≤ me) :
    Calls Try.prog 66 #[.pointer (some ⟨p, 0, none⟩), .slice A rs.length c, .int .i64 kind, .int .i64 m, .int .i64 place, .int .i64 me] w (Post encU B p w ((forP (fun x _ => nodeL (eachK kind) rs me x) (pathL m place).reverse ()).run S)) := by
  unfold eachK at *
  by_cases hk : kind = 7
  · rw [if_pos hk] at *
    exact down_p7 B p S kind m place me rs A c w h hk h1 h2 h3 hlen hc1 hc2 hreg hall hm0
  · rw [if_neg hk] at *
    exact down_p3 B p S kind m place me rs A c w h hk h1 h2 h3 hlen hc1 hc2 hreg hall hm0
set_option maxRecDepth 100000 in
set_option maxHeartbeats 1000000 in
theorem treeacq_p (B p N D : Nat) (S : TS) (alg mode base loc room : Int) (m : Nat) (rs : List Reg) (w : World) (h : Plays B w p S) (h1 : 1 ≤ N) (h2 : N ≤ 64) (hm1 : m < N) (hl : layM (treeWants (eachK alg) N) N mode base loc = some rs)
    (hall : ∀ r ∈ rs, r.ok ∧ (m : Int) < r.n ∧ r.told m) (hD : S.left < D) (hn0 : S.nts.length = 0) :
    Calls Try.prog 14 #[.pointer (some ⟨p, 0, none⟩), .agg #[.int .i64 alg, .int .i64 N, .int .i64 mode, .int .i64 base, .int .i64 loc, .int .i64 room], .int .i64 m] w (Post encI B p w ((treeA (eachK alg) D rs N m).run S)) := by
  have hlen := layM_len hl
  unfold treeWants at hlen
  rw [List.length_replicate] at hlen
  generalize hR : Post encI B p w ((treeA (eachK alg) D rs N m).run S) = R
  have hO : Owes R encI B p w ((treeA (eachK alg) D rs N m).run S) := hR ▸ owes _ _ _ _ _
  clear hR
  have hK := Keep.refl [2, 3, 4] B p w
  have hP := h
  have b1 := hP.held (.cells #[.int .i64 alg, .int .i64 N, .int .i64 mode, .int .i64 base, .int .i64 loc, .int .i64 room] 23)
  replace hK := hK.trans (Keep.alloc (.cells #[.int .i64 alg, .int .i64 N, .int .i64 mode, .int .i64 base, .int .i64 loc, .int .i64 room] 23) hP.lt hP.le)
  replace hP := hP.alloc (.cells #[.int .i64 alg, .int .i64 N, .int .i64 mode, .int .i64 base, .int .i64 loc, .int .i64 room] 23)
  have c_b1 := b1.cells
  clear h
  unfold treeA at hO
  have hlh := Lib.hid hl
  have hlenh := Lib.hid hlen
  have hallh := Lib.hid hall
  clear hl hlen hall
  go_enter Try.func14, Try.ntmps14
  go_wp2_with fail
  refine (treelay_p alg mode base loc room m N rs _ h1 h2 hlh.out (by omega) (by omega)).mono ?_
  rintro e w1 ⟨A, c, rfl, hR, q1, q2, hx⟩
  have hreg : rs ≠ [] → ∃ b, A = some ⟨b, 0, none⟩ ∧ RegsAt [2, 3, 4] w1 p b rs := fun hne => by
    obtain ⟨b, e1, hge, hb, hcells⟩ := hR hne
    exact ⟨b, e1, hb, hP.fresh hx hge, hcells⟩
  replace hK := hK.trans (Keep.of_ext hx hP.lt hP.le)
  replace b1 := b1.ext hx hP.lt
  replace hP := hP.ext hx
  clear hx hR c_b1
  generalize w.heap.size = z at *
  go_wp2_with fail
  refine tstepN (notes_nt 1) hO hK (noteO hP (by unfold maxAns; omega)) (fun _ h => ⟨rfl, h⟩) ?_
  clear hO hK hP
  intro u S1 w2 hlf _ hnn hP hk hK hO
  replace hD := Nat.lt_of_le_of_lt hlf hD
  replace hn0 : S1.nts.length ≤ 1 := by omega
  have hreg2 : rs ≠ [] → ∃ b, A = some ⟨b, 0, none⟩ ∧ RegsAt [2, 3, 4] w2 p b rs := fun hne => by
    obtain ⟨b, e1, e2⟩ := hreg hne
    exact ⟨b, e1, e2.keep hk⟩
  replace b1 := b1.keep hk
  clear hk hlf hreg
  have c_b1 := b1.cells
  have hOh := Lib.hid hO
  clear hO
  go_wp2_with fail
  refine tstepN (notes_forP (fun _ _ => notes_nodeE _ _ _ _ _) _ _) hOh.out hK (climb_p B p D S1 alg N m m rs A c w2 hP h1 h2 hm1 hlenh.out q1 q2 hreg2 hallh.out (by omega) hD) (fun _ h => ⟨rfl, h⟩) ?_
  clear hOh hK hP
  intro u S2 w3 _ _ hnn hP hk hK hO
  replace hn0 : S2.nts.length ≤ 1 := by omega
  clear hk hreg2 c_b1
  go_wp2_with fail
  refine tstepN (notes_nt 3) hO hK (noteO hP (by unfold maxAns; omega)) (fun _ h => ⟨rfl, h⟩) ?_
  clear hO hK hP
  intro u S3 w4 _ _ _ hP _ hK hO
  have hf := hO.done (v := (0 : Int)) hP hK
  clear hO hP hK
  go_wp2_with fail
  first | exact hf | (go_ret; exact hf)
set_option maxRecDepth 100000 in
set_option maxHeartbeats 1000000 in
theorem treerel_p (B p N : Nat) (S : TS) (alg mode base loc room : Int) (m : Nat) (rs : List Reg) (w : World) (h : Plays B w p S) (h1 : 1 ≤ N) (h2 : N ≤ 64) (hm1 : m < N) (hl : layM (treeWants (eachK alg) N) N mode base loc = some rs)
    (hall : ∀ r ∈ rs, r.ok ∧ (m : Int) < r.n ∧ r.told m) (hn0 : S.nts.length = 0) :
    Calls Try.prog 17 #[.pointer (some ⟨p, 0, none⟩), .agg #[.int .i64 alg, .int .i64 N, .int .i64 mode, .int .i64 base, .int .i64 loc, .int .i64 room], .int .i64 m] w (Post encU B p w ((treeR (eachK alg) rs N m).run S)) := by
  have hlen := layM_len hl
  unfold treeWants at hlen
  rw [List.length_replicate] at hlen
  generalize hR : Post encU B p w ((treeR (eachK alg) rs N m).run S) = R
  have hO : Owes R encU B p w ((treeR (eachK alg) rs N m).run S) := hR ▸ owes _ _ _ _ _
  clear hR
  have hK := Keep.refl [2, 3, 4] B p w
  have hP := h
  have b1 := hP.held (.cells #[.int .i64 alg, .int .i64 N, .int .i64 mode, .int .i64 base, .int .i64 loc, .int .i64 room] 23)
  replace hK := hK.trans (Keep.alloc (.cells #[.int .i64 alg, .int .i64 N, .int .i64 mode, .int .i64 base, .int .i64 loc, .int .i64 room] 23) hP.lt hP.le)
  replace hP := hP.alloc (.cells #[.int .i64 alg, .int .i64 N, .int .i64 mode, .int .i64 base, .int .i64 loc, .int .i64 room] 23)
  have c_b1 := b1.cells
  clear h
  unfold treeR at hO
  have hlh := Lib.hid hl
  have hlenh := Lib.hid hlen
  have hallh := Lib.hid hall
  clear hl hlen hall
  go_enter Try.func17, Try.ntmps17
  go_wp2_with fail
  refine (treelay_p alg mode base loc room m N rs _ h1 h2 hlh.out (by omega) (by omega)).mono ?_
  rintro e w1 ⟨A, c, rfl, hR, q1, q2, hx⟩
  have hreg : rs ≠ [] → ∃ b, A = some ⟨b, 0, none⟩ ∧ RegsAt [2, 3, 4] w1 p b rs := fun hne => by
    obtain ⟨b, e1, hge, hb, hcells⟩ := hR hne
    exact ⟨b, e1, hb, hP.fresh hx hge, hcells⟩
  replace hK := hK.trans (Keep.of_ext hx hP.lt hP.le)
  replace b1 := b1.ext hx hP.lt
  replace hP := hP.ext hx
  clear hx hR c_b1
  generalize w.heap.size = z at *
  go_wp2_with fail
  refine tstepN (notes_nt 5) hO hK (noteO hP (by unfold maxAns; omega)) (fun _ h => ⟨rfl, h⟩) ?_
  clear hO hK hP
  intro u S1 w2 _ _ _ hP hk hK hO
  have hreg2 : rs ≠ [] → ∃ b, A = some ⟨b, 0, none⟩ ∧ RegsAt [2, 3, 4] w2 p b rs := fun hne => by
    obtain ⟨b, e1, e2⟩ := hreg hne
    exact ⟨b, e1, e2.keep hk⟩
  replace b1 := b1.keep hk
  clear hk hreg
  have c_b1 := b1.cells
  have hOh := Lib.hid hO
  clear hO
  go_wp2_with fail
  refine tlast hOh.out hK (down_p B p S1 alg N m m rs A c w2 hP h1 h2 hm1 hlenh.out q1 q2 hreg2 hallh.out (by omega)) (fun _ h => ⟨rfl, h⟩) ?_
  clear hOh hK hP
  intro u S2 w3 hr hP hk hK hO
  have hf := hO.done hP hK
  clear hO hP hK hr hk hreg2 c_b1
  go_wp2_with fail
  first | exact hf | (refine bodyPost_ret (results_none rfl _ _ _) rfl ?_; exact hf)
end Go.Proofs.Ytbphlkaihfbgeaa
/-
  make([]int, n): a row of noughts.
-/
namespace Kv
/-- So many noughts. -/
def zeros (n : Nat) : List Int := List.replicate n 0
end Kv
namespace Go.Proofs.Ytbphlkaihfbgeaa
open Go.RowKit Kv
theorem make_ints (l : Int) (k : Nat) (hl : l = k) (hk : k ≤ 100000) (w : World) :
    (Instr.makeSlice 28 (.int .i64 l) (.int .i64 l)).run Try.prog w = .ok (.slice (some ⟨w.heap.size, 0, none⟩) k k) (w.alloc (.cells ((zeros k).map (Value.int .i64)).toArray 3)) := by
  subst hl
  obtain ⟨i0, hi, hz0, hz1, hz2⟩ := info_parts info_int
  have hr := run_makeSlice (P := Try.prog) w 28 3 i0 (.int .i64 0) Try.underlying28 hi hz0 .i64 .i64 k k (by omega) (by omega) (by rw [hz1]; simp; omega) (by rw [hz2]; omega) (by omega)
  rw [Int.toNat_natCast, hz1, Nat.mul_one] at hr
  have he : madeCells (Value.int .i64 0).cells k = ((zeros k).map (Value.int .i64)).toArray := by
    unfold zeros madeCells
    apply Array.ext'
    rw [List.map_replicate]
    apply List.ext_getElem?
    intro j
    by_cases hj : j < k
    · simp [hj, Nat.mod_one, Value.cells]
    · simp [hj]
  rw [hr, he]
end Go.Proofs.Ytbphlkaihfbgeaa
/-
  TreeAlone, plain mathematics: what one thread pays alone, and where two paths meet.
-/
namespace Go.Proofs.Ytbphlkaihfbgeaa
open Kv
/-- A tree's registers on native cells. -/
def natT (E N : Nat) : List Reg := (List.range (E * (2 ^ levels N - 1))).map fun i : Nat => ⟨1, i, 0, N, -1, -1, 1⟩
def taA (E N m : Nat) : Option Int × TS := (treeA E 41 (natT E N) N m).run (TS0 [] (zeros 40))
def taR (E N m : Nat) : Option Int × TS := ((treeR E (natT E N) N m).bind fun _ => Prog.ret (0 : Int)).run (TS0 [] (zeros 40))
def taOk (E N m : Nat) : Bool := decide ((taA E N m).1 = some 0) && decide ((taA E N m).2.acc.length = E * levels N) && decide ((taR E N m).1 = some 0) && decide ((taR E N m).2.acc.length = levels N)
theorem ta_all3 : ∀ N : Nat, N < 9 → ∀ m : Nat, m < N → 1 ≤ N → taOk 3 N m = true := by decide +kernel
theorem ta_all4 : ∀ N : Nat, N < 9 → ∀ m : Nat, m < N → 1 ≤ N → taOk 4 N m = true := by decide +kernel
theorem ta_is {E N m : Nat} (hE : E = 3 ∨ E = 4) (h1 : 1 ≤ N) (h2 : N ≤ 8) (hm : m < N) : (taA E N m).1 = some 0 ∧ (taA E N m).2.acc.length = E * levels N ∧ (taR E N m).1 = some 0 ∧ (taR E N m).2.acc.length = levels N := by
  have : taOk E N m = true := by
    rcases hE with rfl | rfl
    · exact ta_all3 N (by omega) m hm h1
    · exact ta_all4 N (by omega) m hm h1
  unfold taOk at this
  simp only [Bool.and_eq_true, decide_eq_true_eq] at this
  exact ⟨this.1.1.1, this.1.1.2, this.1.2, this.2⟩
/-- Have two paths met, so many nodes up? -/
def metI (a b : List Int) (s : Bool) : Nat → Bool
  | 0 => s
  | i + 1 => metI a b s i || (a.getD i 0 / 2 == b.getD i 0 / 2 && a.getD i 0 % 2 != b.getD i 0 % 2)
def metOk (N t x : Nat) : Bool :=
  decide ((pathL N t).length = levels N) && metI (pathL N t) (pathL N x) (x == t) (levels N) && (List.range (levels N)).all fun i => decide (0 ≤ (pathL N t).getD i 0) && decide ((pathL N t).getD i 0 ≤ 16) && !((pathL N t).getD i 0 == (pathL N x).getD i 0 && !metI (pathL N t) (pathL N x) (x == t) (i + 1))
theorem met_all : ∀ N : Nat, N < 9 → ∀ t : Nat, t < N → ∀ x : Nat, x < N → metOk N t x = true := by decide +kernel
theorem met_is {N t x : Nat} (h2 : N ≤ 8) (ht : t < N) (hx : x < N) : (pathL N t).length = levels N ∧ metI (pathL N t) (pathL N x) (x == t) (levels N) = true ∧
    ∀ i, i < levels N → 0 ≤ (pathL N t).getD i 0 ∧ (pathL N t).getD i 0 ≤ 16 ∧ ((pathL N t).getD i 0 = (pathL N x).getD i 0 → metI (pathL N t) (pathL N x) (x == t) (i + 1) = true) := by
  have := met_all N (by omega) t ht x hx
  unfold metOk at this
  simp only [Bool.and_eq_true, decide_eq_true_eq, List.all_eq_true, List.mem_range] at this
  refine ⟨this.1.1, this.1.2, fun i hi => ?_⟩
  obtain ⟨⟨h3, h4⟩, h5⟩ := this.2 i hi
  refine ⟨h3, h4, fun he => ?_⟩
  rw [he] at h5
  simpa using h5
theorem nat_lay {E N : Nat} (hE : E = 3 ∨ E = 4) (h1 : 1 ≤ N) (h2 : N ≤ 8) : layM (treeWants E N) N 1 0 0 = some (natT E N) := by
  have : N = 1 ∨ N = 2 ∨ N = 3 ∨ N = 4 ∨ N = 5 ∨ N = 6 ∨ N = 7 ∨ N = 8 := by omega
  rcases hE with rfl | rfl <;> rcases this with rfl | rfl | rfl | rfl | rfl | rfl | rfl | rfl <;> rfl
end Go.Proofs.Ytbphlkaihfbgeaa
/-
  Trees of locks of two sides: the document's leaves, wants and paths.
-/
namespace Kv
theorem lev_least {m : Nat} (h : m ≤ 64) {j : Nat} (hj : j < levels m) : 2 ^ j < m := by
  have : ∀ m : Nat, m < 65 → ∀ j : Nat, j < levels m → 2 ^ j < m := by decide +kernel
  exact this m (by omega) j hj
end Kv
namespace Go.Proofs.Ytbphlkaihfbgeaa
open Go.RowKit Kv
end Go.Proofs.Ytbphlkaihfbgeaa
/-
  Trees of locks of two sides: climbing and going down, by the document.
-/
namespace Go.Proofs.Ytbphlkaihfbgeaa
open Go.RowKit Kv
end Go.Proofs.Ytbphlkaihfbgeaa
/-
  Trees of locks of two sides: going down, by the document.
-/
namespace Go.Proofs.Ytbphlkaihfbgeaa
open Go.RowKit Kv
end Go.Proofs.Ytbphlkaihfbgeaa
/-
  Trees of locks of two sides: laid, acquired and released, by the document.
-/
namespace Go.Proofs.Ytbphlkaihfbgeaa
open Go.RowKit Kv
end Go.Proofs.Ytbphlkaihfbgeaa
/-
  What the laws of locks share: whether registers can be laid, and a thread by any number.
-/
namespace Go.Proofs.Ytbphlkaihfbgeaa
open Go.RowKit Kv
theorem me_at (me : Int) (N : Nat) (h1 : 1 ≤ N) (h2 : N ≤ 8) : ∃ m : Nat, m < N ∧ wrapI me ((N : Int) - 1) = m := by
  have ht := wrapI_bd me ((N : Int) - 1)
  rw [show clamp ((N : Int) - 1) 1099511627776 = (N : Int) - 1 from by unfold clamp within; omega] at ht
  exact ⟨(wrapI me ((N : Int) - 1)).toNat, by omega, by omega⟩
theorem laid_all {l : List Want} {n mode b c : Int} {rs : List Reg} (h : layM l n mode b c = some rs) : ∀ r ∈ rs, r.ok ∧ r.n = n := by
  intro r hr
  obtain ⟨i, hi⟩ := List.getElem?_of_mem hr
  obtain ⟨⟨_, _, n1, n2, _, _⟩, hw, _⟩ := layM_args h
  have hil := (List.getElem?_eq_some_iff.1 hi).1
  rw [layM_len h] at hil
  obtain ⟨r', hr', hL⟩ := layM_at h (List.getElem?_eq_getElem hil)
  obtain rfl : r = r' := by rw [hi] at hr'; simpa using hr'
  obtain ⟨h1, h2, _⟩ := hL.ok ⟨n1, n2⟩ (hw _ (List.getElem_mem hil))
  exact ⟨h1, h2⟩
theorem laid_want {f : Nat → Want} {k : Nat} {n mode b c : Int} {rs : List Reg} (h : layM ((List.range k).map f) n mode b c = some rs) {i : Nat} {r : Reg} (hi : rs[i]? = some r) : Laid n mode (f i) r := by
  have hil := (List.getElem?_eq_some_iff.1 hi).1
  rw [layM_len h, List.length_map, List.length_range] at hil
  obtain ⟨r', hr', hL⟩ := layM_at h (i := i) (q := f i) (by rw [List.getElem?_map, List.getElem?_range hil]; rfl)
  obtain rfl : r = r' := by rw [hi] at hr'; simpa using hr'
  exact hL
/-- Told by accesses, but for its own writer. -/
theorem laid_told {n mode : Int} {q : Want} {r : Reg} (h : Laid n mode q r) (_hm : 1 ≤ mode ∧ mode ≤ 2) (hn : 2 ≤ n) (_hq : -1 ≤ q.wr) {me : Int} (hme : q.wr ≠ me) : r.told me := by
  obtain ⟨⟨b, c, rfl, _, _⟩, _⟩ := h
  by_cases h2 : mode = 2
  · by_cases h3 : 0 ≤ q.wr
    · refine .inr (.inl ⟨?_, fun h => hme h.symm⟩)
      show kindM mode q.wr = 6
      unfold kindM
      rw [if_pos h2, if_pos h3]
    · refine .inr (.inr ⟨?_, hn⟩)
      show kindM mode q.wr = 7
      unfold kindM
      rw [if_pos h2, if_neg h3]
  · refine .inl ?_
    show kindM mode q.wr = 1
    unfold kindM
    rw [if_neg h2]
theorem fil_told {N : Nat} {mode b c : Int} {rs : List Reg} {m : Nat} (h : layM (filWants N) N mode b c = some rs) : ∀ (i : Nat) r, rs[i]? = some r → i ≠ m → 2 ≤ N → r.told m := by
  intro i r hi hm hN
  obtain ⟨⟨h1, h2, _⟩, _⟩ := layM_args h
  refine laid_told (laid_want h hi) ⟨h1, h2⟩ (by omega) ?_ ?_
  · unfold filWant; split <;> simp <;> omega
  · unfold filWant; split <;> simp <;> omega
end Go.Proofs.Ytbphlkaihfbgeaa
/-
  Trees of locks of two sides: none for what is no tree; what their registers tell.
-/
namespace Go.Proofs.Ytbphlkaihfbgeaa
open Go.RowKit Kv
theorem tree_all {E N : Nat} {mode b c : Int} {rs : List Reg} {m : Nat} (h : layM (treeWants E N) N mode b c = some rs) (hm : m < N) : ∀ r ∈ rs, r.ok ∧ (m : Int) < r.n ∧ r.told m := by
  intro r hr
  obtain ⟨h1, h2⟩ := laid_all h r hr
  refine ⟨h1, by omega, ?_⟩
  obtain ⟨⟨m1, m2, _⟩, _⟩ := layM_args h
  obtain ⟨i, hi⟩ := List.getElem?_of_mem hr
  have hil := (List.getElem?_eq_some_iff.1 hi).1
  have hlen := layM_len h
  have hwi : (treeWants E N)[i]? = some ⟨-1, 1⟩ := by
    unfold treeWants at *
    rw [List.length_replicate] at hlen
    rw [List.getElem?_replicate, if_pos (by omega)]
  obtain ⟨r', hr', hL⟩ := layM_at h hwi
  obtain rfl : r = r' := by rw [hi] at hr'; simpa using hr'
  by_cases hN : N = 1
  · subst hN
    unfold treeWants at hlen
    rw [List.length_replicate, show levels ((1 : Nat) : Int) = 0 from by decide] at hlen
    omega
  · exact laid_told hL ⟨m1, m2⟩ (by omega) (by decide) (by show (-1 : Int) ≠ m; omega)
theorem path_none_p (m place : Int) (w : World) (h : m < 1 ∨ 64 < m ∨ place < 0 ∨ m ≤ place) : Calls Try.prog 18 #[.int .i64 m, .int .i64 place] w fun e w' => e = .returned (.slice none 0 0) ∧ w = w' := by
  by_cases h1 : m < 1
  · have d1 : decide (m < 1) = true := by rw [decide_eq_true_eq]; exact h1
    clear h h1
    go_enter Try.func18, Try.ntmps18
    go_wp2_with fail
    go_ret
    exact ⟨rfl, rfl⟩
  · have d1 : decide (m < 1) = false := by rw [decide_eq_false_iff_not]; exact h1
    by_cases h2 : 64 < m
    · have d2 : decide (64 < m) = true := by rw [decide_eq_true_eq]; exact h2
      clear h h1 h2
      go_enter Try.func18, Try.ntmps18
      go_wp2_with fail
      go_ret
      exact ⟨rfl, rfl⟩
    · have d2 : decide (64 < m) = false := by rw [decide_eq_false_iff_not]; exact h2
      by_cases h3 : place < 0
      · have d3 : decide (place < 0) = true := by rw [decide_eq_true_eq]; exact h3
        clear h h1 h2 h3
        go_enter Try.func18, Try.ntmps18
        go_wp2_with fail
        go_ret
        exact ⟨rfl, rfl⟩
      · have d3 : decide (place < 0) = false := by rw [decide_eq_false_iff_not]; exact h3
        have d4 : decide (m ≤ place) = true := by rw [decide_eq_true_eq]; omega
        clear h h1 h2 h3
        go_enter Try.func18, Try.ntmps18
        go_wp2_with fail
        go_ret
        exact ⟨rfl, rfl⟩
theorem twants_none_p (kind m : Int) (w : World) (h : m < 1 ∨ 64 < m) : Calls Try.prog 71 #[.int .i64 kind, .int .i64 m] w fun e w' => e = .returned (.slice none 0 0) ∧ w = w' := by
  by_cases h1 : m < 1
  · have d1 : decide (m < 1) = true := by rw [decide_eq_true_eq]; exact h1
    clear h h1
    go_enter Try.func71, Try.ntmps71
    go_wp2_with fail
    go_ret
    exact ⟨rfl, rfl⟩
  · have d1 : decide (m < 1) = false := by rw [decide_eq_false_iff_not]; exact h1
    have d2 : decide (64 < m) = true := by rw [decide_eq_true_eq]; omega
    clear h h1
    go_enter Try.func71, Try.ntmps71
    go_wp2_with fail
    go_ret
    exact ⟨rfl, rfl⟩
end Go.Proofs.Ytbphlkaihfbgeaa
/-
  Trees of locks of two sides: the chapter's example.
-/
namespace Kv
def tb0 : Reg := ⟨1, 0, 0, 2, -1, -1, 1⟩
def tb1 : Reg := ⟨1, 1, 0, 2, -1, -1, 1⟩
def tb2 : Reg := ⟨1, 2, 0, 2, -1, -1, 1⟩
end Kv
namespace Go.Proofs.Ytbphlkaihfbgeaa
open Go.RowKit Kv
theorem tb_lay : layM (treeWants (eachK 6) 2) 2 1 0 0 = some [tb0, tb1, tb2] := by rfl
theorem ual1 (B p : Nat) (S : TS) (bk : Nat) (w : World) (h : Plays B w p S) (hD : S.left < 4) (hn0 : S.nts.length = 0)
    (c1 : ∀ i, w.cell? ⟨bk, i, none⟩ = (#[.int .i64 6, .int .i64 2, .int .i64 1, .int .i64 0, .int .i64 0, .int .i64 0] : Array Value)[i]?) :
    Calls Try.prog 68 #[.pointer (some ⟨p, 0, none⟩), .pointer (some ⟨bk, 0, none⟩)] w (Post encI B p w ((treeA 3 4 [tb0, tb1, tb2] 2 1).run S)) := by
  have hq : Calls Try.prog 14 #[.pointer (some ⟨p, 0, none⟩), .agg #[.int .i64 6, .int .i64 2, .int .i64 1, .int .i64 0, .int .i64 0, .int .i64 0], .int .i64 1] w (Post encI B p w ((treeA 3 4 [tb0, tb1, tb2] 2 1).run S)) :=
    treeacq_p B p 2 4 S 6 1 0 0 0 1 [tb0, tb1, tb2] w h (by decide) (by decide) (by decide) tb_lay (tree_all tb_lay (by decide)) hD hn0
  generalize hR : Post encI B p w ((treeA 3 4 [tb0, tb1, tb2] 2 1).run S) = R
  have hO : Owes R encI B p w ((treeA 3 4 [tb0, tb1, tb2] 2 1).run S) := hR ▸ owes _ _ _ _ _
  clear hR
  have hK := Keep.refl [2, 3, 4] B p w
  go_enter Try.func68, Try.ntmps68
  go_wp2_with fail
  clear c1
  refine tlast hO hK hq (fun _ h => ⟨rfl, h⟩) ?_
  intro v S1 w1 hr hP1 hk1 hK1 hO1
  have hf := hO1.done hP1 hK1
  clear hO1 hP1 hK1 hr hk1 hO h hK hq
  go_wp2_with fail
  first | exact hf | (go_ret; exact hf)
theorem ual2 (B p : Nat) (S : TS) (bk : Nat) (w : World) (h : Plays B w p S) (hn0 : S.nts.length = 0)
    (c1 : ∀ i, w.cell? ⟨bk, i, none⟩ = (#[.int .i64 6, .int .i64 2, .int .i64 1, .int .i64 0, .int .i64 0, .int .i64 0] : Array Value)[i]?) :
    Calls Try.prog 69 #[.pointer (some ⟨p, 0, none⟩), .pointer (some ⟨bk, 0, none⟩)] w (Post encI B p w (((treeR 3 [tb0, tb1, tb2] 2 1).bind fun _ => .ret 0).run S)) := by
  have hq : Calls Try.prog 17 #[.pointer (some ⟨p, 0, none⟩), .agg #[.int .i64 6, .int .i64 2, .int .i64 1, .int .i64 0, .int .i64 0, .int .i64 0], .int .i64 1] w (Post encU B p w ((treeR 3 [tb0, tb1, tb2] 2 1).run S)) :=
    treerel_p B p 2 S 6 1 0 0 0 1 [tb0, tb1, tb2] w h (by decide) (by decide) (by decide) tb_lay (tree_all tb_lay (by decide)) hn0
  generalize hR : Post encI B p w (((treeR 3 [tb0, tb1, tb2] 2 1).bind fun _ => .ret 0).run S) = R
  have hO : Owes R encI B p w (((treeR 3 [tb0, tb1, tb2] 2 1).bind fun _ => .ret 0).run S) := hR ▸ owes _ _ _ _ _
  clear hR
  have hK := Keep.refl [2, 3, 4] B p w
  go_enter Try.func69, Try.ntmps69
  go_wp2_with fail
  clear c1
  refine tstep hO hK hq (fun _ h => ⟨rfl, h⟩) ?_
  intro v S1 w1 hr hP1 hk1 hK1 hO1
  have hf := hO1.done (v := (0 : Int)) hP1 hK1
  clear hO1 hP1 hK1 hr hk1 hO h hK hq
  go_wp2_with fail
  first | exact hf | (go_ret; exact hf)
@[go_sem] theorem build_lock3 (a b c : Int) (w : World) : (Instr.build 23 #[(0, .int .i64 a), (1, .int .i64 b), (2, .int .i64 c)]).run Try.prog w = .ok (.agg #[.int .i64 a, .int .i64 b, .int .i64 c, .int .i64 0, .int .i64 0, .int .i64 0]) w := run_build w 23 _ _ (by kernel_rfl)
set_option maxRecDepth 100000 in
set_option maxHeartbeats 1000000 in
theorem alive30 (w : World) : Calls Try.prog 19 #[] w fun e w' => e = .returned (.bool true) ∧ Ext w w' := by
  have hmf : ∀ (fn : Fn) (first cap : Array Value) (w : World), (Instr.makeFunc fn first cap).run Try.prog w = .ok (.func fn first cap) w := fun _ _ _ _ => rfl
  have hp32 := fun w => path_p 3 2 w (by decide) (by decide) (by decide)
  rw [show pathL 3 2 = [6, 3] from by decide +kernel] at hp32
  go_enter Try.func19, Try.ntmps19
  go_wp2_with fail
  have b1 := Blk.new w (.cells #[.int .i64 6, .int .i64 2, .int .i64 1, .int .i64 0, .int .i64 0, .int .i64 0] 23)
  have hX := (Ext.refl w).alloc (.cells #[.int .i64 6, .int .i64 2, .int .i64 1, .int .i64 0, .int .i64 0, .int .i64 0] 23)
  have hA := ints_new (w.alloc (.cells #[.int .i64 6, .int .i64 2, .int .i64 1, .int .i64 0, .int .i64 0, .int .i64 0] 23)) [0, 0, 0] (by simp)
  replace b1 := b1.alloc (.cells (([0, 0, 0] : List Int).map (Value.int .i64)).toArray 3)
  replace hX := hX.alloc (.cells (([0, 0, 0] : List Int).map (Value.int .i64)).toArray 3)
  simp only [World.size_alloc, List.map_cons, List.map_nil, List.length_cons, List.length_nil] at b1 hA hX
  have hsz : w.heap.size + 1 < (World.alloc (World.alloc w (.cells #[.int .i64 6, .int .i64 2, .int .i64 1, .int .i64 0, .int .i64 0, .int .i64 0] 23)) (.cells #[.int .i64 0, .int .i64 0, .int .i64 0] 3)).heap.size := by simp
  generalize World.alloc (World.alloc w _) _ = V1 at *
  refine (play_err 68 #[.pointer (some ⟨w.heap.size, 0, none⟩)] (treeA 3 4 [tb0, tb1, tb2] 2 1) none 0 [] (some ⟨w.heap.size + 1, 0, none⟩) 3 [0, 0, 0] V1 (Ints.nil _) (by simp) hA (by decide) (fun k hk => by simp only [Value.ownBlock, Option.some.injEq] at hk; omega) (fun _ _ => rfl) (fun W p hxW hP => ual1 _ p _ w.heap.size W hP (by decide) rfl (b1.ext hxW).cells)).mono ?_
  rintro e y1 ⟨v1, rfl, hO, hx1⟩
  have e1 : ((treeA 3 4 [tb0, tb1, tb2] 2 1).run (TS0 [] [0, 0, 0])).1 = some 0 := by decide +kernel
  have e2 : ((treeA 3 4 [tb0, tb1, tb2] 2 1).run (TS0 [] [0, 0, 0])).2.acc.length = 3 := by decide +kernel
  rw [e1] at hO ⊢
  generalize ((treeA 3 4 [tb0, tb1, tb2] 2 1).run (TS0 [] [0, 0, 0])).2 = S1 at *
  obtain ⟨A1, c1, A1', c1', vs1, L1, rfl, hO⟩ := hO
  obtain ⟨As1, k1, hvs1, _, _⟩ := hO.locs.slice
  subst hvs1
  unfold outV
  rw [e2] at *
  simp only [Option.getD_some, Option.isSome_some]
  replace hX := hX.trans hx1
  replace b1 := b1.ext hx1
  clear e1 e2 hO hx1 hA hsz
  go_wp2_with fail
  have n1 := Blk.new y1 (.cells #[.bool true, .slice A1 3 c1, .slice A1' S1.nts.length c1', .slice As1 (shortL L1).length k1] 30)
  replace b1 := b1.alloc (.cells #[.bool true, .slice A1 3 c1, .slice A1' S1.nts.length c1', .slice As1 (shortL L1).length k1] 30)
  replace hX := hX.alloc (.cells #[.bool true, .slice A1 3 c1, .slice A1' S1.nts.length c1', .slice As1 (shortL L1).length k1] 30)
  have hA := ints_new (y1.alloc (.cells #[.bool true, .slice A1 3 c1, .slice A1' S1.nts.length c1', .slice As1 (shortL L1).length k1] 30)) [0] (by simp)
  replace n1 := n1.alloc (.cells (([0] : List Int).map (Value.int .i64)).toArray 3)
  replace b1 := b1.alloc (.cells (([0] : List Int).map (Value.int .i64)).toArray 3)
  replace hX := hX.alloc (.cells (([0] : List Int).map (Value.int .i64)).toArray 3)
  simp only [World.size_alloc, List.map_cons, List.map_nil, List.length_cons, List.length_nil] at b1 hA n1 hX
  have hsz : y1.heap.size + 1 < (World.alloc (World.alloc y1 (.cells #[.bool true, .slice A1 3 c1, .slice A1' S1.nts.length c1', .slice As1 (shortL L1).length k1] 30)) (.cells #[.int .i64 0] 3)).heap.size := by simp
  generalize World.alloc (World.alloc y1 _) _ = V2 at *
  refine (play_int 69 #[.pointer (some ⟨w.heap.size, 0, none⟩)] ((treeR 3 [tb0, tb1, tb2] 2 1).bind fun _ => .ret 0) none 0 [] (some ⟨y1.heap.size + 1, 0, none⟩) 1 [0] V2 (Ints.nil _) (by simp) hA (by decide) (fun k hk => by simp only [Value.ownBlock, Option.some.injEq] at hk; omega) (fun _ _ => rfl) (fun W p hxW hP => ual2 _ p _ w.heap.size W hP rfl (b1.ext hxW).cells)).mono ?_
  rintro e y2 ⟨v2, rfl, hO, hx2⟩
  have e1 : (((treeR 3 [tb0, tb1, tb2] 2 1).bind fun _ => Prog.ret (0 : Int)).run (TS0 [] [0])).1 = some 0 := by decide +kernel
  have e2 : (((treeR 3 [tb0, tb1, tb2] 2 1).bind fun _ => Prog.ret (0 : Int)).run (TS0 [] [0])).2.acc.length = 1 := by decide +kernel
  rw [e1] at hO ⊢
  generalize (((treeR 3 [tb0, tb1, tb2] 2 1).bind fun _ => Prog.ret (0 : Int)).run (TS0 [] [0])).2 = S2 at *
  obtain ⟨A2, c2, A2', c2', vs2, L2, rfl, hO⟩ := hO
  obtain ⟨As2, k2, hvs2, _, _⟩ := hO.locs.slice
  subst hvs2
  unfold outV
  rw [e2] at *
  simp only [Option.getD_some, Option.isSome_some]
  replace hX := hX.trans hx2
  replace n1 := n1.ext hx2
  have n2 := Blk.new y2 (.cells #[.bool true, .slice A2 1 c2, .slice A2' S2.nts.length c2', .slice As2 (shortL L2).length k2] 30)
  replace n1 := n1.alloc (.cells #[.bool true, .slice A2 1 c2, .slice A2' S2.nts.length c2', .slice As2 (shortL L2).length k2] 30)
  replace hX := hX.alloc (.cells #[.bool true, .slice A2 1 c2, .slice A2' S2.nts.length c2', .slice As2 (shortL L2).length k2] 30)
  clear e1 e2 hO hx2 hA hsz b1
  go_wp2_with fail
  generalize y2.alloc _ = Y2 at *
  refine (hp32 _).mono ?_
  rintro e w3 ⟨v3, rfl, hrow, hx⟩
  have hI := hrow.ints
  replace n1 := n1.ext hx
  replace n2 := n2.ext hx
  replace hX := hX.trans hx
  clear hrow hx hp32
  go_wp2_with fail
  have hI1 := hI.ext ((Ext.refl w3).alloc (.cells (([6, 3] : List Int).map (Value.int .i64)).toArray 3))
  have hI2 := ints_new w3 [6, 3] (by simp)
  replace n1 := n1.alloc (.cells (([6, 3] : List Int).map (Value.int .i64)).toArray 3)
  replace n2 := n2.alloc (.cells (([6, 3] : List Int).map (Value.int .i64)).toArray 3)
  replace hX := hX.alloc (.cells (([6, 3] : List Int).map (Value.int .i64)).toArray 3)
  simp only [List.map_cons, List.map_nil, List.length_cons, List.length_nil] at hI1 hI2 n1 n2 hX
  refine (ints_r _ _ _ _ _ hI1 hI2).mono ?_
  rintro e w4 ⟨rfl, q, rfl⟩
  generalize w3.alloc _ = Y3 at *
  replace n1 := n1.ext ((Ext.refl Y3).drewN q)
  replace n2 := n2.ext ((Ext.refl Y3).drewN q)
  replace hX := hX.trans ((Ext.refl Y3).drewN q)
  generalize Y3.drewN q = Y4 at *
  simp only [decide_true]
  have c_n1 := n1.cells
  have c_n2 := n2.cells
  have hXh := Lib.hid hX
  clear hX hI1 hI2 hI
  go_wp2_with fail
  refine (twants_p 7 3 _ (by decide) (by decide)).mono ?_
  rintro e w5 ⟨v5, rfl, hw5, hx5⟩
  rw [show List.replicate (eachK 7 * (2 ^ levels ((3 : Nat) : Int) - 1)) (⟨-1, 1⟩ : Want) = List.replicate 12 ⟨-1, 1⟩ from by rw [show eachK 7 * (2 ^ levels ((3 : Nat) : Int) - 1) = 12 from by decide +kernel]] at hw5
  obtain ⟨A5, c5, rfl, -, -, -⟩ := hw5
  rw [List.length_replicate]
  have hf := Lib.hid (hXh.out.trans hx5)
  clear hx5 hmf n1 n2 c_n1 c_n2
  go_wp2_with fail
  refine (path_none_p 0 0 _ (.inl (by decide))).mono ?_
  rintro e w6 ⟨rfl, rfl⟩
  go_wp2_with fail
  go_ret
  exact ⟨rfl, hf.out⟩
end Go.Proofs.Ytbphlkaihfbgeaa
/-
  TreeAlone: whoever is alone is in; two paths meet.
-/
namespace Go.Proofs.Ytbphlkaihfbgeaa
open Go.RowKit Kv
theorem talone1 (B p : Nat) (S : TS) (alg : Int) (N m : Nat) (bk bt : Nat) (w : World) (h : Plays B w p S) (halg : alg = 6 ∨ alg = 7) (h1 : 1 ≤ N) (h2 : N ≤ 8) (hm : m < N) (hD : S.left < 41) (hn0 : S.nts.length = 0)
    (c1 : ∀ i, w.cell? ⟨bk, i, none⟩ = (#[.int .i64 alg, .int .i64 N, .int .i64 1, .int .i64 0, .int .i64 0, .int .i64 0] : Array Value)[i]?) (c2 : w.cell? ⟨bt, 0, none⟩ = some (.int .i64 m)) :
    Calls Try.prog 13 #[.pointer (some ⟨p, 0, none⟩), .pointer (some ⟨bk, 0, none⟩), .pointer (some ⟨bt, 0, none⟩)] w (Post encI B p w ((treeA (eachK alg) 41 (natT (eachK alg) N) N m).run S)) := by
  have hl := nat_lay (E := eachK alg) (by rcases halg with rfl | rfl; exact .inl rfl; exact .inr rfl) h1 h2
  have hq : Calls Try.prog 14 #[.pointer (some ⟨p, 0, none⟩), .agg #[.int .i64 alg, .int .i64 N, .int .i64 1, .int .i64 0, .int .i64 0, .int .i64 0], .int .i64 m] w (Post encI B p w ((treeA (eachK alg) 41 (natT (eachK alg) N) N m).run S)) :=
    treeacq_p B p N 41 S alg 1 0 0 0 m (natT (eachK alg) N) w h h1 (by omega) hm hl (tree_all hl hm) hD hn0
  generalize hR : Post encI B p w ((treeA (eachK alg) 41 (natT (eachK alg) N) N m).run S) = R
  have hO : Owes R encI B p w ((treeA (eachK alg) 41 (natT (eachK alg) N) N m).run S) := hR ▸ owes _ _ _ _ _
  clear hR
  have hK := Keep.refl [2, 3, 4] B p w
  clear hl
  go_enter Try.func13, Try.ntmps13
  go_wp2_with fail
  clear c1 c2
  refine tlast hO hK hq (fun _ h => ⟨rfl, h⟩) ?_
  intro v S1 w1 hr hP1 hk1 hK1 hO1
  have hf := hO1.done hP1 hK1
  clear hO1 hP1 hK1 hr hk1 hO h hK hq
  go_wp2_with fail
  first | exact hf | (go_ret; exact hf)
theorem talone2 (B p : Nat) (S : TS) (alg : Int) (N m : Nat) (bk bt : Nat) (w : World) (h : Plays B w p S) (halg : alg = 6 ∨ alg = 7) (h1 : 1 ≤ N) (h2 : N ≤ 8) (hm : m < N) (hn0 : S.nts.length = 0)
    (c1 : ∀ i, w.cell? ⟨bk, i, none⟩ = (#[.int .i64 alg, .int .i64 N, .int .i64 1, .int .i64 0, .int .i64 0, .int .i64 0] : Array Value)[i]?) (c2 : w.cell? ⟨bt, 0, none⟩ = some (.int .i64 m)) :
    Calls Try.prog 16 #[.pointer (some ⟨p, 0, none⟩), .pointer (some ⟨bk, 0, none⟩), .pointer (some ⟨bt, 0, none⟩)] w (Post encI B p w (((treeR (eachK alg) (natT (eachK alg) N) N m).bind fun _ => .ret 0).run S)) := by
  have hl := nat_lay (E := eachK alg) (by rcases halg with rfl | rfl; exact .inl rfl; exact .inr rfl) h1 h2
  have hq : Calls Try.prog 17 #[.pointer (some ⟨p, 0, none⟩), .agg #[.int .i64 alg, .int .i64 N, .int .i64 1, .int .i64 0, .int .i64 0, .int .i64 0], .int .i64 m] w (Post encU B p w ((treeR (eachK alg) (natT (eachK alg) N) N m).run S)) :=
    treerel_p B p N S alg 1 0 0 0 m (natT (eachK alg) N) w h h1 (by omega) hm hl (tree_all hl hm) hn0
  generalize hR : Post encI B p w (((treeR (eachK alg) (natT (eachK alg) N) N m).bind fun _ => .ret 0).run S) = R
  have hO : Owes R encI B p w (((treeR (eachK alg) (natT (eachK alg) N) N m).bind fun _ => .ret 0).run S) := hR ▸ owes _ _ _ _ _
  clear hR
  have hK := Keep.refl [2, 3, 4] B p w
  clear hl
  go_enter Try.func16, Try.ntmps16
  go_wp2_with fail
  clear c1 c2
  refine tstep hO hK hq (fun _ h => ⟨rfl, h⟩) ?_
  intro v S1 w1 hr hP1 hk1 hK1 hO1
  have hf := hO1.done (v := (0 : Int)) hP1 hK1
  clear hO1 hP1 hK1 hr hk1 hO h hK hq
  go_wp2_with fail
  first | exact hf | (go_ret; exact hf)
end Go.Proofs.Ytbphlkaihfbgeaa
/-
  TreeAlone, walked.
-/
namespace Go.Proofs.Ytbphlkaihfbgeaa
open Go.RowKit Kv
set_option maxRecDepth 100000 in
set_option maxHeartbeats 2000000 in
theorem talone_walk (n me : Nat) (ks : Bool) (w : World) (hn : n < 256) (hme : me < 256) : Calls Try.prog 3 #[.int .u8 n, .int .u8 me, .bool ks] w fun e w' => e = .returned (.bool true) ∧ Ext w w' := by
  have hmf : ∀ (fn : Fn) (first cap : Array Value) (w : World), (Instr.makeFunc fn first cap).run Try.prog w = .ok (.func fn first cap) w := fun _ _ _ _ => rfl
  obtain ⟨N, hN⟩ : ∃ N : Nat, 1 + (n : Int) % 8 = N := ⟨1 + n % 8, by omega⟩
  have h1 : 1 ≤ N := by omega
  have h2 : N ≤ 8 := by omega
  obtain ⟨m, hm⟩ : ∃ m : Nat, (me : Int) % (N : Int) = m := ⟨me % N, by omega⟩
  have hm1 : m < N := by
    have := Int.emod_lt_of_pos (me : Int) (show (0 : Int) < N by omega)
    omega
  obtain ⟨L, hL⟩ : ∃ L : Nat, levels (N : Int) = L := ⟨_, rfl⟩
  have hlv := fun w => levels_r (N : Int) (by omega) w
  rw [hL] at hlv
  go_enter Try.func3, Try.ntmps3
  go_upto_if 27 with fail
  go_cut [9] (fun s9 wx => ∃ (alg : Int) (E : Nat), (alg = 6 ∧ E = 3 ∨ alg = 7 ∧ E = 4) ∧ s9 = .int .i64 E ∧ Blk wx w.heap.size (.cells #[.int .i64 alg, .int .i64 N, .int .i64 1, .int .i64 0, .int .i64 0, .int .i64 0] 23) ∧ Ext w wx)
  case first =>
    have b1 := Blk.new w (.cells #[.int .i64 6, .int .i64 N, .int .i64 1, .int .i64 0, .int .i64 0, .int .i64 0] 23)
    have hX := (Ext.refl w).alloc (.cells #[.int .i64 6, .int .i64 N, .int .i64 1, .int .i64 0, .int .i64 0, .int .i64 0] 23)
    cases ks with
    | false =>
      go_wp2_with fail
      go_meet
      exact ⟨6, 3, .inl ⟨rfl, rfl⟩, rfl, b1, hX⟩
    | true =>
      go_wp2_with fail
      go_meet
      exact ⟨7, 4, .inr ⟨rfl, rfl⟩, rfl, Blk.new w _, (Ext.refl w).alloc _⟩
  case rest =>
  obtain ⟨alg, E, hAE, rfl, b1, hX⟩ := hcut
  have hE : eachK alg = E := by rcases hAE with ⟨rfl, rfl⟩ | ⟨rfl, rfl⟩ <;> rfl
  have halg : alg = 6 ∨ alg = 7 := by rcases hAE with ⟨rfl, _⟩ | ⟨rfl, _⟩; exact .inl rfl; exact .inr rfl
  have hE4 : E = 3 ∨ E = 4 := by rcases hAE with ⟨_, rfl⟩ | ⟨_, rfl⟩; exact .inl rfl; exact .inr rfl
  obtain ⟨r1, r2, r3, r4⟩ := ta_is hE4 h1 h2 hm1
  rw [hL] at r2 r4
  have hLe := lev_le (show N ≤ 64 by omega)
  rw [hL] at hLe
  have hr := Lib.hid (And.intro r1 (And.intro r2 (And.intro r3 r4)))
  have hmul : E * L ≤ 4 * 6 := Nat.mul_le_mul (by omega) hLe
  have hw1 : IntKind.i64.wrap ((E : Int) * (L : Int)) = ((E * L : Nat) : Int) := by
    rw [IntWalk.i64_in _ (by rw [← Int.natCast_mul]; omega), Int.natCast_mul]
  clear r1 r2 r3 r4 hAE
  have hbk := b1.lt
  generalize hbkw : w.heap.size = bk at *
  clear hbkw
  have hmk : ∀ w, (Instr.makeSlice 28 (.int .i64 40) (.int .i64 40)).run Try.prog w = .ok (.slice (some ⟨w.heap.size, 0, none⟩) 40 40) (w.alloc (.cells ((zeros 40).map (Value.int .i64)).toArray 3)) := fun w => make_ints 40 40 rfl (by decide) w
  have hzl : (zeros 40).length = 40 := by simp [zeros]
  go_wp2_with fail
  refine (hlv _).mono ?_
  rintro e w' ⟨rfl, rfl⟩
  have b2 := Blk.new wc (.cells #[.int .i64 m] 3)
  replace b1 := b1.alloc (.cells #[.int .i64 m] 3)
  replace hX := hX.alloc (.cells #[.int .i64 m] 3)
  generalize wc.heap.size = bt at *
  generalize wc.alloc _ = V0 at *
  go_wp2_with fail
  have hA := ints_new V0 (zeros 40) (by simp [zeros])
  rw [hzl] at hA
  replace b1 := b1.alloc (.cells ((zeros 40).map (Value.int .i64)).toArray 3)
  replace b2 := b2.alloc (.cells ((zeros 40).map (Value.int .i64)).toArray 3)
  replace hX := hX.alloc (.cells ((zeros 40).map (Value.int .i64)).toArray 3)
  have hsz : V0.heap.size < (V0.alloc (.cells ((zeros 40).map (Value.int .i64)).toArray 3)).heap.size := by simp
  generalize V0.heap.size = bz at *
  generalize V0.alloc _ = V1 at *
  have hPl := play_err 13 #[.pointer (some ⟨bk, 0, none⟩), .pointer (some ⟨bt, 0, none⟩)] (treeA E 41 (natT E N) N m) none 0 [] (some ⟨bz, 0, none⟩) 40 (zeros 40) V1 (Ints.nil _) (by simp) hA (by rw [hzl]; decide) (fun k hk => by simp only [Value.ownBlock, Option.some.injEq] at hk; omega) (fun _ _ => rfl)
    (fun W p hxW hP => by
      have := talone1 _ p _ alg N m bk bt W hP halg h1 h2 hm1 (by simp [TS.left, TS0, zeros]) rfl (b1.ext hxW).cells ((b2.ext hxW).cells 0)
      rw [hE] at this
      exact this)
  rw [show (treeA E 41 (natT E N) N m).run (TS0 [] (zeros 40)) = taA E N m from rfl, hr.out.1] at hPl
  rw [hzl] at hPl
  have hlen : (taA E N m).2.acc.length = E * L := hr.out.2.1
  clear hA hsz
  generalize (taA E N m).2 = S1 at *
  simp only [Option.getD_some, Option.isSome_some] at hPl
  refine hPl.mono ?_
  rintro e y1 ⟨v1, rfl, hO, hx1⟩
  obtain ⟨A1, c1, A1', c1', vs1, L1, rfl, hO⟩ := hO
  obtain ⟨As1, k1, hvs1, _, _⟩ := hO.locs.slice
  subst hvs1
  unfold outV
  rw [hlen]
  replace hX := hX.trans hx1
  replace b1 := b1.ext hx1
  replace b2 := b2.ext hx1
  clear hlen hO hx1 hPl
  go_wp2_with fail
  have n1 := Blk.new y1 (.cells #[.bool true, .slice A1 (E * L) c1, .slice A1' S1.nts.length c1', .slice As1 (shortL L1).length k1] 30)
  replace b1 := b1.alloc (.cells #[.bool true, .slice A1 (E * L) c1, .slice A1' S1.nts.length c1', .slice As1 (shortL L1).length k1] 30)
  replace b2 := b2.alloc (.cells #[.bool true, .slice A1 (E * L) c1, .slice A1' S1.nts.length c1', .slice As1 (shortL L1).length k1] 30)
  replace hX := hX.alloc (.cells #[.bool true, .slice A1 (E * L) c1, .slice A1' S1.nts.length c1', .slice As1 (shortL L1).length k1] 30)
  have hA := ints_new (y1.alloc (.cells #[.bool true, .slice A1 (E * L) c1, .slice A1' S1.nts.length c1', .slice As1 (shortL L1).length k1] 30)) (zeros 40) (by simp [zeros])
  rw [hzl, World.size_alloc] at hA
  replace n1 := n1.alloc (.cells ((zeros 40).map (Value.int .i64)).toArray 3)
  replace b1 := b1.alloc (.cells ((zeros 40).map (Value.int .i64)).toArray 3)
  replace b2 := b2.alloc (.cells ((zeros 40).map (Value.int .i64)).toArray 3)
  replace hX := hX.alloc (.cells ((zeros 40).map (Value.int .i64)).toArray 3)
  have hsz : y1.heap.size + 1 < ((y1.alloc (.cells #[.bool true, .slice A1 (E * L) c1, .slice A1' S1.nts.length c1', .slice As1 (shortL L1).length k1] 30)).alloc (.cells ((zeros 40).map (Value.int .i64)).toArray 3)).heap.size := by simp
  generalize World.alloc (y1.alloc _) _ = V3 at *
  generalize y1.heap.size = bo1 at *
  have hPl := play_int 16 #[.pointer (some ⟨bk, 0, none⟩), .pointer (some ⟨bt, 0, none⟩)] ((treeR E (natT E N) N m).bind fun _ => .ret 0) none 0 [] (some ⟨bo1 + 1, 0, none⟩) 40 (zeros 40) V3 (Ints.nil _) (by simp) hA (by rw [hzl]; decide) (fun k hk => by simp only [Value.ownBlock, Option.some.injEq] at hk; omega) (fun _ _ => rfl)
    (fun W p hxW hP => by
      have := talone2 _ p _ alg N m bk bt W hP halg h1 h2 hm1 rfl (b1.ext hxW).cells ((b2.ext hxW).cells 0)
      rw [hE] at this
      exact this)
  rw [show ((treeR E (natT E N) N m).bind fun _ => Prog.ret (0 : Int)).run (TS0 [] (zeros 40)) = taR E N m from rfl, hr.out.2.2.1] at hPl
  rw [hzl] at hPl
  have hlen : (taR E N m).2.acc.length = L := hr.out.2.2.2
  clear hA hsz hr b1
  generalize (taR E N m).2 = S2 at *
  simp only [Option.getD_some, Option.isSome_some] at hPl
  refine hPl.mono ?_
  rintro e y2 ⟨v2, rfl, hO, hx2⟩
  obtain ⟨A2, c2, A2', c2', vs2, L2, rfl, hO⟩ := hO
  obtain ⟨As2, k2, hvs2, _, _⟩ := hO.locs.slice
  subst hvs2
  unfold outV
  rw [hlen]
  replace hX := hX.trans hx2
  replace n1 := n1.ext hx2
  replace b2 := b2.ext hx2
  clear hlen hO hx2 hPl
  have n2 := Blk.new y2 (.cells #[.bool true, .slice A2 L c2, .slice A2' S2.nts.length c2', .slice As2 (shortL L2).length k2] 30)
  replace n1 := n1.alloc (.cells #[.bool true, .slice A2 L c2, .slice A2' S2.nts.length c2', .slice As2 (shortL L2).length k2] 30)
  replace b2 := b2.alloc (.cells #[.bool true, .slice A2 L c2, .slice A2' S2.nts.length c2', .slice As2 (shortL L2).length k2] 30)
  replace hX := hX.alloc (.cells #[.bool true, .slice A2 L c2, .slice A2' S2.nts.length c2', .slice As2 (shortL L2).length k2] 30)
  have c_n1 := n1.cells
  have c_n2 := n2.cells
  have hXh := Lib.hid hX
  clear n1 n2 hX
  go_wp2_with fail
  clear c_n1 c_n2 hmk
  generalize y2.heap.size = bo2 at *
  generalize y2.alloc _ = V4 at *
  go_loopw [16] (fun i wr => ∃ x : Nat, i = .int .i64 x ∧ x ≤ N ∧ Ext V4 wr) (fun i _ => N - (intOf i).toNat)
  case atStart => exact ⟨0, rfl, by omega, Ext.refl _⟩
  case round =>
    obtain ⟨x, rfl, hx, hX⟩ := hrel
    by_cases hxN : x < N
    · have dx : decide ((x : Int) < (N : Int)) = true := by rw [decide_eq_true_eq]; omega
      obtain ⟨e1, e2, e3⟩ := met_is h2 hm1 hxN
      obtain ⟨f1, -, f3⟩ := met_is h2 hxN hm1
      rw [hL] at e1 e2 e3 f1 f3
      have c_b2 := (b2.ext hX).cells
      go_wp2_with fail
      refine (path_p N m _ h1 (by omega) hm1).mono ?_
      rintro e w5 ⟨v5, rfl, hrow5, hx5⟩
      have hI5 := hrow5.ints
      clear hrow5
      go_wp2_with fail
      refine (path_p N x _ h1 (by omega) hxN).mono ?_
      rintro e w6 ⟨v6, rfl, hrow6, hx6⟩
      have hI6 := hrow6.ints
      replace hI5 := hI5.ext hx6
      have hX6 := hX.trans (hx5.trans hx6)
      clear hrow6 c_b2 hx5 hx6
      obtain ⟨A5, c5, rfl, -, -⟩ := hI5.slice
      obtain ⟨A6, c6, rfl, -, -⟩ := hI6.slice
      have c_b2 := (b2.ext hX6).cells
      generalize hla : pathL N m = la at *
      generalize hlb : pathL N x = lb at *
      rw [e1] at hI5
      rw [f1] at hI6
      rw [e1, f1]
      have e3h := Lib.hid e3
      have f3h := Lib.hid f3
      have e2h := Lib.hid e2
      clear e3 f3 e2 e1 f1 hla hlb
      go_wp2_with fail
      have hmt : ((x : Int) == (m : Int)) = (x == m) := by
        by_cases h : x = m
        · subst h; simp
        · rw [beq_eq_false_iff_ne.2 h, beq_eq_false_iff_ne]; omega
      go_loopw [19, 20] (fun u i wr => ∃ k : Nat, i = .int .i64 k ∧ k ≤ L ∧ u = .bool (metI la lb (x == m) k) ∧ Ext w6 wr) (fun _ i _ => L - (intOf i).toNat)
      case atStart => exact ⟨0, rfl, by omega, by first | rfl | (rw [← hmt]; rfl), Ext.refl _⟩
      case round =>
        obtain ⟨k, rfl, hk, rfl, hXk⟩ := hrel
        by_cases hkL : k < L
        · have dk : decide ((k : Int) < (L : Int)) = true := by rw [decide_eq_true_eq]; omega
          obtain ⟨p1, p2, p3⟩ := e3h.out k hkL
          obtain ⟨p4, p5, -⟩ := f3h.out k hkL
          obtain ⟨g5, o5, rfl, hg5, z5⟩ := (hI5.ext hXk).at_ hkL
          obtain ⟨g6, o6, rfl, hg6, z6⟩ := (hI6.ext hXk).at_ hkL
          have hs : metI la lb (x == m) (k + 1) = (metI la lb (x == m) k || (la.getD k 0 / 2 == lb.getD k 0 / 2 && la.getD k 0 % 2 != lb.getD k 0 % 2)) := rfl
          generalize la.getD k 0 = a at *
          generalize lb.getD k 0 = b at *
          generalize metI la lb (x == m) k = mt at *
          generalize hmt2 : metI la lb (x == m) (k + 1) = mt2 at *
          have q1 : IntKind.i64.wrap (a.tdiv 2) = a / 2 := by
            rw [Int.tdiv_eq_ediv_of_nonneg p1]
            exact IntWalk.i64_in _ (by omega)
          have q2 : IntKind.i64.wrap (b.tdiv 2) = b / 2 := by
            rw [Int.tdiv_eq_ediv_of_nonneg p4]
            exact IntWalk.i64_in _ (by omega)
          have q3 : a.tmod 2 = a % 2 := Int.tmod_eq_emod_of_nonneg p1
          have q4 : b.tmod 2 = b % 2 := Int.tmod_eq_emod_of_nonneg p4
          have hf3 : (a == b && !mt2) = false := by
            by_cases hab : a = b
            · rw [p3 hab]; simp
            · rw [beq_eq_false_iff_ne.2 hab]; rfl
          clear p3
          have hres : mt2 = (mt || (a / 2 == b / 2 && a % 2 != b % 2)) := hs
          have hxx := Lib.hid hmt2
          clear hs hmt2
          by_cases hd : a / 2 = b / 2
          · have d1 : (a / 2 == b / 2) = true := by rw [beq_iff_eq]; exact hd
            by_cases hr2 : a % 2 = b % 2
            · have d2 : (a % 2 != b % 2) = false := by simpa using hr2
              have hm3 : mt2 = mt := by rw [hres, d1, d2]; simp
              clear hres hd hr2
              subst hm3
              by_cases hab : a = b
              · have d3 : (a == b) = true := by rw [beq_iff_eq]; exact hab
                rw [d3] at hf3
                have hm4 : mt2 = true := by simpa using hf3
                clear hf3 hab
                subst hm4
                go_wp2_with fail
                go_quiet (fail)
                go_wp2_with fail
                go_quiet (fail)
                go_wp2_with fail
                refine ⟨⟨k + 1, by go_num, by omega, by rw [hxx.out], hXk.drewN _⟩, ?_⟩
                simp [intOf]; omega
              · have d3 : (a == b) = false := by rw [beq_eq_false_iff_ne]; exact hab
                clear hf3 hab
                go_wp2_with fail
                go_quiet (fail)
                go_wp2_with fail
                go_quiet (fail)
                go_wp2_with fail
                refine ⟨⟨k + 1, by go_num, by omega, by rw [hxx.out], hXk.drewN _⟩, ?_⟩
                simp [intOf]; omega
            · have d2 : (a % 2 != b % 2) = true := by simpa using hr2
              have hm3 : mt2 = true := by rw [hres, d1, d2]; simp
              have d3 : (a == b) = false := by rw [beq_eq_false_iff_ne]; rintro rfl; exact hr2 rfl
              clear hres hd hr2 hf3
              subst hm3
              go_wp2_with fail
              go_quiet (fail)
              go_wp2_with fail
              go_quiet (fail)
              go_wp2_with fail
              refine ⟨⟨k + 1, by go_num, by omega, by rw [hxx.out], hXk.drewN _⟩, ?_⟩
              simp [intOf]; omega
          · have d1 : (a / 2 == b / 2) = false := by rw [beq_eq_false_iff_ne]; exact hd
            have hm3 : mt2 = mt := by rw [hres, d1]; simp
            have d3 : (a == b) = false := by rw [beq_eq_false_iff_ne]; rintro rfl; exact hd rfl
            clear hres hd hf3
            subst hm3
            go_wp2_with fail
            go_quiet (fail)
            go_wp2_with fail
            go_quiet (fail)
            go_wp2_with fail
            refine ⟨⟨k + 1, by go_num, by omega, by rw [hxx.out], hXk.drewN _⟩, ?_⟩
            simp [intOf]; omega
        · obtain rfl : L = k := by omega
          have dk : decide ((L : Int) < (L : Int)) = false := by simp
          have e2 := e2h.out
          have hX7 := hX6.trans hXk
          clear hI5 hI6 e3h f3h
          go_wp2_with fail
          refine ⟨⟨x + 1, by go_num, by omega, hX7⟩, ?_⟩
          simp [intOf]; omega
    · obtain rfl : N = x := by omega
      have dx : decide ((N : Int) < (N : Int)) = false := by simp
      go_wp2_with fail
      refine (alive30 _).mono ?_
      rintro e w9 ⟨rfl, hx9⟩
      have hf := Lib.hid (hXh.out.trans (hX.trans hx9))
      clear hx9
      go_wp2_with fail
      go_ret
      exact ⟨rfl, hf.out⟩
end Go.Proofs.Ytbphlkaihfbgeaa
/-
  TreeAlone: the input opened.
-/
namespace Go.Proofs.Ytbphlkaihfbgeaa.treeAlone
open Go.ChangeShapes Go.WideShapes Go.ChangeAt Go.RowKit Kv
set_option maxRecDepth 100000 in
theorem main (H : Type) (enc : TypeId × Value → H) (W : World) (base : Nat) (args : Array Value) (ds : List (DataW H)) (p : List MemPlace)
    (hval : ∀ (j : Nat) t v, Try.f3.params[j]? = some t → args[j]? = some v → Value.okWide Try.prog W .any base t v)
    (hA : DataW.TrodAll enc Try.prog W 0 (fun _ => true) true Try.f3.params.toList args.toList ds p) (_hL : laidMetH Try.prog Rows.treeAloneRow.laid W) :
    Calls Try.prog 3 args W fun e w' => e = .returned (.bool true) ∧ Ext W w' := by
  rw [Try.params3] at hA hval
  obtain ⟨v0, vs0, d0, ds0, p0, q0, hargs, rfl, rfl, h0, r0⟩ := trodAll_cons hA
  obtain ⟨v1, vs1, d1, ds1, p1, q1, rfl, rfl, rfl, h1, r1⟩ := trodAll_cons r0
  obtain ⟨v2, vs2, d2, ds2, p2, q2, rfl, rfl, rfl, h2, r2⟩ := trodAll_cons r1
  obtain ⟨rfl, rfl, rfl⟩ := trodAll_nil r2
  obtain rfl : args = #[v0, v1, v2] := by cases args; simp_all
  obtain ⟨s, rfl, rfl, rfl, ws⟩ := open_int Try.underlying5 (hval 0 5 v0 rfl rfl) h0
  obtain ⟨t, rfl, rfl, rfl, wt⟩ := open_int Try.underlying5 (hval 1 5 v1 rfl rfl) h1
  obtain ⟨ks, rfl, rfl, rfl⟩ := open_bool Try.underlying4 (hval 2 4 v2 rfl rfl) h2
  have hs := bounds_u8 ws
  have ht := bounds_u8 wt
  obtain ⟨n, rfl⟩ : ∃ n : Nat, s = (n : Int) := ⟨s.toNat, by omega⟩
  obtain ⟨me, rfl⟩ : ∃ n : Nat, t = (n : Int) := ⟨t.toNat, by omega⟩
  exact talone_walk n me ks W (by omega) (by omega)
end Go.Proofs.Ytbphlkaihfbgeaa.treeAlone
/-
  TreeAlone holds: whoever is alone climbs a tree by three or four accesses for each level, and comes down by one for each; two paths meet.
-/
namespace Go.Proofs.Ytbphlkaihfbgeaa.treeAlone
open Go.ChangeShapes Go.WideShapes Go.ChangeAt Go.RowKit

theorem laidOut : laidOutB Try.prog = true := by kernel_rfl
set_option maxRecDepth 100000 in
theorem contract (H : Type) (enc : TypeId × Value → H) (W : World) (base : Nat) (args : Array Value) (ds gs : List (DataW H)) (before : List MemPlace)
    (hval : ∀ (j : Nat) t v, Try.f3.params[j]? = some t → args[j]? = some v → Value.okWide Try.prog W .any base t v)
    (hW : DataW.Whole enc Try.prog Try.f3.params.toList Rows.treeAloneSpec.vars false W args.toList ds gs before) (hL : laidMetH Try.prog Rows.treeAloneRow.laid W) :
    Calls Try.prog 3 args W fun e W' => ∃ v, e = .returned v ∧ Rows.treeAloneSpec.post enc Try.prog Try.f3 false true false false W args v W' := by
  refine (main H enc W base args ds before hval (by obtain ⟨p, q, hA, hV, hpq, _, _⟩ := hW; obtain ⟨_, rfl⟩ := trodVars_none hV; rw [List.append_nil] at hpq; subst hpq; exact hA) hL).mono fun e W' ⟨he, hg⟩ => ⟨_, he, ?_⟩
  refine law_post (tb := 4) laidOut ?_ (by kernel_rfl) Try.underlying4 rfl ?_ hW hg
  · rw [Try.params3]
    intro t ht
    simp only [List.mem_cons, List.not_mem_nil, or_false] at ht
    rcases ht with rfl | rfl | rfl <;> exact ⟨by kernel_rfl, of_decide_eq_true (by kernel_rfl)⟩
  · intro ds hl
    rw [Try.params3] at hl
    match ds, hl with
    | [d0, d1, d2], _ => rfl
set_option maxRecDepth 100000 in
theorem laid_met (os : Os) : laidMet Try.prog Rows.treeAloneRow.laid (((World.holding Try.prog os ⟨#[], #[], []⟩)).forCall (fun _ _ => 0) ⟨#[], #[.int .u8 0, .int .u8 0, .bool false], []⟩).memory :=
  laidMet_of_run' 8 (by kernel_rfl) (by kernel_rfl)
set_option maxRecDepth 100000 in
theorem reads (os : Os) {H : Type} (enc : TypeId × Value → H) : ∃ places, DataW.whole enc Try.prog (((World.holding Try.prog os ⟨#[], #[], []⟩)).forCall (fun _ _ => 0) ⟨#[], #[.int .u8 0, .int .u8 0, .bool false], []⟩).memory Try.f3.params.toList Rows.treeAloneSpec.vars false (#[.int .u8 0, .int .u8 0, .bool false] : Array Value).toList 8 = some ([.lit (.int .u8 0), .lit (.int .u8 0), .lit (.bool false)], [], places) :=
  ⟨[], by kernel_rfl⟩
set_option maxRecDepth 100000 in
theorem lifted (os : Os) (started : os.Started) (H : Type) (enc : TypeId × Value → H) (F : Stop.Interp) :
    ReturnsInHanded {} Try.checked os 3 .any ((OpenSpec.ofChange Rows.treeAloneSpec).preRow enc Try.prog Try.f3 Rows.treeAloneRow.domain false Rows.treeAloneRow.laid) (((OpenSpec.ofChange Rows.treeAloneSpec).at F).post enc Try.prog Try.f3 false true false false) := by
  obtain ⟨places, hx⟩ := reads os enc
  refine returnsInHanded_of_row (C := Try.checked) (s := (OpenSpec.ofChange Rows.treeAloneSpec)) own started (by kernel_rfl) Try.func3
    (witness_row_at (enc := enc) (C := Try.checked) false (World.holding Try.prog os ⟨#[], #[], []⟩) #[.int .u8 0, .int .u8 0, .bool false] rfl (by kernel_rfl) (by kernel_rfl) (by kernel_rfl)
      (OpenSpec.preRow_of_cond 8 hx (by kernel_rfl) (fun k hk => by cases hk) (by kernel_rfl) (laid_met os))) ?_
  intro W base args ds gs before hval hW _ _ _ hL _ _
  exact contract H enc W base args ds gs before hval hW hL
theorem said : Rows.TreeAloneSaid :=
  OpenClaim.holds_of_cond 3 Try.f3 rfl rfl rfl rfl rfl rfl rfl ⟨rfl, rfl, rfl, rfl, rfl⟩ rfl rfl rfl rfl rfl (by kernel_rfl) Try.func3 (by kernel_rfl)
    (of_decide_eq_true (by kernel_rfl)) (by unfold Func.isWrapper; first | (rw [if_pos (by decide +kernel)]; kernel_rfl) | (rw [if_neg (by decide +kernel)]; exact ⟨rfl, rfl⟩))
    (fun os started H enc _ F => by rw [OpenClaim.pre_eq_preRow]; exact lifted os started H enc F)

end Go.Proofs.Ytbphlkaihfbgeaa.treeAlone
