/-
  TextLines holds: which events may be, and their lines, is the document's; each comes back from its line, without conditions.
-/
import Derived.Test.YtchahoiainbcaaaDoorJTextLinesSaid1
import Derived.RangeFuncWrites
import Derived.BigQuiet
import Derived.Deep.QuietTactic
import Derived.Laws.Concat
import Derived.ProofKit
import Derived.OpenShut
import Derived.Deep.DeepHandedRow
import Derived.WideKeyArgs
import Derived.Carry
import Derived.ChangeSame
import Derived.Test.YtchahoiainbcaaaDoorCards
import Derived.Test.YtchahoiainbcaaaDoorTie
import GoSem.PinnedTables
import Derived.Lib.SmallJoins
import Derived.Shelf.Vars
namespace Kv
theorem cutF_len:∀ (n:Nat) (s:Bs),(cutF n s).length<=n
 | 0,_=>Nat.le_refl _
 | n+1,s=>by
   unfold cutF
   split
   · simp
   · have:=cutF_len n (Go.Lib.cut s [10]).2.1
     simp only [List.length_cons]
     omega
def evsOf (l:List (Bs × Bool)):List Ev:=l.filterMap fun x=>oneE x.1
def okL (l:List (Bs × Bool)):Prop:=∀ x∈l,(oneE x.1).isSome=true/\x.2=true
end Kv
namespace Go.Proofs.YtchahoiainbcaaaDoor
open Go.RowKit Kv
attribute [local go_sem] Oper.semAt_some
def evVals (e:Ev):List Value:=[.int .i64 e.at_,.int .i64 e.kind,.int .i64 e.thread,.int .i64 e.call,.int .i64 e.val,.int .i64 e.err,.int .i64 e.rv]
theorem info_ev:(Tryd.prog.info? 26).map (fun i=>(i.zero,i.size,i.bytes))=some (some (.agg #[.int .i64 0,.int .i64 0,.int .i64 0,.int .i64 0,.int .i64 0,.int .i64 0,.int .i64 0]),7,56):=by kernel_rfl
theorem keeps_ext {W W':World}(B:Nat)(h:Ext W W'):KeepsFrom B W W':=⟨h.size,fun k _ _ hk _=>(Below.block h k (Array.getElem?_eq_some_iff.1 hk).1).trans hk⟩
theorem cells_grown {W W':World}{B b:Nat}{cs:Array Value}{t:TypeId}{fz:Nat × Nat}{row:Option Nat}(h:W.heap[b]?=some (.cells cs t fz))(hg:W.grownBy W' row)(hr:∀ r,row=some r->B<=r/\∃ o:Obj,W.heap[r]?=some o/\o.isCells=false):W'.heap[b]?=some (.cells cs t fz):=by
 have hne:row≠some b:=by
  intro e
  obtain⟨_,o,ho,hc⟩:=hr b e
  rw [h] at ho
  cases ho
  cases hc
 exact (hg.block b (Array.getElem?_eq_some_iff.1 h).1 (fun e=>hne e.symm)).trans h
theorem rows_grown {W W':World}{B base e size n:Nat}{v:Value}{xs:List Value}{row:Option Nat}(h:W.ownsRow base e size v n xs)(hg:W.grownBy W' row)(hr:∀ r,row=some r->B<=r/\∃ o:Obj,W.heap[r]?=some o/\o.isCells=false):W'.ownsRow base e size v n xs:=by
 obtain⟨h1,h2⟩:=h
 refine⟨h1,?_⟩
 rcases h2 with h2 | ⟨g,cap,cur,e,hg2,hh,rest⟩
 · exact .inl h2
 · exact .inr ⟨g,cap,cur,e,hg2,cells_grown hh hg hr,rest⟩
theorem rows_less {W:World}{B B' e size n:Nat}{v:Value}{xs:List Value}(h:W.ownsRow B e size v n xs)(hB:B'<=B):W.ownsRow B' e size v n xs:=by
 obtain⟨h1,h2⟩:=h
 refine⟨h1,?_⟩
 rcases h2 with h2 | ⟨g,cap,cur,e,hg2,rest⟩
 · exact .inl h2
 · exact .inr ⟨g,cap,cur,e,Nat.le_trans hB hg2,rest⟩
theorem rows_set {W:World}{B b e size n:Nat}{v u:Value}{xs:List Value}{i:Nat}(h:W.ownsRow B e size v n xs)(hB:b<B):(W.setCell ⟨b,i,none⟩ u).ownsRow B e size v n xs:=by
 obtain⟨h1,h2⟩:=h
 refine⟨h1,?_⟩
 rcases h2 with h2 | ⟨g,cap,cur,e,hg2,hh,rest⟩
 · exact .inl h2
 · exact .inr ⟨g,cap,cur,e,hg2,(heap_setCell_ne W u (by omega)).trans hh,rest⟩
theorem keepb {W W':World}{v:Value}{B:Nat}(hg:W.grownBy W' v.ownBlock)(hv:∀ r,v.ownBlock=some r->B<=r):∀ k o,Blk W k o->k<B->Blk W' k o:=fun k _ hk hlt=>(hg.block k hk.lt (fun e=>by have:=hv k e.symm;omega)).trans hk
def PI (w:World) (B:Nat) (pre:List Pc) (W:World):Prop :=
 okL (pre.map (·.1))/\W.heap[w.heap.size]?=some (.cells #[.slice none 0 0] 34 (0,0))/\W.heap[w.heap.size+1]?=some (.cells #[.int .i64 0] 3 (0,0))/\W.heap[w.heap.size+1+1]?=some (.cells #[.int .i64 0] 22 (0,0)) /\
 (∃ v,W.heap[w.heap.size+1+1+1]?=some (.cells #[v] 34 (0,0))/\W.ownsRow B 26 7 v pre.length ((evsOf (pre.map (·.1))).flatMap evVals))/\W.heap[w.heap.size+1+1+1+1]?=some (.cells #[.int .i64 pre.length] 3 (0,0))/\Below w.heap.size w W/\B<=W.heap.size
theorem PI_own (w:World)(B:Nat)(hB:w.heap.size<=B):OwnFrom B (PI w B):=by
 intro s W W' row ⟨h1,h2,h3,h4,⟨v,h5,h6⟩,h7,h8,h9⟩ hg hr
 exact⟨h1,cells_grown h2 hg hr,cells_grown h3 hg hr,cells_grown h4 hg hr,⟨v,cells_grown h5 hg hr,rows_grown h6 hg hr⟩,cells_grown h7 hg hr,Below.grown h8 hg h8.size (fun r e=>Nat.le_trans hB (hr r e).1),Nat.le_trans h9 hg.size⟩
def PX (w:World) (k:Code) (pre:List Pc) (W:World):Prop :=
 k=.ret/\(∃ pre' x,pre=pre'++[x]/\okL (pre'.map (·.1))/\¬ ((oneE x.1.1).isSome=true/\x.1.2=true))/\W.heap[w.heap.size]?=some (.cells #[.slice none 0 0] 34 (0,0))/\W.heap[w.heap.size+1]?=some (.cells #[.int .i64 pre.length] 3 (0,0))/\W.heap[w.heap.size+1+1]?=some (.cells #[.int .i64 3] 22 (0,0))/\Below w.heap.size w W
theorem PX_own (w:World)(B:Nat)(hB:w.heap.size<=B)(k:Code):OwnFrom B (PX w k):=by
 intro s W W' row ⟨h1,h2,h3,h4,h5,h6⟩ hg hr
 exact⟨h1,h2,cells_grown h3 hg hr,cells_grown h4 hg hr,cells_grown h5 hg hr,Below.grown h6 hg h6.size fun r e=>Nat.le_trans hB (hr r e).1⟩
theorem MaxI.below {w W':World}{n:Nat}(h:MaxI w)(hn:0<n)(hx:Below n w W'):MaxI W':=by
 obtain⟨h0,m,hm⟩:=h
 exact⟨Nat.lt_of_lt_of_le h0 hx.size,m,(Below.cell hx (p:=⟨0,0,none⟩) hn).trans hm⟩
def ParsePost (w:World) (s:Bs) (e:Ending) (w':World):Prop :=
 ∃ v n err,e=.returned (.tuple #[v,.int .i64 n,.int .i64 err])/\Ext w w'/\((okL (linesL s)/\n=0/\err=0/\w'.ownsRow w.heap.size 26 7 v (linesL s).length ((evsOf (linesL s)).flatMap evVals)) ∨
  (∃ pre x post,linesL s=pre++x :: post/\okL pre/\¬ ((oneE x.1).isSome=true/\x.2=true)/\v=.slice none 0 0/\n=pre.length+1/\err=3))
set_option maxRecDepth 100000 in
set_option maxHeartbeats 1000000 in
theorem parse_p (s:Bs)(w:World)(hs:s.length<4294967281)(hcn:Go.Lib.countByte s 10<=8000)(M:MaxI w) :
  Calls Tryd.prog 11 #[.string ⟨s.toArray⟩] w (ParsePost w s):=by
 refine (callsIn_wide (n:=6)).1 ?_
 refine callsIn_of_wp_marks Tryd.func11 rfl trivial ?_ rfl
 simp only [Tryd.ntmps11,List.size_toArray,List.length_cons,List.length_nil,Nat.reduceAdd,Nat.reduceSub,Array.replicate_succ,Array.replicate_zero,List.push_toArray,List.append_toArray,List.nil_append,List.cons_append]
 have d1:decide ((8000:Int)<(Go.Lib.countByte s 10:Int))=false:=by rw [decide_eq_false_iff_not];omega
 gi_wp2_with (refine⟨trivial,?_⟩;first | (gi_at_call 26;refine CallsIn.mono (callsIn_wide.2 (Tryd.strings_Count_one ⟨s.toArray⟩ 10 _)) ?_;rintro e w' ⟨rfl,rfl⟩) | (gi_at_call 27;refine CallsIn.mono (callsIn_wide.2 (lines_p s _)) ?_;rintro e w' ⟨rfl,rfl⟩))
 have k0:=(((((Blk.new w (.cells #[.slice none 0 0] 34)).alloc (.cells #[.int .i64 0] 3)).alloc (.cells #[.int .i64 0] 22)).alloc (.cells #[.slice none 0 0] 34)).alloc (.cells #[.int .i64 0] 3)).alloc (.cells #[.string ⟨s.toArray⟩] 9)
 have k1:=((((Blk.new (w.alloc (.cells #[.slice none 0 0] 34)) (.cells #[.int .i64 0] 3)).alloc (.cells #[.int .i64 0] 22)).alloc (.cells #[.slice none 0 0] 34)).alloc (.cells #[.int .i64 0] 3)).alloc (.cells #[.string ⟨s.toArray⟩] 9)
 have k2:=(((Blk.new ((w.alloc (.cells #[.slice none 0 0] 34)).alloc (.cells #[.int .i64 0] 3)) (.cells #[.int .i64 0] 22)).alloc (.cells #[.slice none 0 0] 34)).alloc (.cells #[.int .i64 0] 3)).alloc (.cells #[.string ⟨s.toArray⟩] 9)
 have k3:=((Blk.new (((w.alloc (.cells #[.slice none 0 0] 34)).alloc (.cells #[.int .i64 0] 3)).alloc (.cells #[.int .i64 0] 22)) (.cells #[.slice none 0 0] 34)).alloc (.cells #[.int .i64 0] 3)).alloc (.cells #[.string ⟨s.toArray⟩] 9)
 have k4:=(Blk.new ((((w.alloc (.cells #[.slice none 0 0] 34)).alloc (.cells #[.int .i64 0] 3)).alloc (.cells #[.int .i64 0] 22)).alloc (.cells #[.slice none 0 0] 34)) (.cells #[.int .i64 0] 3)).alloc (.cells #[.string ⟨s.toArray⟩] 9)
 have k5:=Blk.new (((((w.alloc (.cells #[.slice none 0 0] 34)).alloc (.cells #[.int .i64 0] 3)).alloc (.cells #[.int .i64 0] 22)).alloc (.cells #[.slice none 0 0] 34)).alloc (.cells #[.int .i64 0] 3)) (.cells #[.string ⟨s.toArray⟩] 9)
 have hx0:=((((((Ext.refl w).alloc (.cells #[.slice none 0 0] 34)).alloc (.cells #[.int .i64 0] 3)).alloc (.cells #[.int .i64 0] 22)).alloc (.cells #[.slice none 0 0] 34)).alloc (.cells #[.int .i64 0] 3)).alloc (.cells #[.string ⟨s.toArray⟩] 9)
 simp only [World.size_alloc] at k1 k2 k3 k4 k5
 have hs0:((((((w.alloc (.cells #[.slice none 0 0] 34)).alloc (.cells #[.int .i64 0] 3)).alloc (.cells #[.int .i64 0] 22)).alloc (.cells #[.slice none 0 0] 34)).alloc (.cells #[.int .i64 0] 3)).alloc (.cells #[.string ⟨s.toArray⟩] 9)).heap.size=w.heap.size+1+1+1+1+1+1:=by simp only [World.size_alloc]
 generalize ((((((w.alloc (.cells #[.slice none 0 0] 34)).alloc (.cells #[.int .i64 0] 3)).alloc (.cells #[.int .i64 0] 22)).alloc (.cells #[.slice none 0 0] 34)).alloc (.cells #[.int .i64 0] 3)).alloc (.cells #[.string ⟨s.toArray⟩] 9))=W0 at *
 have hM0:=M.ext hx0
 have hs0h:=Lib.hid hs0
 clear hs0
 have hw0:=M.1
 refine wpIn_rangeFunc_ownG rfl (by omega) (gf:=40) (lb:=#[.pointer (some ⟨w.heap.size+1+1+1+1+1,0,none⟩)]) rfl trivial (enters_of Tryd.func40 (by kernel_rfl) rfl)
  (lines_stops 5 (by omega) (w.heap.size+1+1+1+1+1) w.heap.size s hs W0 k5.lt hx0.size (k5.cells 0) (fun W' hW=>hM0.below hw0 hW)) belowK_t (belowK_b hx0.size) (Below.refl _ _) (fun _=>rfl)
  (PI w W0.heap.size) (PX w) (PI_own w _ hx0.size) (fun k=>PX_own w _ hx0.size k)
  ⟨fun _ h=>(nomatch h),k0,k1,k2,⟨_,k3,World.ownsRow_nil _ _ _ _⟩,k4,hx0,Nat.le_refl _⟩
  (fun x=>{ tmps:=#[.string ⟨s.toArray⟩,undef,.pointer (some ⟨w.heap.size,0,none⟩),.pointer (some ⟨w.heap.size+1,0,none⟩),.pointer (some ⟨w.heap.size+1+1,0,none⟩),.pointer (some ⟨w.heap.size+1+1+1,0,none⟩),.pointer (some ⟨w.heap.size+1+1+1+1,0,none⟩),.string ⟨x.1.1.toArray⟩,.bool x.1.2,undef,undef,.string ⟨s.toArray⟩,.int .i64 (Go.Lib.countByte s 10:Nat),.bool false,.string ⟨s.toArray⟩,.func (.func 40) #[] #[.pointer (some ⟨w.heap.size+1+1+1+1+1,0,none⟩)],.string ⟨x.1.1.toArray⟩,.bool x.1.2,undef,undef,undef,undef,undef,undef,undef,undef,undef,undef,undef,undef,undef,undef,undef,undef,undef,undef,undef],defers:=[] }) ?assign ?body ?done ?stop
 case assign =>
  intro l' x W K hK
  gi_wp2
  exact hK
 case body =>
  rintro l' pre ⟨⟨line,fed⟩,hx⟩ W ⟨hok,h2,h3,h4,⟨v,h5,hrow⟩,h6,hB,hWW⟩ hlt
  clear k0 k1 k2 k3 k4 k5
  have hs0:=hs0h.out
  have hpl:pre.length<4294967281:=by have:=cutF_len s.length s;unfold linesL at hlt;omega
  have c6:=cell_of_heap h6 0
  have f6:=frozen_of_heap h6 0
  gi_wp2_with fail
  have n2:Blk (W.setCell ⟨w.heap.size+1+1+1+1,0,none⟩ (.int .i64 ((pre.length:Int)+1))) w.heap.size (.cells #[.slice none 0 0] 34):=(heap_setCell_ne W _ (by omega)).trans h2
  have n3:Blk (W.setCell ⟨w.heap.size+1+1+1+1,0,none⟩ (.int .i64 ((pre.length:Int)+1))) (w.heap.size+1) (.cells #[.int .i64 0] 3):=(heap_setCell_ne W _ (by omega)).trans h3
  have n4:Blk (W.setCell ⟨w.heap.size+1+1+1+1,0,none⟩ (.int .i64 ((pre.length:Int)+1))) (w.heap.size+1+1) (.cells #[.int .i64 0] 22):=(heap_setCell_ne W _ (by omega)).trans h4
  have n5:Blk (W.setCell ⟨w.heap.size+1+1+1+1,0,none⟩ (.int .i64 ((pre.length:Int)+1))) (w.heap.size+1+1+1) (.cells #[v] 34):=(heap_setCell_ne W _ (by omega)).trans h5
  have n6:Blk (W.setCell ⟨w.heap.size+1+1+1+1,0,none⟩ (.int .i64 ((pre.length:Int)+1))) (w.heap.size+1+1+1+1) (.cells #[.int .i64 ((pre.length:Int)+1)] 3):=heap_setCell h6 _
  have nrow:=rows_set (b:=w.heap.size+1+1+1+1) (i:=0) (u:=.int .i64 ((pre.length:Int)+1)) hrow (by omega)
  have nB:Ext w (W.setCell ⟨w.heap.size+1+1+1+1,0,none⟩ (.int .i64 ((pre.length:Int)+1))):=Ext.setCell hB (p:=⟨w.heap.size+1+1+1+1,0,none⟩) (show w.heap.size<=w.heap.size+1+1+1+1 by omega) _
  have nK:KeepsFrom W0.heap.size W (W.setCell ⟨w.heap.size+1+1+1+1,0,none⟩ (.int .i64 ((pre.length:Int)+1))):=(KeepsOthers.setCell W ⟨w.heap.size+1+1+1+1,0,none⟩ (.int .i64 ((pre.length:Int)+1))).from _
  have nBW:Below w.heap.size W (W.setCell ⟨w.heap.size+1+1+1+1,0,none⟩ (.int .i64 ((pre.length:Int)+1))):=(Below.refl _ W).setCell (p:=⟨w.heap.size+1+1+1+1,0,none⟩) (show w.heap.size<=w.heap.size+1+1+1+1 by omega) _
  clear h2 h3 h4 h5 h6 hrow hB c6 f6
  have nV:w.heap.size<=(W.setCell ⟨w.heap.size+1+1+1+1,0,none⟩ (.int .i64 ((pre.length:Int)+1))).heap.size:=nB.size
  generalize World.setCell W _ _=V1 at *
  refine⟨trivial,?_⟩
  refine CallsIn.mono (CallsIn.inRound l' (callsIn_wide.2 (one_p line V1 hx (M.ext nB)))) ?_
  rintro e V2 ⟨rfl,hx2⟩
  replace n2:=n2.ext hx2
  replace n3:=n3.ext hx2
  replace n4:=n4.ext hx2
  replace n5:=n5.ext hx2
  replace n6:=n6.ext hx2
  replace nrow:=row_ext nrow hx2
  replace nB:=nB.trans hx2
  replace nK:=nK.trans (keeps_ext _ hx2)
  replace nBW:=nBW.trans (Below.mono hx2 nV)
  clear hx2
  generalize hq:oneE line=q at *
  have hqh:=Lib.hid hq
  clear hq
  cases q with
  | none =>
    simp only [oneR,encE,ev0,Option.getD_none,Option.isSome_none,Bool.false_eq_true,if_false]
    gi_wp2_with fail
    have x3:=(Ext.refl V2).alloc (.cells #[.int .i64 0,.int .i64 0,.int .i64 0,.int .i64 0,.int .i64 0,.int .i64 0,.int .i64 0] 26)
    replace n2:=n2.ext x3
    replace n3:=n3.ext x3
    replace n4:=n4.ext x3
    replace n6:=n6.ext x3
    replace nB:=nB.trans x3
    replace nK:=nK.trans (keeps_ext _ x3)
    clear n5 nrow nBW x3
    generalize World.alloc V2 _=V3 at *
    have p2:Blk V3.drew w.heap.size (.cells #[.slice none 0 0] 34):=n2.drew
    have p3:Blk V3.drew (w.heap.size+1) (.cells #[.int .i64 0] 3):=n3.drew
    have p4:Blk V3.drew (w.heap.size+1+1) (.cells #[.int .i64 0] 22):=n4.drew
    have p6:Blk V3.drew (w.heap.size+1+1+1+1) (.cells #[.int .i64 ((pre.length:Int)+1)] 3):=n6.drew
    replace nB:=nB.drew
    replace nK:=nK.trans (keeps_ext _ (Ext.refl V3).drew)
    clear n2 n3 n4 n6
    refine wpIn_region_held (S:=fun w'=>w'.cell? ⟨w.heap.size+1+1+1+1,0,none⟩=some (.int .i64 ((pre.length:Int)+1))) (by kernel_rfl) (by kernel_rfl) (fun _ _ h=>h) (p6.cells 0) (fun hHeld=>?_)
    generalize World.drew V3=V4 at *
    refine tk 0 (v:=?_) rfl (by kernel_rfl) (fun _ _ _ h=>h) (by assumption) ?_ ?_
    rotate_left
    · (intro w hSw;(try dsimp only at hSw);go_simp;try with_reducible rfl)
    try simp only [put_pack]
    have c2:=p2.cells 0
    have f2:=frozen_of_heap p2 0
    refine wpAnyH_ready (rs:=[1]) (by kernel_rfl) (by simp) ?_
    refine AllReadyH.cons rfl (fun K hKK=>?_) (AllReadyH.nil)
    go_simp
    have q2:Blk (V4.setCell ⟨w.heap.size,0,none⟩ (.slice none 0 0)) w.heap.size (.cells #[.slice none 0 0] 34):=heap_setCell p2 _
    have q3:=p3.setO (i:=0) (show w.heap.size+1≠w.heap.size by omega) (.slice none 0 0)
    have q4:=p4.setO (i:=0) (show w.heap.size+1+1≠w.heap.size by omega) (.slice none 0 0)
    have q6:=p6.setO (i:=0) (show w.heap.size+1+1+1+1≠w.heap.size by omega) (.slice none 0 0)
    replace nB:=Ext.setCell nB (p:=⟨w.heap.size,0,none⟩) (Nat.le_refl _) (.slice none 0 0)
    replace nK:=nK.trans ((KeepsOthers.setCell V4 ⟨w.heap.size,0,none⟩ (.slice none 0 0)).from W0.heap.size)
    clear c2 f2 p2 p3 p4 p6
    generalize World.setCell V4 _ _=V5 at *
    refine hKK.out _ _ (q6.cells 0) (fun hHeld=>?_)
    clear hKK K
    try dsimp only
    have c3:=q3.cells 0
    have f3:=frozen_of_heap q3 0
    refine wpAnyH_ready (rs:=[2]) (by kernel_rfl) (by simp) ?_
    refine AllReadyH.cons rfl (fun K hKK=>?_) (AllReadyH.nil)
    go_simp
    have p2:=q2.setO (i:=0) (show w.heap.size≠w.heap.size+1 by omega) (.int .i64 ((pre.length:Int)+1))
    have p3:Blk (V5.setCell ⟨w.heap.size+1,0,none⟩ (.int .i64 ((pre.length:Int)+1))) (w.heap.size+1) (.cells #[.int .i64 ((pre.length:Int)+1)] 3):=heap_setCell q3 _
    have p4:=q4.setO (i:=0) (show w.heap.size+1+1≠w.heap.size+1 by omega) (.int .i64 ((pre.length:Int)+1))
    have p6:=q6.setO (i:=0) (show w.heap.size+1+1+1+1≠w.heap.size+1 by omega) (.int .i64 ((pre.length:Int)+1))
    replace nB:=Ext.setCell nB (p:=⟨w.heap.size+1,0,none⟩) (show w.heap.size<=w.heap.size+1 by omega) (.int .i64 ((pre.length:Int)+1))
    replace nK:=nK.trans ((KeepsOthers.setCell V5 ⟨w.heap.size+1,0,none⟩ (.int .i64 ((pre.length:Int)+1))).from W0.heap.size)
    clear c3 f3 q2 q3 q4 q6
    generalize World.setCell V5 _ _=V6 at *
    refine hKK.out _ _ (p6.cells 0) (fun hHeld=>?_)
    clear hKK K
    try dsimp only
    have c4:=p4.cells 0
    have f4:=frozen_of_heap p4 0
    refine wpAnyH_ready (rs:=[3]) (by kernel_rfl) (by simp) ?_
    refine AllReadyH.cons rfl (fun K hKK=>?_) (AllReadyH.nil)
    go_simp
    have q2:=p2.setO (i:=0) (show w.heap.size≠w.heap.size+1+1 by omega) (.int .i64 3)
    have q3:=p3.setO (i:=0) (show w.heap.size+1≠w.heap.size+1+1 by omega) (.int .i64 3)
    have q4:Blk (V6.setCell ⟨w.heap.size+1+1,0,none⟩ (.int .i64 3)) (w.heap.size+1+1) (.cells #[.int .i64 3] 22):=heap_setCell p4 _
    have q6:=p6.setO (i:=0) (show w.heap.size+1+1+1+1≠w.heap.size+1+1 by omega) (.int .i64 3)
    replace nB:=Ext.setCell nB (p:=⟨w.heap.size+1+1,0,none⟩) (show w.heap.size<=w.heap.size+1+1 by omega) (.int .i64 3)
    replace nK:=nK.trans ((KeepsOthers.setCell V6 ⟨w.heap.size+1+1,0,none⟩ (.int .i64 3)).from W0.heap.size)
    clear c4 f4 p2 p3 p4 p6
    generalize World.setCell V6 _ _=V7 at *
    refine hKK.out _ _ (q6.cells 0) (fun hHeld=>?_)
    clear hKK K
    try dsimp only
    refine wpAnyH_done (by kernel_rfl) ?_ _
    go_simp
    have hf:KeepsFrom W0.heap.size W V7/\PX w .ret (pre++[⟨(line,fed),hx⟩]) V7:=⟨nK,rfl,⟨pre,_,rfl,hok,by rw [show oneE line=none from hqh.out];simp⟩,q2,by rw [List.length_append];exact q3,q4,nB⟩
    have hfh:=Lib.hid hf
    clear hf q2 q3 q4 q6 nB nK
    gi_wp2_with fail
    exact hfh.out
  | some ev =>
    obtain⟨a1,a2,a3,a4,a5,a6,a7⟩:=ev
    simp only [oneR,encE,Option.getD_some,Option.isSome_some,if_true]
    cases fed with
    | false =>
      gi_wp2_with fail
      have x3:=(Ext.refl V2).alloc (.cells #[.int .i64 a1,.int .i64 a2,.int .i64 a3,.int .i64 a4,.int .i64 a5,.int .i64 a6,.int .i64 a7] 26)
      replace n2:=n2.ext x3
      replace n3:=n3.ext x3
      replace n4:=n4.ext x3
      replace n6:=n6.ext x3
      replace nB:=nB.trans x3
      replace nK:=nK.trans (keeps_ext _ x3)
      clear n5 nrow nBW x3
      generalize World.alloc V2 _=V3 at *
      have p2:Blk V3.drew w.heap.size (.cells #[.slice none 0 0] 34):=n2.drew
      have p3:Blk V3.drew (w.heap.size+1) (.cells #[.int .i64 0] 3):=n3.drew
      have p4:Blk V3.drew (w.heap.size+1+1) (.cells #[.int .i64 0] 22):=n4.drew
      have p6:Blk V3.drew (w.heap.size+1+1+1+1) (.cells #[.int .i64 ((pre.length:Int)+1)] 3):=n6.drew
      replace nB:=nB.drew
      replace nK:=nK.trans (keeps_ext _ (Ext.refl V3).drew)
      clear n2 n3 n4 n6
      refine wpIn_region_held (S:=fun w'=>w'.cell? ⟨w.heap.size+1+1+1+1,0,none⟩=some (.int .i64 ((pre.length:Int)+1))) (by kernel_rfl) (by kernel_rfl) (fun _ _ h=>h) (p6.cells 0) (fun hHeld=>?_)
      generalize World.drew V3=V4 at *
      refine tk 0 (v:=?_) rfl (by kernel_rfl) (fun _ _ _ h=>h) (by assumption) ?_ ?_
      rotate_left
      · (intro w hSw;(try dsimp only at hSw);go_simp;try with_reducible rfl)
      try simp only [put_pack]
      have c2:=p2.cells 0
      have f2:=frozen_of_heap p2 0
      refine wpAnyH_ready (rs:=[1]) (by kernel_rfl) (by simp) ?_
      refine AllReadyH.cons rfl (fun K hKK=>?_) (AllReadyH.nil)
      go_simp
      have q2:Blk (V4.setCell ⟨w.heap.size,0,none⟩ (.slice none 0 0)) w.heap.size (.cells #[.slice none 0 0] 34):=heap_setCell p2 _
      have q3:=p3.setO (i:=0) (show w.heap.size+1≠w.heap.size by omega) (.slice none 0 0)
      have q4:=p4.setO (i:=0) (show w.heap.size+1+1≠w.heap.size by omega) (.slice none 0 0)
      have q6:=p6.setO (i:=0) (show w.heap.size+1+1+1+1≠w.heap.size by omega) (.slice none 0 0)
      replace nB:=Ext.setCell nB (p:=⟨w.heap.size,0,none⟩) (Nat.le_refl _) (.slice none 0 0)
      replace nK:=nK.trans ((KeepsOthers.setCell V4 ⟨w.heap.size,0,none⟩ (.slice none 0 0)).from W0.heap.size)
      clear c2 f2 p2 p3 p4 p6
      generalize World.setCell V4 _ _=V5 at *
      refine hKK.out _ _ (q6.cells 0) (fun hHeld=>?_)
      clear hKK K
      try dsimp only
      have c3:=q3.cells 0
      have f3:=frozen_of_heap q3 0
      refine wpAnyH_ready (rs:=[2]) (by kernel_rfl) (by simp) ?_
      refine AllReadyH.cons rfl (fun K hKK=>?_) (AllReadyH.nil)
      go_simp
      have p2:=q2.setO (i:=0) (show w.heap.size≠w.heap.size+1 by omega) (.int .i64 ((pre.length:Int)+1))
      have p3:Blk (V5.setCell ⟨w.heap.size+1,0,none⟩ (.int .i64 ((pre.length:Int)+1))) (w.heap.size+1) (.cells #[.int .i64 ((pre.length:Int)+1)] 3):=heap_setCell q3 _
      have p4:=q4.setO (i:=0) (show w.heap.size+1+1≠w.heap.size+1 by omega) (.int .i64 ((pre.length:Int)+1))
      have p6:=q6.setO (i:=0) (show w.heap.size+1+1+1+1≠w.heap.size+1 by omega) (.int .i64 ((pre.length:Int)+1))
      replace nB:=Ext.setCell nB (p:=⟨w.heap.size+1,0,none⟩) (show w.heap.size<=w.heap.size+1 by omega) (.int .i64 ((pre.length:Int)+1))
      replace nK:=nK.trans ((KeepsOthers.setCell V5 ⟨w.heap.size+1,0,none⟩ (.int .i64 ((pre.length:Int)+1))).from W0.heap.size)
      clear c3 f3 q2 q3 q4 q6
      generalize World.setCell V5 _ _=V6 at *
      refine hKK.out _ _ (p6.cells 0) (fun hHeld=>?_)
      clear hKK K
      try dsimp only
      have c4:=p4.cells 0
      have f4:=frozen_of_heap p4 0
      refine wpAnyH_ready (rs:=[3]) (by kernel_rfl) (by simp) ?_
      refine AllReadyH.cons rfl (fun K hKK=>?_) (AllReadyH.nil)
      go_simp
      have q2:=p2.setO (i:=0) (show w.heap.size≠w.heap.size+1+1 by omega) (.int .i64 3)
      have q3:=p3.setO (i:=0) (show w.heap.size+1≠w.heap.size+1+1 by omega) (.int .i64 3)
      have q4:Blk (V6.setCell ⟨w.heap.size+1+1,0,none⟩ (.int .i64 3)) (w.heap.size+1+1) (.cells #[.int .i64 3] 22):=heap_setCell p4 _
      have q6:=p6.setO (i:=0) (show w.heap.size+1+1+1+1≠w.heap.size+1+1 by omega) (.int .i64 3)
      replace nB:=Ext.setCell nB (p:=⟨w.heap.size+1+1,0,none⟩) (show w.heap.size<=w.heap.size+1+1 by omega) (.int .i64 3)
      replace nK:=nK.trans ((KeepsOthers.setCell V6 ⟨w.heap.size+1+1,0,none⟩ (.int .i64 3)).from W0.heap.size)
      clear c4 f4 p2 p3 p4 p6
      generalize World.setCell V6 _ _=V7 at *
      refine hKK.out _ _ (q6.cells 0) (fun hHeld=>?_)
      clear hKK K
      try dsimp only
      refine wpAnyH_done (by kernel_rfl) ?_ _
      go_simp
      have hf:KeepsFrom W0.heap.size W V7/\PX w .ret (pre++[⟨(line,false),hx⟩]) V7:=⟨nK,rfl,⟨pre,_,rfl,hok,by simp⟩,q2,by rw [List.length_append];exact q3,q4,nB⟩
      have hfh:=Lib.hid hf
      clear hf q2 q3 q4 q6 nB nK
      gi_wp2_with fail
      exact hfh.out
    | true =>
      have x3:=(Ext.refl V2).alloc (.cells #[.int .i64 a1,.int .i64 a2,.int .i64 a3,.int .i64 a4,.int .i64 a5,.int .i64 a6,.int .i64 a7] 26)
      have be:=Blk.new V2 (.cells #[.int .i64 a1,.int .i64 a2,.int .i64 a3,.int .i64 a4,.int .i64 a5,.int .i64 a6,.int .i64 a7] 26)
      replace n2:=n2.ext x3
      replace n3:=n3.ext x3
      replace n4:=n4.ext x3
      replace n5:=n5.ext x3
      replace n6:=n6.ext x3
      replace nrow:=row_ext nrow x3
      replace nB:=nB.trans x3
      replace nK:=nK.trans (keeps_ext _ x3)
      have nV2:w.heap.size<=V2.heap.size:=by have:=nB.size;have:=n6.lt;simp only [World.size_alloc] at *;omega
      replace nBW:=nBW.trans (Below.mono x3 nV2)
      have hWB:W0.heap.size<=(V2.alloc (.cells #[.int .i64 a1,.int .i64 a2,.int .i64 a3,.int .i64 a4,.int .i64 a5,.int .i64 a6,.int .i64 a7] 26)).heap.size:=Nat.le_trans hWW nK.size
      obtain⟨i0,hi,hz0,hz1,hz2⟩:=info_parts info_ev
      have c5:=n5.cells 0
      have ce:=be.cells
      have hvne:∀ r,v.ownBlock=some r->W0.heap.size<=r:=by
       intro r hr
       rcases nrow.2 with⟨e,_⟩ | ⟨g,cap,cur,e,hg,_⟩
       · rw [e] at hr;cases hr
       · rw [e] at hr
         have:g=r:=by simpa [Value.ownBlock] using hr
         omega
      have hall:=Lib.hid (And.intro n2 (And.intro n3 (And.intro n4 (And.intro n5 (And.intro n6 (And.intro nrow (And.intro nB (And.intro nK nBW))))))))
      have hvh:=Lib.hid hvne
      clear n2 n3 n4 n5 n6 nrow nB nK nBW x3 be hvne nV2
      gi_wp2_with (gi_at_builtin;refine wpListIn_append_own _ rfl _ _ 34 rfl W0.heap.size 26 i0 _ 7 56 Tryd.underlying34 hi hz0 hz1 hz2 rfl (by decide) _ _ _ rfl (World.ownsRow.alloc hall.out.2.2.2.2.2.1 (.cells #[.int .i64 a1,.int .i64 a2,.int .i64 a3,.int .i64 a4,.int .i64 a5,.int .i64 a6,.int .i64 a7] 26)) ⟨V2.heap.size+1,0,none⟩ 1 1 [.int .i64 a1,.int .i64 a2,.int .i64 a3,.int .i64 a4,.int .i64 a5,.int .i64 a6,.int .i64 a7] rfl rfl (by intro j u hu;rw [Addr.add_lit,Nat.zero_add];exact (cell_of_heap (w:=(V2.alloc (.cells #[.int .i64 a1,.int .i64 a2,.int .i64 a3,.int .i64 a4,.int .i64 a5,.int .i64 a6,.int .i64 a7] 26)).alloc (.cells #[.int .i64 a1,.int .i64 a2,.int .i64 a3,.int .i64 a4,.int .i64 a5,.int .i64 a6,.int .i64 a7] 26)) (b:=V2.heap.size+1) (by have:=heap_alloc_new (V2.alloc (.cells #[.int .i64 a1,.int .i64 a2,.int .i64 a3,.int .i64 a4,.int .i64 a5,.int .i64 a6,.int .i64 a7] 26)) (.cells #[.int .i64 a1,.int .i64 a2,.int .i64 a3,.int .i64 a4,.int .i64 a5,.int .i64 a6,.int .i64 a7] 26);rw [World.size_alloc] at this;exact this) j).trans (by simpa using hu)) (by simp [Value.oneCell']) (by unfold maxLen;omega) (by omega) (by rw [World.size_alloc];omega) ?_;intro v' w' hown' hgrow hnn;obtain⟨g',cap',rfl⟩:=ownsRow_succ hown';have kb:=keepb hgrow hvh.out;have c5':=(kb _ _ (hall.out.2.2.2.1.alloc (.cells #[.int .i64 a1,.int .i64 a2,.int .i64 a3,.int .i64 a4,.int .i64 a5,.int .i64 a6,.int .i64 a7] 26)) (by omega)).cells 0;have f5':=frozen_of_heap (kb _ _ (hall.out.2.2.2.1.alloc (.cells #[.int .i64 a1,.int .i64 a2,.int .i64 a3,.int .i64 a4,.int .i64 a5,.int .i64 a6,.int .i64 a7] 26)) (by omega)) 0)
      gi_wp2_with fail
      obtain⟨n2,n3,n4,n5,n6,nrow,nB,nK,nBW⟩:=hall.out
      have m2:=(kb _ _ (n2.alloc (.cells #[.int .i64 a1,.int .i64 a2,.int .i64 a3,.int .i64 a4,.int .i64 a5,.int .i64 a6,.int .i64 a7] 26)) (by omega)).setO (i:=0) (show w.heap.size≠w.heap.size+1+1+1 by omega) (.slice (some ⟨g',0,none⟩) (pre.length+1) cap')
      have m3:=(kb _ _ (n3.alloc (.cells #[.int .i64 a1,.int .i64 a2,.int .i64 a3,.int .i64 a4,.int .i64 a5,.int .i64 a6,.int .i64 a7] 26)) (by omega)).setO (i:=0) (show w.heap.size+1≠w.heap.size+1+1+1 by omega) (.slice (some ⟨g',0,none⟩) (pre.length+1) cap')
      have m4:=(kb _ _ (n4.alloc (.cells #[.int .i64 a1,.int .i64 a2,.int .i64 a3,.int .i64 a4,.int .i64 a5,.int .i64 a6,.int .i64 a7] 26)) (by omega)).setO (i:=0) (show w.heap.size+1+1≠w.heap.size+1+1+1 by omega) (.slice (some ⟨g',0,none⟩) (pre.length+1) cap')
      have m5:Blk (w'.setCell ⟨w.heap.size+1+1+1,0,none⟩ (.slice (some ⟨g',0,none⟩) (pre.length+1) cap')) (w.heap.size+1+1+1) (.cells #[(.slice (some ⟨g',0,none⟩) (pre.length+1) cap')] 34):=heap_setCell (kb _ _ (n5.alloc (.cells #[.int .i64 a1,.int .i64 a2,.int .i64 a3,.int .i64 a4,.int .i64 a5,.int .i64 a6,.int .i64 a7] 26)) (by omega)) _
      have m6:=(kb _ _ (n6.alloc (.cells #[.int .i64 a1,.int .i64 a2,.int .i64 a3,.int .i64 a4,.int .i64 a5,.int .i64 a6,.int .i64 a7] 26)) (by omega)).setO (i:=0) (show w.heap.size+1+1+1+1≠w.heap.size+1+1+1 by omega) (.slice (some ⟨g',0,none⟩) (pre.length+1) cap')
      have mrow:=rows_set (b:=w.heap.size+1+1+1) (i:=0) (u:=(.slice (some ⟨g',0,none⟩) (pre.length+1) cap')) hown' (by omega)
      have hge:∀ k,v.ownBlock=some k->w.heap.size<=k:=fun k e=>by have:=hvh.out k e;omega
      have hszA:w.heap.size<=((V2.alloc (.cells #[.int .i64 a1,.int .i64 a2,.int .i64 a3,.int .i64 a4,.int .i64 a5,.int .i64 a6,.int .i64 a7] 26)).alloc (.cells #[.int .i64 a1,.int .i64 a2,.int .i64 a3,.int .i64 a4,.int .i64 a5,.int .i64 a6,.int .i64 a7] 26)).heap.size:=Nat.le_trans hx0.size (Nat.le_trans hWB (by simp))
      have mB:Ext w (w'.setCell ⟨w.heap.size+1+1+1,0,none⟩ (.slice (some ⟨g',0,none⟩) (pre.length+1) cap')):=Ext.setCell (Below.grown (nB.alloc (.cells #[.int .i64 a1,.int .i64 a2,.int .i64 a3,.int .i64 a4,.int .i64 a5,.int .i64 a6,.int .i64 a7] 26)) hgrow hszA hge) (p:=⟨w.heap.size+1+1+1,0,none⟩) (show w.heap.size<=w.heap.size+1+1+1 by omega) _
      have mBW:Below w.heap.size W (w'.setCell ⟨w.heap.size+1+1+1,0,none⟩ (.slice (some ⟨g',0,none⟩) (pre.length+1) cap')):=Below.setCell (Below.grown (Below.alloc nBW (Nat.le_trans hx0.size hWB) (.cells #[.int .i64 a1,.int .i64 a2,.int .i64 a3,.int .i64 a4,.int .i64 a5,.int .i64 a6,.int .i64 a7] 26)) hgrow hszA hge) (p:=⟨w.heap.size+1+1+1,0,none⟩) (show w.heap.size<=w.heap.size+1+1+1 by omega) _
      have mK:KeepsFrom W0.heap.size W (w'.setCell ⟨w.heap.size+1+1+1,0,none⟩ (.slice (some ⟨g',0,none⟩) (pre.length+1) cap')):=((nK.trans (keeps_ext _ ((Ext.refl (V2.alloc (.cells #[.int .i64 a1,.int .i64 a2,.int .i64 a3,.int .i64 a4,.int .i64 a5,.int .i64 a6,.int .i64 a7] 26))).alloc (.cells #[.int .i64 a1,.int .i64 a2,.int .i64 a3,.int .i64 a4,.int .i64 a5,.int .i64 a6,.int .i64 a7] 26)))).trans ((KeepsOthers.of_grownBy hgrow (fun j o hj ho=>by
       rcases nrow.2 with⟨e,_⟩ | ⟨g,cap,cur,e,hg,hh,_⟩
       · change v.ownBlock=some j at hj
         rw [e] at hj;cases hj
       · change v.ownBlock=some j at hj
         rw [e] at hj
         have hgj:g=j:=by simpa [Value.ownBlock] using hj
         subst hgj
         have hh2:((V2.alloc (.cells #[.int .i64 a1,.int .i64 a2,.int .i64 a3,.int .i64 a4,.int .i64 a5,.int .i64 a6,.int .i64 a7] 26)).alloc (.cells #[.int .i64 a1,.int .i64 a2,.int .i64 a3,.int .i64 a4,.int .i64 a5,.int .i64 a6,.int .i64 a7] 26)).heap[g]?=_:=(Below.block ((Ext.refl (V2.alloc (.cells #[.int .i64 a1,.int .i64 a2,.int .i64 a3,.int .i64 a4,.int .i64 a5,.int .i64 a6,.int .i64 a7] 26))).alloc (.cells #[.int .i64 a1,.int .i64 a2,.int .i64 a3,.int .i64 a4,.int .i64 a5,.int .i64 a6,.int .i64 a7] 26)) g (Array.getElem?_eq_some_iff.1 hh).1).trans hh
         rw [hh2] at ho
         cases ho
         rfl)).from _)).trans ((KeepsOthers.setCell w' ⟨w.heap.size+1+1+1,0,none⟩ (.slice (some ⟨g',0,none⟩) (pre.length+1) cap')).from _)
      have msz:W0.heap.size<=(w'.setCell ⟨w.heap.size+1+1+1,0,none⟩ (.slice (some ⟨g',0,none⟩) (pre.length+1) cap')).heap.size:=Nat.le_trans hWW mK.size
      refine⟨mK,mBW,?_,m2,m3,m4,⟨_,m5,?_⟩,?_,mB,msz⟩
      · intro z hz
        rw [List.map_append] at hz
        rcases List.mem_append.1 hz with hz | hz
        · exact hok z hz
        · simp only [List.map_cons,List.map_nil,List.mem_singleton] at hz
          subst hz
          exact⟨by rw [show oneE line=_ from hqh.out];rfl,rfl⟩
      · rw [List.length_append,List.map_append]
        have he:evsOf (pre.map (·.1)++[(⟨(line,true),hx⟩:Pc)].map (·.1))=evsOf (pre.map (·.1))++[⟨a1,a2,a3,a4,a5,a6,a7⟩]:=by
         unfold evsOf
         rw [List.filterMap_append]
         simp [hqh.out]
        rw [he,List.flatMap_append]
        exact mrow
      · rw [List.length_append]
        exact m6
 case done =>
  rintro D ys W hD hys ⟨hok,h2,h3,h4,⟨v,h5,hrow⟩,h6,hB,hWW⟩ hK
  have hs0:=hs0h.out
  have hDs:w.heap.size<=D:=Nat.le_trans hx0.size hD
  have hys2:=Lib.hid hys
  rw [hys] at hok hrow
  have hlen:ys.length=(linesL s).length:=by rw [<- hys,List.length_map]
  rw [hlen] at hrow
  clear hys k0 k1 k2 k3 k4 k5 h6 hlen
  obtain⟨vp,vn,vc,rfl⟩:∃ p n c,v=.slice p n c:=by
   rcases hrow.2 with⟨e,_⟩ | ⟨g,cap,cur,e,_⟩
   · exact⟨_,_,_,e⟩
   · exact⟨_,_,_,e⟩
  have c5:=cell_of_heap h5 0
  have c2:=cell_of_heap h2 0
  have f2:=frozen_of_heap h2 0
  have c3:=cell_of_heap h3 0
  have f3:=frozen_of_heap h3 0
  have c4:=cell_of_heap h4 0
  have f4:=frozen_of_heap h4 0
  have hrowh:=Lib.hid hrow
  have hkh:=Lib.hid hK
  have hBh:=Lib.hid hB
  have h2h:=Lib.hid h2
  have h3h:=Lib.hid h3
  have h4h:=Lib.hid h4
  clear hrow hK hB h2 h3 h4 h5
  gi_wp2_with fail
  have s2:Blk ((W.setCell ⟨w.heap.size,0,none⟩ (.slice vp vn vc))) w.heap.size (.cells #[.slice vp vn vc] 34):=heap_setCell h2h.out _
  replace s2:=(s2.setO (i:=0) (show w.heap.size≠w.heap.size+1 by omega) (.int .i64 0)).setO (i:=0) (show w.heap.size≠w.heap.size+1+1 by omega) (.int .i64 0)
  have s3:Blk ((W.setCell ⟨w.heap.size,0,none⟩ (.slice vp vn vc)).setCell ⟨w.heap.size+1,0,none⟩ (.int .i64 0)) (w.heap.size+1) (.cells #[.int .i64 0] 3):=heap_setCell (Blk.setO h3h.out (i:=0) (show w.heap.size+1≠w.heap.size by omega) (.slice vp vn vc)) _
  replace s3:=s3.setO (i:=0) (show w.heap.size+1≠w.heap.size+1+1 by omega) (.int .i64 0)
  have s4:Blk (((W.setCell ⟨w.heap.size,0,none⟩ (.slice vp vn vc)).setCell ⟨w.heap.size+1,0,none⟩ (.int .i64 0)).setCell ⟨w.heap.size+1+1,0,none⟩ (.int .i64 0)) (w.heap.size+1+1) (.cells #[.int .i64 0] 22):=heap_setCell ((Blk.setO h4h.out (i:=0) (show w.heap.size+1+1≠w.heap.size by omega) (.slice vp vn vc)).setO (i:=0) (show w.heap.size+1+1≠w.heap.size+1 by omega) (.int .i64 0)) _
  have sK:=((((KeepsOthers.setCell W ⟨w.heap.size,0,none⟩ (.slice vp vn vc)).trans (KeepsOthers.setCell _ ⟨w.heap.size+1,0,none⟩ (.int .i64 0))).trans (KeepsOthers.setCell _ ⟨w.heap.size+1+1,0,none⟩ (.int .i64 0)))).same D _ hkh.out rfl
  have sB:=Ext.setCell (Ext.setCell (Ext.setCell hBh.out (p:=⟨w.heap.size,0,none⟩) (Nat.le_refl _) (.slice vp vn vc)) (p:=⟨w.heap.size+1,0,none⟩) (show w.heap.size<=w.heap.size+1 by omega) (.int .i64 0)) (p:=⟨w.heap.size+1+1,0,none⟩) (show w.heap.size<=w.heap.size+1+1 by omega) (.int .i64 0)
  have srow:=rows_set (b:=w.heap.size+1+1) (i:=0) (u:=.int .i64 0) (rows_set (b:=w.heap.size+1) (i:=0) (u:=.int .i64 0) (rows_set (b:=w.heap.size) (i:=0) (u:=.slice vp vn vc) hrowh.out (by omega)) (by omega)) (by omega)
  have ssz:W0.heap.size<=D:=hD
  clear hrowh hkh hBh h2h h3h h4h c2 c3 c4 c5 f2 f3 f4
  generalize World.setCell (World.setCell (World.setCell W _ _) _ _) _ _=V at *
  have sB2:=Below.trans (show Below w.heap.size w V from sB) (belowK_b (w:=w) (Nat.le_refl _) _ D _ (.deferred none) (by omega) sK rfl rfl)
  have e2:(V.putObj D (.deferred none)).cell? ⟨w.heap.size,0,none⟩=some (.slice vp vn vc):=cell_kept (cell_of_heap s2 0) (grownBy_putObj' V D (.deferred none)) (fun r e=>by cases e;exact⟨_,sK,rfl⟩)
  have e3:(V.putObj D (.deferred none)).cell? ⟨w.heap.size+1,0,none⟩=some (.int .i64 0):=cell_kept (cell_of_heap s3 0) (grownBy_putObj' V D (.deferred none)) (fun r e=>by cases e;exact⟨_,sK,rfl⟩)
  have e4:(V.putObj D (.deferred none)).cell? ⟨w.heap.size+1+1,0,none⟩=some (.int .i64 0):=cell_kept (cell_of_heap s4 0) (grownBy_putObj' V D (.deferred none)) (fun r e=>by cases e;exact⟨_,sK,rfl⟩)
  refine⟨by simp,.inl ⟨_,_,rfl,run_takeDeferred sK,?_⟩⟩
  refine⟨.tuple #[.slice vp vn vc,.int .i64 0,.int .i64 0],by simp [results,Tryd.results11,go_sem,e2,e3,e4],_,_,_,rfl,sB2,.inl ⟨hok,rfl,rfl,rows_less (rows_grown srow (grownBy_putObj' V D (.deferred none)) (fun r e=>by cases e;exact⟨hD,_,sK,rfl⟩)) hx0.size⟩⟩
 case stop =>
  rintro D k pre W hD hSp ⟨rfl,hex,h2,h3,h4,hB⟩ hK
  have hDs:w.heap.size<=D:=Nat.le_trans hx0.size hD
  clear k0 k1 k2 k3 k4 k5
  gi_wp2
  have hB2:=hB.trans (belowK_b (w:=w) (Nat.le_refl _) _ D _ (.deferred none) (by omega) hK rfl rfl)
  have e2:(W.putObj D (.deferred none)).cell? ⟨w.heap.size,0,none⟩=some (.slice none 0 0):=cell_kept (cell_of_heap h2 0) (grownBy_putObj' W D (.deferred none)) (fun r e=>by cases e;exact⟨_,hK,rfl⟩)
  have e3:(W.putObj D (.deferred none)).cell? ⟨w.heap.size+1,0,none⟩=some (.int .i64 pre.length):=cell_kept (cell_of_heap h3 0) (grownBy_putObj' W D (.deferred none)) (fun r e=>by cases e;exact⟨_,hK,rfl⟩)
  have e4:(W.putObj D (.deferred none)).cell? ⟨w.heap.size+1+1,0,none⟩=some (.int .i64 3):=cell_kept (cell_of_heap h4 0) (grownBy_putObj' W D (.deferred none)) (fun r e=>by cases e;exact⟨_,hK,rfl⟩)
  refine⟨by simp,.inl ⟨_,_,rfl,run_takeDeferred hK,?_⟩⟩
  obtain⟨pre',x,rfl,hok,hno⟩:=hex
  obtain⟨post,hpost⟩:=hSp
  refine⟨.tuple #[.slice none 0 0,.int .i64 (pre'++[x]).length,.int .i64 3],by simp [results,Tryd.results11,go_sem,e2,e3,e4],_,_,_,rfl,hB2,.inr ⟨pre'.map (·.1),x.1,post,?_,hok,hno,rfl,?_,rfl⟩⟩
  · rw [<- hpost];simp
  · simp
end Go.Proofs.YtchahoiainbcaaaDoor
namespace Kv
def evA:Ev:=⟨3,2,0,1,0,9,0⟩
def strA:Bs:=[51,32,114,101,116,117,114,110,32,48,32,49,32,57,32,48]
theorem fineA:fineE evA=true:=by decide
theorem lineA:lineE evA=strA:=by
 have d0:digits 0=[48]:=by rw [digits,Go.Lib.itoa];simp [Go.Lib.decDigits]
 have d1:digits 1=[49]:=by rw [digits,Go.Lib.itoa];simp [Go.Lib.decDigits]
 have d3:digits 3=[51]:=by rw [digits,Go.Lib.itoa];simp [Go.Lib.decDigits]
 have d9:digits 9=[57]:=by rw [digits,Go.Lib.itoa];simp [Go.Lib.decDigits]
 simp only [lineE,wordsE,evA,d0,d1,d3,d9]
 rfl
theorem oneA:oneE strA=some evA:=by rw [<- lineA];exact one_line fineA
def strA2:Bs:=[51,32,114,101,116,117,114,110,32,48,32,49,32,57,32,48,10,120,10]
theorem linesA:linesL strA2=[(strA,true),([120],true)]:=by decide
theorem oneX:oneE [120]=none:=by decide
def strB:Bs:=[49,32,110,111,116,101,32,48,32,48,32,105,110,10]
def strB1:Bs:=[49,32,110,111,116,101,32,48,32,48,32,105,110]
theorem linesB:linesL strB=[(strB1,true)]:=by decide
theorem oneB:oneE strB1=some ⟨1,3,0,0,3,0,0⟩:=by decide
end Kv
namespace Go.Proofs.YtchahoiainbcaaaDoor
open Go.RowKit Kv
@[go_sem] theorem eql_event (a k t c v x y a' k' t' c' v' x' y':Int) (w:World):(binOp .eql 26 (.agg #[.int .i64 a,.int .i64 k,.int .i64 t,.int .i64 c,.int .i64 v,.int .i64 x,.int .i64 y]) (.agg #[.int .i64 a',.int .i64 k',.int .i64 t',.int .i64 c',.int .i64 v',.int .i64 x',.int .i64 y'])).run Tryd.prog w=.ok (.bool (decide (a=a'/\k=k'/\t=t'/\c=c'/\v=v'/\x=x'/\y=y'))) w:=by
 rw [run_eql_struct,run_equalIn_struct w 9999 26 _ _ (by kernel_rfl) (by kernel_rfl)]
 have hu:Tryd.prog.underlying 3=some (.int .i64):=Tryd.underlying3
 simp only [Program.fieldsOf,Tryd.underlying26,Op.eqFields]
 simp [go_sem,run_equalIn_int,hu]
 by_cases ha:a=a'
 rotate_left
 · simp [ha]
 by_cases hk:k=k'
 rotate_left
 · simp [hk]
 by_cases ht:t=t'
 rotate_left
 · simp [ht]
 by_cases hc:c=c'
 rotate_left
 · simp [hc]
 by_cases hv:v=v'
 rotate_left
 · simp [hv]
 by_cases hx:x=x'
 rotate_left
 · simp [hx]
 by_cases hy:y=y'
 rotate_left
 · simp [hy]
 simp [ha,hk,ht,hc,hv,hx,hy]
theorem line_a (w:World)(T:Tabs w):Calls Tryd.prog 5 #[.agg #[.int .i64 3,.int .i64 2,.int .i64 0,.int .i64 1,.int .i64 0,.int .i64 9,.int .i64 0]] w fun r w'=>r=.returned (.tuple #[.string ⟨#[51,32,114,101,116,117,114,110,32,48,32,49,32,57,32,48]⟩,.int .i64 0])/\Ext w w':=by
 have h:=line_yes evA w T fineA
 rw [lineA] at h
 exact h
theorem one_a (w:World)(M:MaxI w):Calls Tryd.prog 9 #[.string ⟨#[51,32,114,101,116,117,114,110,32,48,32,49,32,57,32,48]⟩] w fun r w'=>r=.returned (.tuple #[.agg #[.int .i64 3,.int .i64 2,.int .i64 0,.int .i64 1,.int .i64 0,.int .i64 9,.int .i64 0],.int .i64 0])/\Ext w w':=by
 have h:=one_p strA w (by decide) M
 rw [oneA] at h
 exact h
theorem parse_a (w:World)(M:MaxI w):Calls Tryd.prog 11 #[.string ⟨#[51,32,114,101,116,117,114,110,32,48,32,49,32,57,32,48,10,120,10]⟩] w fun r w'=>r=.returned (.tuple #[.slice none 0 0,.int .i64 2,.int .i64 3])/\Ext w w':=by
 refine (parse_p strA2 w (by decide) (by decide) M).mono ?_
 rintro e w' ⟨v,n,err,rfl,hx,h⟩
 rw [linesA] at h
 rcases h with⟨hok,_⟩ | ⟨pre,x,post,he,hok,hno,rfl,rfl,rfl⟩
 · have:=(hok ([120],true) (by simp)).1
   rw [oneX] at this
   cases this
 · refine⟨?_,hx⟩
   match pre,he with
   | [],he =>
     simp only [List.nil_append,List.cons.injEq] at he
     obtain⟨rfl,_⟩:=he
     exact absurd ⟨by rw [oneA];rfl,rfl⟩ hno
   | [_],_=>rfl
   | _ :: _ :: _,he=>exact absurd (congrArg List.length he) (by simp)
theorem parse_b (w:World)(M:MaxI w):Calls Tryd.prog 11 #[.string ⟨#[49,32,110,111,116,101,32,48,32,48,32,105,110,10]⟩] w fun r w'=>∃ g cap,r=.returned (.tuple #[.slice (some ⟨g,0,none⟩) 1 cap,.int .i64 0,.int .i64 0])/\Ext w w'/\w'.cell? ⟨g,4,none⟩=some (.int .i64 3):=by
 refine (parse_p strB w (by decide) (by decide) M).mono ?_
 rintro e w' ⟨v,n,err,rfl,hx,h⟩
 rw [linesB] at h
 rcases h with⟨hok,rfl,rfl,_,h⟩ | ⟨pre,x,post,he,hok,hno,rfl,rfl,rfl⟩
 · rcases h with⟨_,h⟩ | ⟨g,cap,cur,rfl,_,hh,_,_,hsz,hcur⟩
   · cases h
   · refine⟨g,cap,rfl,hx,?_⟩
     have e1:(evsOf [(strB1,true)]).flatMap evVals=[.int .i64 1,.int .i64 3,.int .i64 0,.int .i64 0,.int .i64 3,.int .i64 0,.int .i64 0]:=by simp [evsOf,oneB,evVals]
     rw [e1] at hcur
     rw [cell_of_heap hh 4]
     have h4:(cur.toList.take (1*7))[4]?=some (.int .i64 3):=by
      rw [show ([(strB1,true)]:List (Bs × Bool)).length=1 from rfl] at hcur
      rw [hcur];rfl
     simpa using h4
 · exfalso
   match pre,he with
   | [],he =>
     simp only [List.nil_append,List.cons.injEq] at he
     obtain⟨rfl,_⟩:=he
     exact absurd ⟨by rw [oneB];rfl,rfl⟩ hno
   | _ :: _,he=>exact absurd (congrArg List.length he) (by simp)
set_option maxRecDepth 100000 in
set_option maxHeartbeats 2000000 in
theorem alive45_p (w:World)(T:Tabs w)(M:MaxI w):Calls Tryd.prog 8 #[] w fun r w'=>r=.returned (.bool true)/\Ext w w':=by
 have sadd:=fun W=>run_string_add_lists (P:=Tryd.prog) W [51,32,114,101,116,117,114,110,32,48,32,49,32,57,32,48] [10,120,10] (by decide) (by decide)
 have bE:=Blk.new w (.cells #[.int .i64 3,.int .i64 2,.int .i64 0,.int .i64 1,.int .i64 0,.int .i64 9,.int .i64 0] 26)
 have hX:=(Ext.refl w).alloc (.cells #[.int .i64 3,.int .i64 2,.int .i64 0,.int .i64 1,.int .i64 0,.int .i64 9,.int .i64 0] 26)
 have hz:w.heap.size<(w.alloc (.cells #[.int .i64 3,.int .i64 2,.int .i64 0,.int .i64 1,.int .i64 0,.int .i64 9,.int .i64 0] 26)).heap.size:=bE.lt
 go_enter Tryd.func8,Tryd.ntmps8
 go_wp2_with fail
 refine (line_a _ (T.ext hX)).mono ?_
 rintro e w2 ⟨rfl,hx⟩
 replace bE:=bE.ext hx
 replace hX:=hX.trans hx
 clear hx hz
 go_wp2_with fail
 refine (one_a _ (M.ext hX)).mono ?_
 rintro e w3 ⟨rfl,hx⟩
 have hy:=hx.alloc (.cells #[.int .i64 3,.int .i64 2,.int .i64 0,.int .i64 1,.int .i64 0,.int .i64 9,.int .i64 0] 26)
 have bB:=Blk.new w3 (.cells #[.int .i64 3,.int .i64 2,.int .i64 0,.int .i64 1,.int .i64 0,.int .i64 9,.int .i64 0] 26)
 replace bE:=bE.ext hy
 replace hX:=hX.trans hy
 clear hx hy
 go_wp2_with fail
 generalize World.alloc w3 _=w4 at *
 generalize w3.heap.size=z at *
 refine (parse_a _ (M.ext hX)).mono ?_
 rintro e w5 ⟨rfl,hx⟩
 replace bE:=bE.ext hx
 replace bB:=bB.ext hx
 replace hX:=hX.trans hx
 clear hx
 go_wp2_with fail
 refine (parse_b _ (M.ext hX)).mono ?_
 rintro e w6 ⟨g,cap,rfl,hx,c4⟩
 replace bE:=bE.ext hx
 replace bB:=bB.ext hx
 replace hX:=hX.trans hx
 clear hx sadd
 have cE:=bE.cells
 have cB:=bB.cells
 clear bE bB
 go_wp2_with fail
 go_ret
 exact⟨rfl,hX⟩
theorem digits_q2 (n:Int)(h0:-9223372036854775808<=n)(h1:n<=9223372036854775807)(W:World)(k:Nat) :
  Calls Tryd.prog 25 #[.int .i64 n] (W.drewN k) fun e w''=>e=.returned (.string ⟨(digits n).toArray⟩)/\∃ m,w''=W.drewN m :=
 (digits_r n h0 h1 _).mono fun _ _ h=>⟨h.1,k,h.2.symm⟩
set_option maxRecDepth 100000 in
set_option maxHeartbeats 4000000 in
theorem line_r (e:Ev)(w:World)(hf:fineE e=true):Calls Tryd.prog 10 #[encE e] w fun r w'=>r=.returned (.string ⟨(lineE e).toArray⟩)/\Ext w w':=by
 obtain⟨h1,h2,h3,h4,h5,h6,h7⟩:=fine_parts hf
 clear hf
 obtain⟨a,k,t,c,v,x,y⟩:=e
 unfold encE
 simp only at *
 obtain⟨K,rfl⟩:∃ K:Nat,k=(K:Int):=⟨k.toNat,by omega⟩
 have hWh:=Lib.hid (show lineE ⟨a,(K:Int),t,c,v,x,y⟩=Go.Lib.join ([digits a,nthW kindsW (K:Int),digits t,digits c]++(if (K:Int)=3 then [nthW notesW v] else if (K:Int)=2 then [digits x,digits y] else [])) [32] from rfl)
 have hkcell:∀ W (b:Nat),Blk W b (.cells #[.string ⟨#[]⟩,.string ⟨#[99,97,108,108]⟩,.string ⟨#[114,101,116,117,114,110]⟩,.string ⟨#[110,111,116,101]⟩,.string ⟨#[104,97,108,116]⟩] 9)->W.cell? ⟨b,K,none⟩=some (.string ⟨(nthW kindsW (K:Int)).toArray⟩):=by
  intro W b hb
  rw [hb.cells K]
  have:K=1∨K=2∨K=3∨K=4:=by omega
  rcases this with rfl | rfl | rfl | rfl <;> rfl
 have hkw:(nthW kindsW (K:Int)).length<=100:=by
  have:K=1∨K=2∨K=3∨K=4:=by omega
  rcases this with rfl | rfl | rfl | rfl <;> decide
 generalize hkn:nthW kindsW (K:Int)=kw at *
 clear hkn
 have hlen:∀ n:Int,0<=n->n<=1099511627776->(digits n).length<=21:=fun n h0 h1=>Go.Lib.itoa_length_le n (by omega) (by omega)
 have g1:=hlen a h2.1 (by omega)
 have g2:=hlen t h3.1 (by omega)
 have g3:=hlen c h4.1 (by omega)
 have f1:=Lib.hid (digits_q2 a (by omega) (by omega))
 have f2:=Lib.hid (digits_q2 t (by omega) (by omega))
 have f3:=Lib.hid (digits_q2 c (by omega) (by omega))
 have hc1:=fun W=>run_string_add_lists (P:=Tryd.prog) W (digits a) ([32]) (by first | omega | (simp only [List.length_append,List.length_singleton];omega)) (by first | omega | (simp only [List.length_singleton];omega))
 have hc2:=fun W=>run_string_add_lists (P:=Tryd.prog) W ((digits a++[32])) (kw) (by first | omega | (simp only [List.length_append,List.length_singleton];omega)) (by first | omega | (simp only [List.length_singleton];omega))
 have hc3:=fun W=>run_string_add_lists (P:=Tryd.prog) W (((digits a++[32])++kw)) ([32]) (by first | omega | (simp only [List.length_append,List.length_singleton];omega)) (by first | omega | (simp only [List.length_singleton];omega))
 have hc4:=fun W=>run_string_add_lists (P:=Tryd.prog) W ((((digits a++[32])++kw)++[32])) (digits t) (by first | omega | (simp only [List.length_append,List.length_singleton];omega)) (by first | omega | (simp only [List.length_singleton];omega))
 have hc5:=fun W=>run_string_add_lists (P:=Tryd.prog) W (((((digits a++[32])++kw)++[32])++digits t)) ([32]) (by first | omega | (simp only [List.length_append,List.length_singleton];omega)) (by first | omega | (simp only [List.length_singleton];omega))
 have hc6:=fun W=>run_string_add_lists (P:=Tryd.prog) W ((((((digits a++[32])++kw)++[32])++digits t)++[32])) (digits c) (by first | omega | (simp only [List.length_append,List.length_singleton];omega)) (by first | omega | (simp only [List.length_singleton];omega))
 have hX:=Ext.refl w
 have b1:=Blk.new w (.cells #[.int .i64 a,.int .i64 (K:Int),.int .i64 t,.int .i64 c,.int .i64 v,.int .i64 x,.int .i64 y] 26)
 replace hX:=hX.alloc (.cells #[.int .i64 a,.int .i64 (K:Int),.int .i64 t,.int .i64 c,.int .i64 v,.int .i64 x,.int .i64 y] 26)
 have c_b1:=b1.cells
 go_enter Tryd.func10,Tryd.ntmps10
 go_wp2_with fail
 have bk:=(Blk.new (w.alloc (.cells #[.int .i64 a,.int .i64 (K:Int),.int .i64 t,.int .i64 c,.int .i64 v,.int .i64 x,.int .i64 y] 26)) (.cells #[.string ⟨#[]⟩,.string ⟨#[99,97,108,108]⟩,.string ⟨#[114,101,116,117,114,110]⟩,.string ⟨#[110,111,116,101]⟩,.string ⟨#[104,97,108,116]⟩] 9)).alloc (.cells #[.string ⟨#[]⟩,.string ⟨#[100,111,111,114]⟩,.string ⟨#[98,101,104,105,110,100]⟩,.string ⟨#[105,110]⟩,.string ⟨#[108,101,102,116]⟩,.string ⟨#[111,117,116]⟩] 9)
 have bn:=Blk.new ((w.alloc (.cells #[.int .i64 a,.int .i64 (K:Int),.int .i64 t,.int .i64 c,.int .i64 v,.int .i64 x,.int .i64 y] 26)).alloc (.cells #[.string ⟨#[]⟩,.string ⟨#[99,97,108,108]⟩,.string ⟨#[114,101,116,117,114,110]⟩,.string ⟨#[110,111,116,101]⟩,.string ⟨#[104,97,108,116]⟩] 9)) (.cells #[.string ⟨#[]⟩,.string ⟨#[100,111,111,114]⟩,.string ⟨#[98,101,104,105,110,100]⟩,.string ⟨#[105,110]⟩,.string ⟨#[108,101,102,116]⟩,.string ⟨#[111,117,116]⟩] 9)
 have x1:=((Ext.refl (w.alloc (.cells #[.int .i64 a,.int .i64 (K:Int),.int .i64 t,.int .i64 c,.int .i64 v,.int .i64 x,.int .i64 y] 26))).alloc (.cells #[.string ⟨#[]⟩,.string ⟨#[99,97,108,108]⟩,.string ⟨#[114,101,116,117,114,110]⟩,.string ⟨#[110,111,116,101]⟩,.string ⟨#[104,97,108,116]⟩] 9)).alloc (.cells #[.string ⟨#[]⟩,.string ⟨#[100,111,111,114]⟩,.string ⟨#[98,101,104,105,110,100]⟩,.string ⟨#[105,110]⟩,.string ⟨#[108,101,102,116]⟩,.string ⟨#[111,117,116]⟩] 9)
 simp only [World.size_alloc] at bk bn
 replace b1:=b1.ext x1
 replace hX:=hX.trans x1
 clear c_b1 x1
 generalize World.alloc (World.alloc (World.alloc w _) _) _=V at *
 have c_b1:=b1.cells
 have c_k:=hkcell _ _ bk
 have i1:(K:Int)<5:=by omega
 have i5:K<5:=by omega
 clear hkcell
 go_quiet (first | (go_at_call_of 25 (Value.int IntKind.i64 a);exact f1.out _ _) | (go_at_call_of 25 (Value.int IntKind.i64 t);exact f2.out _ _) | (go_at_call_of 25 (Value.int IntKind.i64 c);exact f3.out _ _))
 replace hX:=hX.trans (Drew.mk' V nq).ext
 replace b1:=b1.ext (Drew.mk' V nq).ext
 replace bn:=bn.ext (Drew.mk' V nq).ext
 clear c_b1 c_k bk i1 i5 f1 f2 f3 hc1 hc2 hc3 hc4 hc5 hc6
 generalize World.drewN V nq=V2 at *
 have c_b1:=b1.cells
 by_cases e3:K=3
 · subst e3
   obtain⟨⟨v1,v2⟩,rfl,rfl⟩:=h5 (by omega)
   clear h5 h6 h7
   obtain⟨vv,rfl⟩:∃ vv:Nat,v=(vv:Int):=⟨v.toNat,by omega⟩
   have hnc:V2.cell? ⟨w.heap.size+1+1,vv,none⟩=some (.string ⟨(nthW notesW (vv:Int)).toArray⟩)/\(nthW notesW (vv:Int)).length<=100:=by
    rw [bn.cells vv]
    have:vv=1∨vv=2∨vv=3∨vv=4∨vv=5:=by omega
    rcases this with rfl | rfl | rfl | rfl | rfl <;> exact⟨rfl,by decide⟩
   obtain⟨hnc,hnl⟩:=hnc
   have i3:(vv:Int)<6:=by omega
   have i5:vv<6:=by omega
   have hW2:=hWh.out
   rw [if_pos (by decide)] at hW2
   replace hWh:=Lib.hid hW2
   clear hW2
   generalize nthW notesW (vv:Int)=nw at *
   have hc7:=fun W=>run_string_add_lists (P:=Tryd.prog) W (digits a++[32]++kw++[32]++digits t++[32]++digits c) ([32]) (by first | omega | (simp only [List.length_append,List.length_singleton];omega)) (by first | omega | (simp only [List.length_singleton];omega))
   have hc8:=fun W=>run_string_add_lists (P:=Tryd.prog) W (digits a++[32]++kw++[32]++digits t++[32]++digits c++[32]) (nw) (by first | omega | (simp only [List.length_append,List.length_singleton];omega)) (by first | omega | (simp only [List.length_singleton];omega))
   go_wp2_with fail
   go_ret
   refine⟨congrArg (fun b=>Ending.returned (Value.string b)) ?_,hX⟩
   rw [hWh.out]
   apply ByteArray.ext
   simp [Go.Lib.join,List.intercalate,List.intersperse]
 · by_cases e2:K=2
   · subst e2
     obtain⟨rfl,hx12,hy40⟩:=h6 (by omega)
     clear h5 h6 h7
     have hW2:=hWh.out
     rw [if_neg (by decide),if_pos (by decide)] at hW2
     replace hWh:=Lib.hid hW2
     clear hW2
     have g4:=hlen x hx12.1 (by omega)
     have g5:=hlen y hy40.1 (by omega)
     have f4:=Lib.hid (digits_q2 x (by omega) (by omega))
     have f5:=Lib.hid (digits_q2 y (by omega) (by omega))
     have hc7:=fun W=>run_string_add_lists (P:=Tryd.prog) W (digits a++[32]++kw++[32]++digits t++[32]++digits c) ([32]) (by first | omega | (simp only [List.length_append,List.length_singleton];omega)) (by first | omega | (simp only [List.length_singleton];omega))
     have hc8:=fun W=>run_string_add_lists (P:=Tryd.prog) W (digits a++[32]++kw++[32]++digits t++[32]++digits c++[32]) (digits x) (by first | omega | (simp only [List.length_append,List.length_singleton];omega)) (by first | omega | (simp only [List.length_singleton];omega))
     have hc9:=fun W=>run_string_add_lists (P:=Tryd.prog) W (digits a++[32]++kw++[32]++digits t++[32]++digits c++[32]++digits x) ([32]) (by first | omega | (simp only [List.length_append,List.length_singleton];omega)) (by first | omega | (simp only [List.length_singleton];omega))
     have hc10:=fun W=>run_string_add_lists (P:=Tryd.prog) W (digits a++[32]++kw++[32]++digits t++[32]++digits c++[32]++digits x++[32]) (digits y) (by first | omega | (simp only [List.length_append,List.length_singleton];omega)) (by first | omega | (simp only [List.length_singleton];omega))
     go_wp2_with fail
     go_quiet (first | (go_at_call_of 25 (Value.int IntKind.i64 x);exact f4.out _ _) | (go_at_call_of 25 (Value.int IntKind.i64 y);exact f5.out _ _))
     go_wp2_with fail
     go_ret
     refine⟨congrArg (fun b=>Ending.returned (Value.string b)) ?_,hX.trans (Drew.mk' _ _).ext⟩
     rw [hWh.out]
     apply ByteArray.ext
     simp [Go.Lib.join,List.intercalate,List.intersperse]
   · have hW2:=hWh.out
     rw [if_neg (by omega),if_neg (by omega)] at hW2
     replace hWh:=Lib.hid hW2
     clear hW2 h5 h6 h7
     have d1:((K:Int)==3)=false:=by rw [beq_eq_false_iff_ne];omega
     have d2:((K:Int)==2)=false:=by rw [beq_eq_false_iff_ne];omega
     have d3:(K==3)=false:=by rw [beq_eq_false_iff_ne];omega
     have d4:(K==2)=false:=by rw [beq_eq_false_iff_ne];omega
     clear e2 e3 h1
     go_wp2_with fail
     go_ret
     refine⟨congrArg (fun b=>Ending.returned (Value.string b)) ?_,hX⟩
     rw [hWh.out]
     apply ByteArray.ext
     simp [Go.Lib.join,List.intercalate,List.intersperse]
theorem nthW_len (l:List Bs)(h:∀ x∈l,x.length<=100)(i:Int):(nthW l i).length<=100:=by
 unfold nthW
 rw [List.getD_eq_getElem?_getD]
 cases hx:l[(i-1).toNat]? with
 | none=>simp
 | some x=>exact h x (List.mem_of_getElem? hx)
theorem line_short (e:Ev)(hf:fineE e=true):(lineE e).length<=1000:=by
 obtain⟨h1,h2,h3,h4,h5,h6,h7⟩:=fine_parts hf
 have hlen:∀ n:Int,0<=n->n<=1099511627776->(digits n).length<=100:=fun n h0 h1=>Nat.le_trans (Go.Lib.itoa_length_le n (by omega) (by omega)) (by omega)
 have k1:=nthW_len kindsW (by decide) e.kind
 have k2:=nthW_len notesW (by decide) e.val
 have a1:=hlen e.at_ h2.1 (by omega)
 have a2:=hlen e.thread h3.1 (by omega)
 have a3:=hlen e.call h4.1 (by omega)
 unfold lineE wordsE
 split
 · have:=join_bd ([nthW kindsW e.kind,digits e.thread,digits e.call]++[nthW notesW e.val]) (digits e.at_) 100 (by simp only [List.cons_append,List.nil_append,List.mem_cons,List.not_mem_nil,or_false];rintro w (rfl | rfl | rfl | rfl | rfl) <;> assumption)
   exact Nat.le_trans this (by simp)
 · split
   · rename_i e2
     obtain⟨-,b1,b2⟩:=h6 e2
     have a4:=hlen e.err b1.1 (by omega)
     have a5:=hlen e.rv b2.1 (by omega)
     have:=join_bd ([nthW kindsW e.kind,digits e.thread,digits e.call]++[digits e.err,digits e.rv]) (digits e.at_) 100 (by simp only [List.cons_append,List.nil_append,List.mem_cons,List.not_mem_nil,or_false];rintro w (rfl | rfl | rfl | rfl | rfl | rfl) <;> assumption)
     exact Nat.le_trans this (by simp)
   · have:=join_bd ([nthW kindsW e.kind,digits e.thread,digits e.call]++[]) (digits e.at_) 100 (by simp only [List.cons_append,List.nil_append,List.append_nil,List.mem_cons,List.not_mem_nil,or_false];rintro w (rfl | rfl | rfl | rfl) <;> assumption)
     exact Nat.le_trans this (by simp)
set_option maxRecDepth 100000 in
set_option maxHeartbeats 2000000 in
theorem textlines_no (e:Ev)(w:World)(T:Tabs w)(M:MaxI w)(hf:fineE e=false):Calls Tryd.prog 3 #[encE e] w fun r w'=>r=.returned (.bool true)/\Ext w w':=by
 have hP:=fun w=>hf▸fine45_p e w
 have hR:=fun w=>hf▸fine45_r e w
 have hL:=fun w=>line_no e w hf
 clear hf
 obtain⟨a,k,t,c,v,x,y⟩:=e
 unfold encE at *
 simp only at *
 have hX:=Ext.refl w
 have b1:=Blk.new w (.cells #[.int .i64 a,.int .i64 k,.int .i64 t,.int .i64 c,.int .i64 v,.int .i64 x,.int .i64 y] 26)
 replace hX:=hX.alloc (.cells #[.int .i64 a,.int .i64 k,.int .i64 t,.int .i64 c,.int .i64 v,.int .i64 x,.int .i64 y] 26)
 have c_b1:=b1.cells
 go_enter Tryd.func3,Tryd.ntmps3
 go_wp2_with fail
 refine (hL _).mono ?_
 rintro e w2 ⟨rfl,hx⟩
 replace b1:=b1.ext hx
 replace hX:=hX.trans hx
 clear c_b1 hx hL
 go_upto_region 2 with fail
 have hS:∀ w',Ext w2 w'->∀ i:Nat,w'.cell? ⟨w.heap.size,i,none⟩=#[.int .i64 a,.int .i64 k,.int .i64 t,.int .i64 c,.int .i64 v,.int .i64 x,.int .i64 y][i]?:=fun w' hx=>(b1.ext hx).cells
 refine wp_region_held_drew (S:=fun w'=>∀ i:Nat,w'.cell? ⟨w.heap.size,i,none⟩=#[.int .i64 a,.int .i64 k,.int .i64 t,.int .i64 c,.int .i64 v,.int .i64 x,.int .i64 y][i]?) rfl (hS _ (Ext.refl _).drew) (fun hHeld=>?_)
 refine tk 0 (v:=?_) rfl (by kernel_rfl) (fun _ _ _ h=>h) (by assumption) ?_ ?_
 rotate_left
 · (intro w hSw;(try dsimp only at hSw);go_simp;try with_reducible rfl)
 try simp only [put_pack]
 refine tk 2 (v:=?_) rfl (by kernel_rfl) (fun _ _ _ h=>h) (by assumption) ?_ ?_
 rotate_left
 · (intro w hSw;(try dsimp only at hSw);go_simp;try with_reducible rfl)
 try simp only [put_pack]
 refine wpAnyH_ready (rs:=[1]) (by kernel_rfl) (by simp) ?_
 refine AllReadyH.cons rfl (fun K hKK=>?_) (AllReadyH.nil)
 go_simp
 refine (hP _).mono ?_
 rintro e w3 ⟨rfl,hx⟩
 have hx1:=(Ext.refl w2).drew.trans hx
 clear hx
 refine hKK.out _ _ (hS _ hx1) (fun hHeld=>?_)
 clear hKK K
 try dsimp only
 refine wpAnyH_ready (rs:=[3]) (by kernel_rfl) (by simp) ?_
 refine AllReadyH.cons rfl (fun K hKK=>?_) (AllReadyH.nil)
 go_simp
 refine (hR _).mono ?_
 rintro e w4 ⟨rfl,hx⟩
 have hx2:=hx1.trans hx
 clear hx
 refine hKK.out _ _ (hS _ hx2) (fun hHeld=>?_)
 clear hKK K
 try dsimp only
 refine tk 4 (v:=?_) rfl (by kernel_rfl) (fun _ _ _ h=>h) (by assumption) ?_ ?_
 rotate_left
 · (intro w hSw;(try dsimp only at hSw);go_simp;try with_reducible rfl)
 try simp only [put_pack]
 refine wpAnyH_done (by kernel_rfl) ?_ _
 go_simp
 replace b1:=b1.ext hx2
 replace hX:=hX.trans hx2
 clear hS hx1 hx2 hHeld
 have c_b1:=b1.cells
 go_wp2_with fail
 refine (hR _).mono ?_
 rintro e w5 ⟨rfl,hx⟩
 replace hX:=hX.trans hx
 clear hx c_b1 b1
 go_wp2_with fail
 refine (alive45_p _ (T.ext hX) (M.ext hX)).mono ?_
 rintro e w6 ⟨rfl,hx⟩
 replace hX:=hX.trans hx
 clear hx
 go_wp2_with fail
 go_ret
 exact⟨rfl,hX⟩
set_option maxRecDepth 100000 in
set_option maxHeartbeats 2000000 in
theorem textlines_yes (e:Ev)(w:World)(T:Tabs w)(M:MaxI w)(hf:fineE e=true):Calls Tryd.prog 3 #[encE e] w fun r w'=>r=.returned (.bool true)/\Ext w w':=by
 have hP:=fun w=>hf▸fine45_p e w
 have hR:=fun w=>hf▸fine45_r e w
 have hL:=fun w T=>line_yes e w T hf
 have hLR:=fun w=>line_r e w hf
 have hsh:=line_short e hf
 have hO:∀ w,MaxI w->Calls Tryd.prog 9 #[.string ⟨(lineE e).toArray⟩] w fun r w'=>r=.returned (.tuple #[encE e,.int .i64 0])/\Ext w w':=fun w M=>by
  have h:=one_p (lineE e) w (by omega) M
  rw [one_line hf] at h
  exact h
 clear hf hsh
 generalize lineE e=L at *
 obtain⟨a,k,t,c,v,x,y⟩:=e
 unfold encE at *
 simp only at *
 have hX:=Ext.refl w
 have b1:=Blk.new w (.cells #[.int .i64 a,.int .i64 k,.int .i64 t,.int .i64 c,.int .i64 v,.int .i64 x,.int .i64 y] 26)
 replace hX:=hX.alloc (.cells #[.int .i64 a,.int .i64 k,.int .i64 t,.int .i64 c,.int .i64 v,.int .i64 x,.int .i64 y] 26)
 have c_b1:=b1.cells
 go_enter Tryd.func3,Tryd.ntmps3
 go_wp2_with fail
 refine (hL _ (T.ext hX)).mono ?_
 rintro e w2 ⟨rfl,hx⟩
 replace b1:=b1.ext hx
 replace hX:=hX.trans hx
 clear c_b1 hx hL
 go_upto_region 2 with fail
 have hS:∀ w',Ext w2 w'->∀ i:Nat,w'.cell? ⟨w.heap.size,i,none⟩=#[.int .i64 a,.int .i64 k,.int .i64 t,.int .i64 c,.int .i64 v,.int .i64 x,.int .i64 y][i]?:=fun w' hx=>(b1.ext hx).cells
 refine wp_region_held_drew (S:=fun w'=>∀ i:Nat,w'.cell? ⟨w.heap.size,i,none⟩=#[.int .i64 a,.int .i64 k,.int .i64 t,.int .i64 c,.int .i64 v,.int .i64 x,.int .i64 y][i]?) rfl (hS _ (Ext.refl _).drew) (fun hHeld=>?_)
 refine tk 0 (v:=?_) rfl (by kernel_rfl) (fun _ _ _ h=>h) (by assumption) ?_ ?_
 rotate_left
 · (intro w hSw;(try dsimp only at hSw);go_simp;try with_reducible rfl)
 try simp only [put_pack]
 refine tk 2 (v:=?_) rfl (by kernel_rfl) (fun _ _ _ h=>h) (by assumption) ?_ ?_
 rotate_left
 · (intro w hSw;(try dsimp only at hSw);go_simp;try with_reducible rfl)
 try simp only [put_pack]
 refine wpAnyH_ready (rs:=[1]) (by kernel_rfl) (by simp) ?_
 refine AllReadyH.cons rfl (fun K hKK=>?_) (AllReadyH.nil)
 go_simp
 refine (hP _).mono ?_
 rintro e w3 ⟨rfl,hx⟩
 have hx1:=(Ext.refl w2).drew.trans hx
 clear hx
 refine hKK.out _ _ (hS _ hx1) (fun hHeld=>?_)
 clear hKK K
 try dsimp only
 refine wpAnyH_ready (rs:=[3]) (by kernel_rfl) (by simp) ?_
 refine AllReadyH.cons rfl (fun K hKK=>?_) (AllReadyH.nil)
 go_simp
 refine (hR _).mono ?_
 rintro e w4 ⟨rfl,hx⟩
 have hx2:=hx1.trans hx
 clear hx
 refine hKK.out _ _ (hS _ hx2) (fun hHeld=>?_)
 clear hKK K
 try dsimp only
 refine tk 4 (v:=?_) rfl (by kernel_rfl) (fun _ _ _ h=>h) (by assumption) ?_ ?_
 rotate_left
 · (intro w hSw;(try dsimp only at hSw);go_simp;try with_reducible rfl)
 try simp only [put_pack]
 refine wpAnyH_done (by kernel_rfl) ?_ _
 go_simp
 replace b1:=b1.ext hx2
 replace hX:=hX.trans hx2
 clear hS hx1 hx2 hHeld
 have c_b1:=b1.cells
 go_wp2_with fail
 refine (hR _).mono ?_
 rintro e w5 ⟨rfl,hx⟩
 replace hX:=hX.trans hx
 replace b1:=b1.ext hx
 clear hx c_b1
 go_wp2_with fail
 refine (hO _ (M.ext hX)).mono ?_
 rintro e w6 ⟨rfl,hx⟩
 have hy:=hx.alloc (.cells #[.int .i64 a,.int .i64 k,.int .i64 t,.int .i64 c,.int .i64 v,.int .i64 x,.int .i64 y] 26)
 have bB:=Blk.new w6 (.cells #[.int .i64 a,.int .i64 k,.int .i64 t,.int .i64 c,.int .i64 v,.int .i64 x,.int .i64 y] 26)
 replace b1:=b1.ext hy
 replace hX:=hX.trans hy
 clear hx hy
 have c_b1:=b1.cells
 have c_bB:=bB.cells
 go_wp2_with fail
 generalize World.alloc w6 _=w7 at *
 generalize w6.heap.size=z at *
 refine (hLR _).mono ?_
 rintro e w8 ⟨rfl,hx⟩
 replace b1:=b1.ext hx
 replace bB:=bB.ext hx
 replace hX:=hX.trans hx
 clear hx c_b1 c_bB
 have c_b1:=b1.cells
 have c_bB:=bB.cells
 go_wp2_with fail
 refine (alive45_p _ (T.ext hX) (M.ext hX)).mono ?_
 rintro e w9 ⟨rfl,hx⟩
 replace hX:=hX.trans hx
 clear hx
 go_wp2_with fail
 go_ret
 exact⟨rfl,hX⟩
theorem textlines_walk (e:Ev)(w:World)(T:Tabs w)(M:MaxI w):Calls Tryd.prog 3 #[encE e] w fun r w'=>r=.returned (.bool true)/\Ext w w':=by
 cases hf:fineE e with
 | false=>exact textlines_no e w T M hf
 | true=>exact textlines_yes e w T M hf
end Go.Proofs.YtchahoiainbcaaaDoor
namespace Go.Proofs.YtchahoiainbcaaaDoor
open Go.RowKit Go.WideShapes Go.ChangeShapes
section
variable {H:Type} {enc:TypeId × Value->H} {P:Program}
theorem post_of_below {f:Func}{s:ChangeSpec}{apart fresh handsOn again:Bool}{W W':World}{args:Array Value}{v:Value}{ds gs:List (DataW H)}{before pa pv:List MemPlace}
  (hW:DataW.Whole enc P f.params.toList s.vars apart W args.toList ds gs before)
  (hres:∀ (b:Nat) (sp:Nat->Bool) (hd:Bool),DataW.TrodAll enc P W' b sp hd f.resultTypes.toList (v.resultList f.resultTypes.size) (s.fn H (ds++gs)).results [])
  (hargs:∀ sp:Nat->Bool,(∀ p∈before,sp p.block=true)->DataW.TrodAll enc P W' 0 sp true f.params.toList args.toList (s.fn H (ds++gs)).args pa)
  (hvars:∀ sp:Nat->Bool,(∀ p∈before,sp p.block=true)->DataW.TrodVars enc P W' sp s.vars (s.fn H (ds++gs)).vars pv)
  (hps:before=pa++pv)(hb:Below W.heap.size W W')
  (hok:∀ (j:Nat) (t:TypeId) (r:Value),f.resultTypes[j]?=some t->(v.resultList f.resultTypes.size)[j]?=some r->Value.okWide P W' .any 0 t r) :
  s.post enc P f apart fresh handsOn again W args v W':=by
 have hlt:∀ p∈before,p.block<W.heap.size:=fun p hp=>hW.lt p hp
 have hold:∀ p∈before,(fun b=>decide (b<W.heap.size)) p.block=true:=fun p hp=>by simpa using hlt p hp
 refine⟨ds,gs,before,[],pa,pv,hW,hres _ _ _,hargs _ hold,hvars _ hold,World.keptBut_mono (fun p hp=>⟨hp,?_⟩) (hb.frame (·∈before)),fun _=>?_⟩
 · rw [hps,List.mem_append] at hp
   exact Or.inr hp
 · obtain⟨_,_,_,_,_,hz,hn⟩:=hW
   refine⟨hok,_,_,([]++pa)++pv,⟨[]++pa,pv,trodAll_append (hargs _ (fun _ _=>rfl)) (hres _ _ _),hvars _ (fun _ _=>rfl),rfl,?_,?_⟩,?_⟩
   · intro b off hp
     have hin:MemPlace.cell b off∈before:=by rw [hps];simpa using hp
     rw [hb.frozen (hlt _ hin)]
     exact hz b off hin
   · intro ha
     have:=hn ha
     rw [hps] at this
     simpa using this
   · intro p hp _
     rw [hps]
     simpa using hp
end
section
variable {H:Type} {enc:TypeId × Value->H} {P:Program}
theorem trodAll_stays (hl:laidOutB P=true):∀ (ts:List TypeId),(∀ t∈ts,P.readableRec t=true/\t<P.types.size)->∀ {W W':World} {sp:Nat->Bool} {vs:List Value} {ds:List (DataW H)} {ps:List MemPlace},
  DataW.TrodAll enc P W 0 (fun _=>true) true ts vs ds ps->(∀ p∈ps,W.sameAt W' p)->(∀ p∈ps,sp p.block=true)->DataW.TrodAll enc P W' 0 sp true ts vs ds ps
 | [],_,W,W',sp,vs,ds,ps,h,_,_=>by
   cases vs <;> cases ds <;> simp_all [DataW.TrodAll]
 | t :: ts,ht,W,W',sp,vs,ds,ps,h,hs,hsp=>by
   obtain⟨v,vs',d,ds',p,q,rfl,rfl,rfl,hp,hq⟩:=trodAll_cons h
   have h1:=ht t (by simp)
   refine trodAll_cons_mk (WideElems.Trod_stays hl h1.1 h1.2 hp (fun x hx=>hs x (by simp [hx])) (fun x hx=>hsp x (by simp [hx]))) ?_
   exact trodAll_stays hl ts (fun t' h'=>ht t' (by simp [h'])) hq (fun x hx=>hs x (by simp [hx])) (fun x hx=>hsp x (by simp [hx]))
theorem trodAll_length:∀ (ts:List TypeId) {W:World} {b:Nat} {sp:Nat->Bool} {held:Bool} {vs:List Value} {ds:List (DataW H)} {ps:List MemPlace},DataW.TrodAll enc P W b sp held ts vs ds ps->ds.length=ts.length
 | [],W,b,sp,held,vs,ds,ps,h=>by cases vs <;> cases ds <;> simp_all [DataW.TrodAll]
 | t :: ts,W,b,sp,held,vs,ds,ps,h=>by
   obtain⟨v,vs',d,ds',p,q,rfl,rfl,rfl,hp,hq⟩:=trodAll_cons h
   simp [trodAll_length ts hq]
theorem law_post {f:Func}{s:ChangeSpec}{W W':World}{args:Array Value}{ds gs:List (DataW H)}{before:List MemPlace}{tb:TypeId}
  (hl:laidOutB P=true)(hr:∀ t∈f.params.toList,P.readableRec t=true/\t<P.types.size)(hres:f.resultTypes=#[tb])(htb:P.underlying tb=some .bool)
  (hvars:s.vars=[])(hspec:∀ ds:List (DataW H),ds.length=f.params.size->s.fn H ds={ results:=[.lit (.bool true)],args:=ds })
  (hW:DataW.Whole enc P f.params.toList s.vars false W args.toList ds gs before)(hx:Ext W W') :
  s.post enc P f false true false false W args (.bool true) W':=by
 have hWlt:∀ p∈before,p.block<W.heap.size:=fun p hp=>hW.lt p hp
 obtain⟨p,q,hA,hV,hpq,hfz,hnd⟩:=hW
 rw [hvars] at hV
 have hgs:gs=[]/\q=[]:=trodVars_none hV
 obtain⟨rfl,rfl⟩:=hgs
 have hlen:=trodAll_length _ hA
 have hsp:=hspec ds (by rw [hlen];simp)
 have hb:before=p:=by rw [hpq];simp
 subst hb
 have hn:f.resultTypes.size=1:=by rw [hres];rfl
 have hlo:(Value.bool true).resultList f.resultTypes.size=[Value.bool true]:=by rw [hn];rfl
 have e0:ds++([]:List (DataW H))=ds:=List.append_nil _
 refine post_of_below (pa:=before) (pv:=[]) (ds:=ds) (gs:=[]) ⟨before,[],hA,by rw [hvars];exact hV,hpq,hfz,hnd⟩ ?_ ?_ ?_ hpq hx ?_
 · intro b sp hd
   rw [e0,hsp,hlo,hres]
   exact trodAll_cons_mk (shut_bool htb _) trodAll_mk0
 · intro sp hsp'
   rw [e0,hsp]
   exact trodAll_stays hl _ hr hA (fun p hp=>Below.same hx (hWlt p hp)) hsp'
 · intro sp _
   rw [e0,hsp,hvars]
   rfl
 · intro j t r ht hr'
   rw [hres] at ht
   rw [hlo] at hr'
   cases j with
   | zero =>
     obtain rfl:tb=t:=by simpa using ht
     obtain rfl:Value.bool true=r:=by simpa using hr'
     exact okWide_bool_mk htb _
   | succ j=>simp at ht
end
end Go.Proofs.YtchahoiainbcaaaDoor
namespace Go.Proofs.YtchahoiainbcaaaDoor
open Go.ChangeShapes Go.WideShapes Go.ChangeAt Go.RowKit
theorem gPow:Tryd.prog.globalNamed "internal/strconv.uint64pow10"=some 1:=by kernel_rfl
theorem gPowType:(Tryd.prog.globals[1]?).map (·.type)=some 97:=by kernel_rfl
theorem cellsPow:Tryd.prog.cellsOf 97=20:=by kernel_rfl
theorem cellsU64:Tryd.prog.cellsOf 86=1:=by kernel_rfl
theorem gBr:Tryd.prog.globalNamed "math/bits.deBruijn64tab"=some 5:=by kernel_rfl
theorem gBrType:(Tryd.prog.globals[5]?).map (·.type)=some 110:=by kernel_rfl
theorem cellsBr:Tryd.prog.cellsOf 110=64:=by kernel_rfl
theorem cellsU8:Tryd.prog.cellsOf 5=1:=by kernel_rfl
theorem own:ownKnob Tryd.prog.godebug=none:=by kernel_rfl
def relay (k:IntKind) (zs:List Int):Obj->Obj
 | .cells _ t frozen=>.cells (zs.map fun z=>Value.int k z).toArray t frozen
 | o=>o
def bruijn32:List Int:=[0,1,28,2,29,14,24,3,30,22,20,15,25,17,4,8,31,27,13,23,21,19,16,7,26,12,18,6,11,5,10,9]
noncomputable def laidWorld (os:Os):World :=
 { World.holding Tryd.prog os ⟨#[],#[],[]⟩ with
  heap:=(((World.holding Tryd.prog os ⟨#[],#[],[]⟩).heap.modify 1 (relay .u64 Lib.pow10Tab)).modify 5 (relay .u8 deBruijn64)).modify 4 (relay .u8 bruijn32) }
abbrev five:List (String × DataW Unit):=[("math/bits.deBruijn32tab",Rows.laid_math_bits_deBruijn32tab),("math/bits.deBruijn64tab",Rows.laid_math_bits_deBruijn64tab),("internal/strconv.uint64pow10",Rows.laid_internal_strconv_uint64pow10),("unicode/utf8.acceptRanges",Rows.laid_unicode_utf8_acceptRanges),("unicode/utf8.first",Rows.laid_unicode_utf8_first)]
theorem tabs_of5 {W:World}(h:laidMetH Tryd.prog five W):Tabs W:=by
 refine⟨?_,?_⟩
 · have h1:=h.filter (fun x=>x.1=="internal/strconv.uint64pow10")
   have e:five.filter (fun x=>x.1=="internal/strconv.uint64pow10")=[("internal/strconv.uint64pow10",Lib.tabData .u64 Lib.pow10Tab)]:=by kernel_rfl
   rw [e] at h1
   exact Lib.tabIs_of_head (rest:=[]) gPow gPowType Tryd.underlying97 Tryd.underlying86 cellsU64 cellsPow h1
 · have h1:=h.filter (fun x=>x.1=="math/bits.deBruijn64tab")
   have e:five.filter (fun x=>x.1=="math/bits.deBruijn64tab")=[("math/bits.deBruijn64tab",Lib.tabData .u8 deBruijn64)]:=by kernel_rfl
   rw [e] at h1
   exact Lib.tabIs_of_head (rest:=[]) gBr gBrType Tryd.underlying110 Tryd.underlying5 cellsU8 cellsBr h1
def accepts:List Int:=[128,191,160,191,128,159,144,191,128,143,0,0,0,0,0,0,0,0,0,0,0,0,0,0,0,0,0,0,0,0,0,0]
noncomputable def laidWorld5 (os:Os):World :=
 { laidWorld os with
  heap:=((laidWorld os).heap.modify 3 (relay .u8 accepts)).modify 2 (relay .u8 (Pinned.utf8FirstZ.map Int.ofNat)) }
end Go.Proofs.YtchahoiainbcaaaDoor
namespace Go.Proofs.YtchahoiainbcaaaDoor
open Go.ChangeShapes Go.WideShapes Go.ChangeAt Go.RowKit Go.Deep Kv
section
variable {H:Type} {enc:TypeId × Value->H} {w:World} {base:Nat} {spare:Nat->Bool} {held:Bool}
set_option maxRecDepth 100000 in
theorem open_event {r:Reach}{b0:Nat}{v:Value}{d:DataW H}{p:List MemPlace}(hv:Value.okWide Tryd.prog w r b0 26 v)(h:DataW.Trod enc Tryd.prog w base spare held 26 v d p):∃ e:Ev,v=encE e:=by
 obtain⟨cs,rfl,hsz⟩:=okWide_struct Tryd.underlying26 hv
 obtain⟨l⟩:=cs
 match l,hsz.trans (show Tryd.prog.cellsOf 26=7 by kernel_rfl) with
 | [c0,c1,c2,c3,c4,c5,c6],_ =>
   obtain⟨fuel,hf⟩:=h
   obtain⟨xs,n,_,hx,_,hlen,hg⟩:=DataW.trod_struct Tryd.underlying26 hf
   have e1:Tryd.prog.cellsOf 3=1:=by kernel_rfl
   have e2:Tryd.prog.cellsOf 24=2:=by kernel_rfl
   have e3:Tryd.prog.cellsOf 22=1:=by kernel_rfl
   match xs,hlen with
   | [y0,y1,y2,y3,y4,y5],_ =>
     have g0:=hg 0 _ rfl
     have g1:=hg 1 _ rfl
     have g2:=hg 2 _ rfl
     have g3:=hg 3 _ rfl
     have g4:=hg 4 _ rfl
     have g5:=hg 5 _ rfl
     clear hg
     simp [Value.cells,e1,e2] at g0 g1 g2 g3 g4 g5
     obtain⟨z0,z1,m,_,_,k0,k1⟩:=trod_struct2 Tryd.underlying24 g5
     simp [Value.cells,e1,e3] at k0 k1
     obtain⟨x0,h0,-,-⟩:=DataW.trod_int Tryd.underlying3 g0
     obtain⟨x1,h1,-,-⟩:=DataW.trod_int Tryd.underlying3 g1
     obtain⟨x2,h2,-,-⟩:=DataW.trod_int Tryd.underlying3 g2
     obtain⟨x3,h3,-,-⟩:=DataW.trod_int Tryd.underlying3 g3
     obtain⟨x4,h4,-,-⟩:=DataW.trod_int Tryd.underlying3 g4
     obtain⟨x5,h5,-,-⟩:=DataW.trod_int Tryd.underlying22 k0
     obtain⟨x6,h6,-,-⟩:=DataW.trod_int Tryd.underlying3 k1
     simp at h0 h1 h2 h3 h4 h5 h6
     subst h0 h1 h2 h3 h4 h5 h6
     exact⟨⟨x0,x1,x2,x3,x4,x5,x6⟩,rfl⟩
end
set_option maxRecDepth 100000 in
theorem maxI_of {W:World}(hS:W.ShapedOpen Tryd.prog):MaxI W:=by
 have hg:(0:Nat)<Tryd.prog.globals.size:=of_decide_eq_true (by kernel_rfl)
 have h0:((begin Tryd.prog (fun _ _=>0) default).world.heap[0]?).bind Obj.row?=some (#[.int .i64 0],3):=by kernel_rfl
 obtain⟨cs,hh,_⟩:=hS.1 0 _ _ hg h0
 exact⟨(Array.getElem?_eq_some_iff.1 hh).1,cell_of_shapedOpen_int hS hg h0 rfl (by kernel_rfl) (by kernel_rfl) Tryd.underlying3⟩
end Go.Proofs.YtchahoiainbcaaaDoor
namespace Go.Proofs.YtchahoiainbcaaaDoor.textLines
open Go.ChangeShapes Go.WideShapes Go.ChangeAt Go.RowKit Kv
set_option maxRecDepth 100000 in
theorem main (H:Type)(enc:TypeId × Value->H)(W:World)(base:Nat)(args:Array Value)(ds:List (DataW H))(p:List MemPlace)
  (hval:∀ (j:Nat) t v,Tryd.f3.params[j]?=some t->args[j]?=some v->Value.okWide Tryd.prog W .any base t v)
  (hA:DataW.TrodAll enc Tryd.prog W 0 (fun _=>true) true Tryd.f3.params.toList args.toList ds p)(hL:laidMetH Tryd.prog Rows.textLinesRow.laid W)(hS:W.ShapedOpen Tryd.prog) :
  Calls Tryd.prog 3 args W fun e w'=>e=.returned (.bool true)/\Ext W w':=by
 rw [Tryd.params3] at hA hval
 obtain⟨v0,vs0,d0,ds0,p0,q0,hargs,rfl,rfl,h0,r0⟩:=trodAll_cons hA
 obtain⟨rfl,rfl,rfl⟩:=trodAll_nil r0
 obtain rfl:args=#[v0]:=by cases args;simp_all
 obtain⟨e,rfl⟩:=open_event (hval 0 26 v0 rfl rfl) h0
 have T:=tabs_of5 hL
 exact textlines_walk e W T (maxI_of hS)
end Go.Proofs.YtchahoiainbcaaaDoor.textLines
namespace Go.Proofs.YtchahoiainbcaaaDoor.textLines
open Go.ChangeShapes Go.WideShapes Go.ChangeAt Go.RowKit
theorem laidOut:laidOutB Tryd.prog=true:=by kernel_rfl
set_option maxRecDepth 100000 in
theorem contract (H:Type)(enc:TypeId × Value->H)(W:World)(base:Nat)(args:Array Value)(ds gs:List (DataW H))(before:List MemPlace)
  (hval:∀ (j:Nat) t v,Tryd.f3.params[j]?=some t->args[j]?=some v->Value.okWide Tryd.prog W .any base t v)
  (hW:DataW.Whole enc Tryd.prog Tryd.f3.params.toList Rows.textLinesSpec.vars false W args.toList ds gs before)(hL:laidMetH Tryd.prog Rows.textLinesRow.laid W)(hS:W.ShapedOpen Tryd.prog) :
  Calls Tryd.prog 3 args W fun e W'=>∃ v,e=.returned v/\Rows.textLinesSpec.post enc Tryd.prog Tryd.f3 false true false false W args v W':=by
 refine (main H enc W base args ds before hval (by obtain⟨p,q,hA,hV,hpq,_,_⟩:=hW;obtain⟨_,rfl⟩:=trodVars_none hV;rw [List.append_nil] at hpq;subst hpq;exact hA) hL hS).mono fun e W' ⟨he,hg⟩=>⟨_,he,?_⟩
 refine law_post (tb:=4) laidOut ?_ (by kernel_rfl) Tryd.underlying4 rfl ?_ hW hg
 · rw [Tryd.params3]
   intro t ht
   simp only [List.mem_cons,List.not_mem_nil,or_false] at ht
   rcases ht with rfl <;> exact⟨by kernel_rfl,of_decide_eq_true (by kernel_rfl)⟩
 · intro ds hl
   rw [Tryd.params3] at hl
   match ds,hl with
   | [d0],_=>rfl
set_option maxRecDepth 100000 in
theorem laid_met (os:Os):laidMet Tryd.prog Rows.textLinesRow.laid (((laidWorld5 os)).forCall (fun _ _=>0) ⟨#[],#[.agg #[.int .i64 0,.int .i64 0,.int .i64 0,.int .i64 0,.int .i64 0,.int .i64 0,.int .i64 0]],[]⟩).memory :=
 laidMet_of_run' 8 (by kernel_rfl) (by kernel_rfl)
set_option maxRecDepth 100000 in
theorem reads (os:Os){H:Type}(enc:TypeId × Value->H):∃ places,DataW.whole enc Tryd.prog (((laidWorld5 os)).forCall (fun _ _=>0) ⟨#[],#[.agg #[.int .i64 0,.int .i64 0,.int .i64 0,.int .i64 0,.int .i64 0,.int .i64 0,.int .i64 0]],[]⟩).memory Tryd.f3.params.toList Rows.textLinesSpec.vars false (#[.agg #[.int .i64 0,.int .i64 0,.int .i64 0,.int .i64 0,.int .i64 0,.int .i64 0,.int .i64 0]]:Array Value).toList 8=some ([.agg [.lit (.int .i64 0),.lit (.int .i64 0),.lit (.int .i64 0),.lit (.int .i64 0),.lit (.int .i64 0),.agg [.lit (.int .i64 0),.lit (.int .i64 0)]]],[],places) :=
 ⟨[],by kernel_rfl⟩
set_option maxRecDepth 100000 in
theorem lifted (os:Os)(started:os.Started)(H:Type)(enc:TypeId × Value->H)(F:Stop.Interp) :
  ReturnsInHanded {} Tryd.checked os 3 .any ((OpenSpec.ofChange Rows.textLinesSpec).preRow enc Tryd.prog Tryd.f3 Rows.textLinesRow.domain false Rows.textLinesRow.laid) (((OpenSpec.ofChange Rows.textLinesSpec).at F).post enc Tryd.prog Tryd.f3 false true false false):=by
 obtain⟨places,hx⟩:=reads os enc
 refine returnsInHanded_of_row (C:=Tryd.checked) (s:=(OpenSpec.ofChange Rows.textLinesSpec)) own started (by kernel_rfl) Tryd.func3
  (witness_row_at (enc:=enc) (C:=Tryd.checked) false (laidWorld5 os) #[.agg #[.int .i64 0,.int .i64 0,.int .i64 0,.int .i64 0,.int .i64 0,.int .i64 0,.int .i64 0]] rfl (by kernel_rfl) (by kernel_rfl) (by kernel_rfl)
    (OpenSpec.preRow_of_cond 8 hx (by kernel_rfl) (fun k hk=>by cases hk) (by kernel_rfl) (laid_met os))) ?_
 intro W base args ds gs before hval hW _ _ _ hL hS _
 exact contract H enc W base args ds gs before hval hW hL hS
theorem c1:(Rows.textLinesRow.inPlace==Tryd.pinned.checked.prog.inPlace 3)=true:=by kernel_rfl
theorem c2:(Rows.textLinesRow.unfollowed==Tryd.pinned.checked.prog.unfollowed 3)=true:=by kernel_rfl
theorem c3:(Rows.textLinesRow.recurses==Tryd.pinned.checked.prog.recurses 3)=true:=by kernel_rfl
theorem c4:(Rows.textLinesRow.named==Tryd.pinned.checked.prog.varsNamed 3)=true:=by kernel_rfl
theorem closed:joinedFacts Tryd.pinned.checked.prog 3 Tryd.f3 (OpenSpec.ofChange Rows.textLinesSpec).bare Rows.textLinesRow=true:=by
 unfold joinedFacts
 simp only [Bool.and_eq_true]
 repeat' refine And.intro ?_ ?_
 all_goals first | with_reducible exact c1 | with_reducible exact c2 | with_reducible exact c3 | with_reducible exact c4 | kernel_rfl
theorem said:Rows.TextLinesSaid :=
 OpenClaim.holds_of_cond 3 Tryd.f3 rfl rfl rfl rfl rfl rfl rfl ⟨rfl,rfl,rfl,rfl,rfl⟩ rfl rfl rfl rfl rfl (by kernel_rfl) Tryd.func3 closed
  (of_decide_eq_true (by kernel_rfl)) (by unfold Func.isWrapper;first | (rw [if_pos (by decide +kernel)];kernel_rfl) | (rw [if_neg (by decide +kernel)];exact⟨rfl,rfl⟩))
  (fun os started H enc _ F=>by rw [OpenClaim.pre_eq_preRow];exact lifted os started H enc F)
theorem plain (f:FuncId)(fn:Func)(hf:Tryd.pinned.checked.prog.funcNamed "kevel/kevellaw45.TextLines"=some f)(hfn:Tryd.pinned.checked.prog.funcs[f]?=some fn) :
  false=Tryd.pinned.checked.prog.looks []/\∀ (j:Nat) t,fn.params[j]?=some t->Tryd.pinned.checked.prog.wantsStandIn t=false:=by
 obtain rfl:f=3:=Option.some.inj ((show Tryd.prog.funcNamed "kevel/kevellaw45.TextLines"=some 3 by kernel_rfl).symm.trans hf) |>.symm
 obtain rfl:fn=Tryd.f3:=(Option.some.inj (Tryd.func3.symm.trans hfn)).symm
 refine⟨by kernel_rfl,fun j t ht=>?_⟩
 rw [Tryd.params3] at ht
 have hm:=Array.mem_of_getElem? ht
 simp only [List.mem_toArray,List.mem_cons,List.not_mem_nil,or_false] at hm
 rcases hm with rfl <;> exact (show Tryd.prog.wantsStandIn _=false by kernel_rfl)
theorem card:Rows.TextLinesCardSaid :=
 Claim7.holds_tied_plain_at .later [] _ _ _ _ said (fun _ h=>by cases h) (by kernel_rfl) (fun _ h=>by cases h) textLines_row_tie rfl ⟨rfl,rfl⟩ (by kernel_rfl) rfl plain (by kernel_rfl)
end Go.Proofs.YtchahoiainbcaaaDoor.textLines
