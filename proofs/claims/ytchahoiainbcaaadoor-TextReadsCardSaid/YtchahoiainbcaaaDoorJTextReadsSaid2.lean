/-
  TextReadsSaid: part 2 of its proof.
-/
import Derived.Test.YtchahoiainbcaaaDoorJTextReadsSaid1
import Derived.RangeFuncWrites
import Derived.Laws.AppendOwn
import Derived.BigQuiet
import Derived.Deep.QuietTactic
import Derived.Laws.Concat
namespace Kv
theorem cutF_len:∀ (n:Nat) (s:Bs),(cutF n s).length<=n
 | 0,_=>Nat.le_refl _
 | n+1,s=>by
   unfold cutF
   split
   · simp
   · have:=cutF_len n (Go.Lib.cut s [10]).2.1
     simp only [List.length_cons]
     omega
def evsOf (l:List (Bs × Bool)):List Ev:=l.filterMap fun x=>oneE x.1
def okL (l:List (Bs × Bool)):Prop:=∀ x∈l,(oneE x.1).isSome=true/\x.2=true
end Kv
namespace Go.Proofs.YtchahoiainbcaaaDoor
open Go.RowKit Kv
attribute [local go_sem] Oper.semAt_some
def evVals (e:Ev):List Value:=[.int .i64 e.at_,.int .i64 e.kind,.int .i64 e.thread,.int .i64 e.call,.int .i64 e.val,.int .i64 e.err,.int .i64 e.rv]
theorem info_ev:(Tryd.prog.info? 26).map (fun i=>(i.zero,i.size,i.bytes))=some (some (.agg #[.int .i64 0,.int .i64 0,.int .i64 0,.int .i64 0,.int .i64 0,.int .i64 0,.int .i64 0]),7,56):=by kernel_rfl
theorem keeps_ext {W W':World}(B:Nat)(h:Ext W W'):KeepsFrom B W W':=⟨h.size,fun k _ _ hk _=>(Below.block h k (Array.getElem?_eq_some_iff.1 hk).1).trans hk⟩
theorem cells_grown {W W':World}{B b:Nat}{cs:Array Value}{t:TypeId}{fz:Nat × Nat}{row:Option Nat}(h:W.heap[b]?=some (.cells cs t fz))(hg:W.grownBy W' row)(hr:∀ r,row=some r->B<=r/\∃ o:Obj,W.heap[r]?=some o/\o.isCells=false):W'.heap[b]?=some (.cells cs t fz):=by
 have hne:row≠some b:=by
  intro e
  obtain⟨_,o,ho,hc⟩:=hr b e
  rw [h] at ho
  cases ho
  cases hc
 exact (hg.block b (Array.getElem?_eq_some_iff.1 h).1 (fun e=>hne e.symm)).trans h
theorem rows_grown {W W':World}{B base e size n:Nat}{v:Value}{xs:List Value}{row:Option Nat}(h:W.ownsRow base e size v n xs)(hg:W.grownBy W' row)(hr:∀ r,row=some r->B<=r/\∃ o:Obj,W.heap[r]?=some o/\o.isCells=false):W'.ownsRow base e size v n xs:=by
 obtain⟨h1,h2⟩:=h
 refine⟨h1,?_⟩
 rcases h2 with h2 | ⟨g,cap,cur,e,hg2,hh,rest⟩
 · exact .inl h2
 · exact .inr ⟨g,cap,cur,e,hg2,cells_grown hh hg hr,rest⟩
theorem rows_less {W:World}{B B' e size n:Nat}{v:Value}{xs:List Value}(h:W.ownsRow B e size v n xs)(hB:B'<=B):W.ownsRow B' e size v n xs:=by
 obtain⟨h1,h2⟩:=h
 refine⟨h1,?_⟩
 rcases h2 with h2 | ⟨g,cap,cur,e,hg2,rest⟩
 · exact .inl h2
 · exact .inr ⟨g,cap,cur,e,Nat.le_trans hB hg2,rest⟩
theorem rows_set {W:World}{B b e size n:Nat}{v u:Value}{xs:List Value}{i:Nat}(h:W.ownsRow B e size v n xs)(hB:b<B):(W.setCell ⟨b,i,none⟩ u).ownsRow B e size v n xs:=by
 obtain⟨h1,h2⟩:=h
 refine⟨h1,?_⟩
 rcases h2 with h2 | ⟨g,cap,cur,e,hg2,hh,rest⟩
 · exact .inl h2
 · exact .inr ⟨g,cap,cur,e,hg2,(heap_setCell_ne W u (by omega)).trans hh,rest⟩
theorem keepb {W W':World}{v:Value}{B:Nat}(hg:W.grownBy W' v.ownBlock)(hv:∀ r,v.ownBlock=some r->B<=r):∀ k o,Blk W k o->k<B->Blk W' k o:=fun k _ hk hlt=>(hg.block k hk.lt (fun e=>by have:=hv k e.symm;omega)).trans hk
def PI (w:World) (B:Nat) (pre:List Pc) (W:World):Prop :=
 okL (pre.map (·.1))/\W.heap[w.heap.size]?=some (.cells #[.slice none 0 0] 34 (0,0))/\W.heap[w.heap.size+1]?=some (.cells #[.int .i64 0] 3 (0,0))/\W.heap[w.heap.size+1+1]?=some (.cells #[.int .i64 0] 22 (0,0)) /\
 (∃ v,W.heap[w.heap.size+1+1+1]?=some (.cells #[v] 34 (0,0))/\W.ownsRow B 26 7 v pre.length ((evsOf (pre.map (·.1))).flatMap evVals))/\W.heap[w.heap.size+1+1+1+1]?=some (.cells #[.int .i64 pre.length] 3 (0,0))/\Below w.heap.size w W/\B<=W.heap.size
theorem PI_own (w:World)(B:Nat)(hB:w.heap.size<=B):OwnFrom B (PI w B):=by
 intro s W W' row ⟨h1,h2,h3,h4,⟨v,h5,h6⟩,h7,h8,h9⟩ hg hr
 exact⟨h1,cells_grown h2 hg hr,cells_grown h3 hg hr,cells_grown h4 hg hr,⟨v,cells_grown h5 hg hr,rows_grown h6 hg hr⟩,cells_grown h7 hg hr,Below.grown h8 hg h8.size (fun r e=>Nat.le_trans hB (hr r e).1),Nat.le_trans h9 hg.size⟩
def PX (w:World) (k:Code) (pre:List Pc) (W:World):Prop :=
 k=.ret/\(∃ pre' x,pre=pre'++[x]/\okL (pre'.map (·.1))/\¬ ((oneE x.1.1).isSome=true/\x.1.2=true))/\W.heap[w.heap.size]?=some (.cells #[.slice none 0 0] 34 (0,0))/\W.heap[w.heap.size+1]?=some (.cells #[.int .i64 pre.length] 3 (0,0))/\W.heap[w.heap.size+1+1]?=some (.cells #[.int .i64 3] 22 (0,0))/\Below w.heap.size w W
theorem PX_own (w:World)(B:Nat)(hB:w.heap.size<=B)(k:Code):OwnFrom B (PX w k):=by
 intro s W W' row ⟨h1,h2,h3,h4,h5,h6⟩ hg hr
 exact⟨h1,h2,cells_grown h3 hg hr,cells_grown h4 hg hr,cells_grown h5 hg hr,Below.grown h6 hg h6.size fun r e=>Nat.le_trans hB (hr r e).1⟩
theorem MaxI.below {w W':World}{n:Nat}(h:MaxI w)(hn:0<n)(hx:Below n w W'):MaxI W':=by
 obtain⟨h0,m,hm⟩:=h
 exact⟨Nat.lt_of_lt_of_le h0 hx.size,m,(Below.cell hx (p:=⟨0,0,none⟩) hn).trans hm⟩
def ParsePost (w:World) (s:Bs) (e:Ending) (w':World):Prop :=
 ∃ v n err,e=.returned (.tuple #[v,.int .i64 n,.int .i64 err])/\Ext w w'/\((okL (linesL s)/\n=0/\err=0/\w'.ownsRow w.heap.size 26 7 v (linesL s).length ((evsOf (linesL s)).flatMap evVals)) ∨
  (∃ pre x post,linesL s=pre++x :: post/\okL pre/\¬ ((oneE x.1).isSome=true/\x.2=true)/\v=.slice none 0 0/\n=pre.length+1/\err=3))
set_option maxRecDepth 100000 in
set_option maxHeartbeats 1000000 in
theorem parse_p (s:Bs)(w:World)(hs:s.length<4294967281)(hcn:Go.Lib.countByte s 10<=8000)(M:MaxI w) :
  Calls Tryd.prog 11 #[.string ⟨s.toArray⟩] w (ParsePost w s):=by
 refine (callsIn_wide (n:=6)).1 ?_
 refine callsIn_of_wp_marks Tryd.func11 rfl trivial ?_ rfl
 simp only [Tryd.ntmps11,List.size_toArray,List.length_cons,List.length_nil,Nat.reduceAdd,Nat.reduceSub,Array.replicate_succ,Array.replicate_zero,List.push_toArray,List.append_toArray,List.nil_append,List.cons_append]
 have d1:decide ((8000:Int)<(Go.Lib.countByte s 10:Int))=false:=by rw [decide_eq_false_iff_not];omega
 gi_wp2_with (refine⟨trivial,?_⟩;first | (gi_at_call 26;refine CallsIn.mono (callsIn_wide.2 (Tryd.strings_Count_one ⟨s.toArray⟩ 10 _)) ?_;rintro e w' ⟨rfl,rfl⟩) | (gi_at_call 27;refine CallsIn.mono (callsIn_wide.2 (lines_p s _)) ?_;rintro e w' ⟨rfl,rfl⟩))
 have k0:=(((((Blk.new w (.cells #[.slice none 0 0] 34)).alloc (.cells #[.int .i64 0] 3)).alloc (.cells #[.int .i64 0] 22)).alloc (.cells #[.slice none 0 0] 34)).alloc (.cells #[.int .i64 0] 3)).alloc (.cells #[.string ⟨s.toArray⟩] 9)
 have k1:=((((Blk.new (w.alloc (.cells #[.slice none 0 0] 34)) (.cells #[.int .i64 0] 3)).alloc (.cells #[.int .i64 0] 22)).alloc (.cells #[.slice none 0 0] 34)).alloc (.cells #[.int .i64 0] 3)).alloc (.cells #[.string ⟨s.toArray⟩] 9)
 have k2:=(((Blk.new ((w.alloc (.cells #[.slice none 0 0] 34)).alloc (.cells #[.int .i64 0] 3)) (.cells #[.int .i64 0] 22)).alloc (.cells #[.slice none 0 0] 34)).alloc (.cells #[.int .i64 0] 3)).alloc (.cells #[.string ⟨s.toArray⟩] 9)
 have k3:=((Blk.new (((w.alloc (.cells #[.slice none 0 0] 34)).alloc (.cells #[.int .i64 0] 3)).alloc (.cells #[.int .i64 0] 22)) (.cells #[.slice none 0 0] 34)).alloc (.cells #[.int .i64 0] 3)).alloc (.cells #[.string ⟨s.toArray⟩] 9)
 have k4:=(Blk.new ((((w.alloc (.cells #[.slice none 0 0] 34)).alloc (.cells #[.int .i64 0] 3)).alloc (.cells #[.int .i64 0] 22)).alloc (.cells #[.slice none 0 0] 34)) (.cells #[.int .i64 0] 3)).alloc (.cells #[.string ⟨s.toArray⟩] 9)
 have k5:=Blk.new (((((w.alloc (.cells #[.slice none 0 0] 34)).alloc (.cells #[.int .i64 0] 3)).alloc (.cells #[.int .i64 0] 22)).alloc (.cells #[.slice none 0 0] 34)).alloc (.cells #[.int .i64 0] 3)) (.cells #[.string ⟨s.toArray⟩] 9)
 have hx0:=((((((Ext.refl w).alloc (.cells #[.slice none 0 0] 34)).alloc (.cells #[.int .i64 0] 3)).alloc (.cells #[.int .i64 0] 22)).alloc (.cells #[.slice none 0 0] 34)).alloc (.cells #[.int .i64 0] 3)).alloc (.cells #[.string ⟨s.toArray⟩] 9)
 simp only [World.size_alloc] at k1 k2 k3 k4 k5
 have hs0:((((((w.alloc (.cells #[.slice none 0 0] 34)).alloc (.cells #[.int .i64 0] 3)).alloc (.cells #[.int .i64 0] 22)).alloc (.cells #[.slice none 0 0] 34)).alloc (.cells #[.int .i64 0] 3)).alloc (.cells #[.string ⟨s.toArray⟩] 9)).heap.size=w.heap.size+1+1+1+1+1+1:=by simp only [World.size_alloc]
 generalize ((((((w.alloc (.cells #[.slice none 0 0] 34)).alloc (.cells #[.int .i64 0] 3)).alloc (.cells #[.int .i64 0] 22)).alloc (.cells #[.slice none 0 0] 34)).alloc (.cells #[.int .i64 0] 3)).alloc (.cells #[.string ⟨s.toArray⟩] 9))=W0 at *
 have hM0:=M.ext hx0
 have hs0h:=Lib.hid hs0
 clear hs0
 have hw0:=M.1
 refine wpIn_rangeFunc_ownG rfl (by omega) (gf:=40) (lb:=#[.pointer (some ⟨w.heap.size+1+1+1+1+1,0,none⟩)]) rfl trivial (enters_of Tryd.func40 (by kernel_rfl) rfl)
  (lines_stops 5 (by omega) (w.heap.size+1+1+1+1+1) w.heap.size s hs W0 k5.lt hx0.size (k5.cells 0) (fun W' hW=>hM0.below hw0 hW)) belowK_t (belowK_b hx0.size) (Below.refl _ _) (fun _=>rfl)
  (PI w W0.heap.size) (PX w) (PI_own w _ hx0.size) (fun k=>PX_own w _ hx0.size k)
  ⟨fun _ h=>(nomatch h),k0,k1,k2,⟨_,k3,World.ownsRow_nil _ _ _ _⟩,k4,hx0,Nat.le_refl _⟩
  (fun x=>{ tmps:=#[.string ⟨s.toArray⟩,undef,.pointer (some ⟨w.heap.size,0,none⟩),.pointer (some ⟨w.heap.size+1,0,none⟩),.pointer (some ⟨w.heap.size+1+1,0,none⟩),.pointer (some ⟨w.heap.size+1+1+1,0,none⟩),.pointer (some ⟨w.heap.size+1+1+1+1,0,none⟩),.string ⟨x.1.1.toArray⟩,.bool x.1.2,undef,undef,.string ⟨s.toArray⟩,.int .i64 (Go.Lib.countByte s 10:Nat),.bool false,.string ⟨s.toArray⟩,.func (.func 40) #[] #[.pointer (some ⟨w.heap.size+1+1+1+1+1,0,none⟩)],.string ⟨x.1.1.toArray⟩,.bool x.1.2,undef,undef,undef,undef,undef,undef,undef,undef,undef,undef,undef,undef,undef,undef,undef,undef,undef,undef,undef],defers:=[] }) ?assign ?body ?done ?stop
 case assign =>
  intro l' x W K hK
  gi_wp2
  exact hK
 case body =>
  rintro l' pre ⟨⟨line,fed⟩,hx⟩ W ⟨hok,h2,h3,h4,⟨v,h5,hrow⟩,h6,hB,hWW⟩ hlt
  clear k0 k1 k2 k3 k4 k5
  have hs0:=hs0h.out
  have hpl:pre.length<4294967281:=by have:=cutF_len s.length s;unfold linesL at hlt;omega
  have c6:=cell_of_heap h6 0
  have f6:=frozen_of_heap h6 0
  gi_wp2_with fail
  have n2:Blk (W.setCell ⟨w.heap.size+1+1+1+1,0,none⟩ (.int .i64 ((pre.length:Int)+1))) w.heap.size (.cells #[.slice none 0 0] 34):=(heap_setCell_ne W _ (by omega)).trans h2
  have n3:Blk (W.setCell ⟨w.heap.size+1+1+1+1,0,none⟩ (.int .i64 ((pre.length:Int)+1))) (w.heap.size+1) (.cells #[.int .i64 0] 3):=(heap_setCell_ne W _ (by omega)).trans h3
  have n4:Blk (W.setCell ⟨w.heap.size+1+1+1+1,0,none⟩ (.int .i64 ((pre.length:Int)+1))) (w.heap.size+1+1) (.cells #[.int .i64 0] 22):=(heap_setCell_ne W _ (by omega)).trans h4
  have n5:Blk (W.setCell ⟨w.heap.size+1+1+1+1,0,none⟩ (.int .i64 ((pre.length:Int)+1))) (w.heap.size+1+1+1) (.cells #[v] 34):=(heap_setCell_ne W _ (by omega)).trans h5
  have n6:Blk (W.setCell ⟨w.heap.size+1+1+1+1,0,none⟩ (.int .i64 ((pre.length:Int)+1))) (w.heap.size+1+1+1+1) (.cells #[.int .i64 ((pre.length:Int)+1)] 3):=heap_setCell h6 _
  have nrow:=rows_set (b:=w.heap.size+1+1+1+1) (i:=0) (u:=.int .i64 ((pre.length:Int)+1)) hrow (by omega)
  have nB:Ext w (W.setCell ⟨w.heap.size+1+1+1+1,0,none⟩ (.int .i64 ((pre.length:Int)+1))):=Ext.setCell hB (p:=⟨w.heap.size+1+1+1+1,0,none⟩) (show w.heap.size<=w.heap.size+1+1+1+1 by omega) _
  have nK:KeepsFrom W0.heap.size W (W.setCell ⟨w.heap.size+1+1+1+1,0,none⟩ (.int .i64 ((pre.length:Int)+1))):=(KeepsOthers.setCell W ⟨w.heap.size+1+1+1+1,0,none⟩ (.int .i64 ((pre.length:Int)+1))).from _
  have nBW:Below w.heap.size W (W.setCell ⟨w.heap.size+1+1+1+1,0,none⟩ (.int .i64 ((pre.length:Int)+1))):=(Below.refl _ W).setCell (p:=⟨w.heap.size+1+1+1+1,0,none⟩) (show w.heap.size<=w.heap.size+1+1+1+1 by omega) _
  clear h2 h3 h4 h5 h6 hrow hB c6 f6
  have nV:w.heap.size<=(W.setCell ⟨w.heap.size+1+1+1+1,0,none⟩ (.int .i64 ((pre.length:Int)+1))).heap.size:=nB.size
  generalize World.setCell W _ _=V1 at *
  refine⟨trivial,?_⟩
  refine CallsIn.mono (CallsIn.inRound l' (callsIn_wide.2 (one_p line V1 hx (M.ext nB)))) ?_
  rintro e V2 ⟨rfl,hx2⟩
  replace n2:=n2.ext hx2
  replace n3:=n3.ext hx2
  replace n4:=n4.ext hx2
  replace n5:=n5.ext hx2
  replace n6:=n6.ext hx2
  replace nrow:=row_ext nrow hx2
  replace nB:=nB.trans hx2
  replace nK:=nK.trans (keeps_ext _ hx2)
  replace nBW:=nBW.trans (Below.mono hx2 nV)
  clear hx2
  generalize hq:oneE line=q at *
  have hqh:=Lib.hid hq
  clear hq
  cases q with
  | none =>
    simp only [oneR,encE,ev0,Option.getD_none,Option.isSome_none,Bool.false_eq_true,if_false]
    gi_wp2_with fail
    have x3:=(Ext.refl V2).alloc (.cells #[.int .i64 0,.int .i64 0,.int .i64 0,.int .i64 0,.int .i64 0,.int .i64 0,.int .i64 0] 26)
    replace n2:=n2.ext x3
    replace n3:=n3.ext x3
    replace n4:=n4.ext x3
    replace n6:=n6.ext x3
    replace nB:=nB.trans x3
    replace nK:=nK.trans (keeps_ext _ x3)
    clear n5 nrow nBW x3
    generalize World.alloc V2 _=V3 at *
    have p2:Blk V3.drew w.heap.size (.cells #[.slice none 0 0] 34):=n2.drew
    have p3:Blk V3.drew (w.heap.size+1) (.cells #[.int .i64 0] 3):=n3.drew
    have p4:Blk V3.drew (w.heap.size+1+1) (.cells #[.int .i64 0] 22):=n4.drew
    have p6:Blk V3.drew (w.heap.size+1+1+1+1) (.cells #[.int .i64 ((pre.length:Int)+1)] 3):=n6.drew
    replace nB:=nB.drew
    replace nK:=nK.trans (keeps_ext _ (Ext.refl V3).drew)
    clear n2 n3 n4 n6
    refine wpIn_region_held (S:=fun w'=>w'.cell? ⟨w.heap.size+1+1+1+1,0,none⟩=some (.int .i64 ((pre.length:Int)+1))) (by kernel_rfl) (by kernel_rfl) (fun _ _ h=>h) (p6.cells 0) (fun hHeld=>?_)
    generalize World.drew V3=V4 at *
    refine tk 0 (v:=?_) rfl (by kernel_rfl) (fun _ _ _ h=>h) (by assumption) ?_ ?_
    rotate_left
    · (intro w hSw;(try dsimp only at hSw);go_simp;try with_reducible rfl)
    try simp only [put_pack]
    have c2:=p2.cells 0
    have f2:=frozen_of_heap p2 0
    refine wpAnyH_ready (rs:=[1]) (by kernel_rfl) (by simp) ?_
    refine AllReadyH.cons rfl (fun K hKK=>?_) (AllReadyH.nil)
    go_simp
    have q2:Blk (V4.setCell ⟨w.heap.size,0,none⟩ (.slice none 0 0)) w.heap.size (.cells #[.slice none 0 0] 34):=heap_setCell p2 _
    have q3:=p3.setO (i:=0) (show w.heap.size+1≠w.heap.size by omega) (.slice none 0 0)
    have q4:=p4.setO (i:=0) (show w.heap.size+1+1≠w.heap.size by omega) (.slice none 0 0)
    have q6:=p6.setO (i:=0) (show w.heap.size+1+1+1+1≠w.heap.size by omega) (.slice none 0 0)
    replace nB:=Ext.setCell nB (p:=⟨w.heap.size,0,none⟩) (Nat.le_refl _) (.slice none 0 0)
    replace nK:=nK.trans ((KeepsOthers.setCell V4 ⟨w.heap.size,0,none⟩ (.slice none 0 0)).from W0.heap.size)
    clear c2 f2 p2 p3 p4 p6
    generalize World.setCell V4 _ _=V5 at *
    refine hKK.out _ _ (q6.cells 0) (fun hHeld=>?_)
    clear hKK K
    try dsimp only
    have c3:=q3.cells 0
    have f3:=frozen_of_heap q3 0
    refine wpAnyH_ready (rs:=[2]) (by kernel_rfl) (by simp) ?_
    refine AllReadyH.cons rfl (fun K hKK=>?_) (AllReadyH.nil)
    go_simp
    have p2:=q2.setO (i:=0) (show w.heap.size≠w.heap.size+1 by omega) (.int .i64 ((pre.length:Int)+1))
    have p3:Blk (V5.setCell ⟨w.heap.size+1,0,none⟩ (.int .i64 ((pre.length:Int)+1))) (w.heap.size+1) (.cells #[.int .i64 ((pre.length:Int)+1)] 3):=heap_setCell q3 _
    have p4:=q4.setO (i:=0) (show w.heap.size+1+1≠w.heap.size+1 by omega) (.int .i64 ((pre.length:Int)+1))
    have p6:=q6.setO (i:=0) (show w.heap.size+1+1+1+1≠w.heap.size+1 by omega) (.int .i64 ((pre.length:Int)+1))
    replace nB:=Ext.setCell nB (p:=⟨w.heap.size+1,0,none⟩) (show w.heap.size<=w.heap.size+1 by omega) (.int .i64 ((pre.length:Int)+1))
    replace nK:=nK.trans ((KeepsOthers.setCell V5 ⟨w.heap.size+1,0,none⟩ (.int .i64 ((pre.length:Int)+1))).from W0.heap.size)
    clear c3 f3 q2 q3 q4 q6
    generalize World.setCell V5 _ _=V6 at *
    refine hKK.out _ _ (p6.cells 0) (fun hHeld=>?_)
    clear hKK K
    try dsimp only
    have c4:=p4.cells 0
    have f4:=frozen_of_heap p4 0
    refine wpAnyH_ready (rs:=[3]) (by kernel_rfl) (by simp) ?_
    refine AllReadyH.cons rfl (fun K hKK=>?_) (AllReadyH.nil)
    go_simp
    have q2:=p2.setO (i:=0) (show w.heap.size≠w.heap.size+1+1 by omega) (.int .i64 3)
    have q3:=p3.setO (i:=0) (show w.heap.size+1≠w.heap.size+1+1 by omega) (.int .i64 3)
    have q4:Blk (V6.setCell ⟨w.heap.size+1+1,0,none⟩ (.int .i64 3)) (w.heap.size+1+1) (.cells #[.int .i64 3] 22):=heap_setCell p4 _
    have q6:=p6.setO (i:=0) (show w.heap.size+1+1+1+1≠w.heap.size+1+1 by omega) (.int .i64 3)
    replace nB:=Ext.setCell nB (p:=⟨w.heap.size+1+1,0,none⟩) (show w.heap.size<=w.heap.size+1+1 by omega) (.int .i64 3)
    replace nK:=nK.trans ((KeepsOthers.setCell V6 ⟨w.heap.size+1+1,0,none⟩ (.int .i64 3)).from W0.heap.size)
    clear c4 f4 p2 p3 p4 p6
    generalize World.setCell V6 _ _=V7 at *
    refine hKK.out _ _ (q6.cells 0) (fun hHeld=>?_)
    clear hKK K
    try dsimp only
    refine wpAnyH_done (by kernel_rfl) ?_ _
    go_simp
    have hf:KeepsFrom W0.heap.size W V7/\PX w .ret (pre++[⟨(line,fed),hx⟩]) V7:=⟨nK,rfl,⟨pre,_,rfl,hok,by rw [show oneE line=none from hqh.out];simp⟩,q2,by rw [List.length_append];exact q3,q4,nB⟩
    have hfh:=Lib.hid hf
    clear hf q2 q3 q4 q6 nB nK
    gi_wp2_with fail
    exact hfh.out
  | some ev =>
    obtain⟨a1,a2,a3,a4,a5,a6,a7⟩:=ev
    simp only [oneR,encE,Option.getD_some,Option.isSome_some,if_true]
    cases fed with
    | false =>
      gi_wp2_with fail
      have x3:=(Ext.refl V2).alloc (.cells #[.int .i64 a1,.int .i64 a2,.int .i64 a3,.int .i64 a4,.int .i64 a5,.int .i64 a6,.int .i64 a7] 26)
      replace n2:=n2.ext x3
      replace n3:=n3.ext x3
      replace n4:=n4.ext x3
      replace n6:=n6.ext x3
      replace nB:=nB.trans x3
      replace nK:=nK.trans (keeps_ext _ x3)
      clear n5 nrow nBW x3
      generalize World.alloc V2 _=V3 at *
      have p2:Blk V3.drew w.heap.size (.cells #[.slice none 0 0] 34):=n2.drew
      have p3:Blk V3.drew (w.heap.size+1) (.cells #[.int .i64 0] 3):=n3.drew
      have p4:Blk V3.drew (w.heap.size+1+1) (.cells #[.int .i64 0] 22):=n4.drew
      have p6:Blk V3.drew (w.heap.size+1+1+1+1) (.cells #[.int .i64 ((pre.length:Int)+1)] 3):=n6.drew
      replace nB:=nB.drew
      replace nK:=nK.trans (keeps_ext _ (Ext.refl V3).drew)
      clear n2 n3 n4 n6
      refine wpIn_region_held (S:=fun w'=>w'.cell? ⟨w.heap.size+1+1+1+1,0,none⟩=some (.int .i64 ((pre.length:Int)+1))) (by kernel_rfl) (by kernel_rfl) (fun _ _ h=>h) (p6.cells 0) (fun hHeld=>?_)
      generalize World.drew V3=V4 at *
      refine tk 0 (v:=?_) rfl (by kernel_rfl) (fun _ _ _ h=>h) (by assumption) ?_ ?_
      rotate_left
      · (intro w hSw;(try dsimp only at hSw);go_simp;try with_reducible rfl)
      try simp only [put_pack]
      have c2:=p2.cells 0
      have f2:=frozen_of_heap p2 0
      refine wpAnyH_ready (rs:=[1]) (by kernel_rfl) (by simp) ?_
      refine AllReadyH.cons rfl (fun K hKK=>?_) (AllReadyH.nil)
      go_simp
      have q2:Blk (V4.setCell ⟨w.heap.size,0,none⟩ (.slice none 0 0)) w.heap.size (.cells #[.slice none 0 0] 34):=heap_setCell p2 _
      have q3:=p3.setO (i:=0) (show w.heap.size+1≠w.heap.size by omega) (.slice none 0 0)
      have q4:=p4.setO (i:=0) (show w.heap.size+1+1≠w.heap.size by omega) (.slice none 0 0)
      have q6:=p6.setO (i:=0) (show w.heap.size+1+1+1+1≠w.heap.size by omega) (.slice none 0 0)
      replace nB:=Ext.setCell nB (p:=⟨w.heap.size,0,none⟩) (Nat.le_refl _) (.slice none 0 0)
      replace nK:=nK.trans ((KeepsOthers.setCell V4 ⟨w.heap.size,0,none⟩ (.slice none 0 0)).from W0.heap.size)
      clear c2 f2 p2 p3 p4 p6
      generalize World.setCell V4 _ _=V5 at *
      refine hKK.out _ _ (q6.cells 0) (fun hHeld=>?_)
      clear hKK K
      try dsimp only
      have c3:=q3.cells 0
      have f3:=frozen_of_heap q3 0
      refine wpAnyH_ready (rs:=[2]) (by kernel_rfl) (by simp) ?_
      refine AllReadyH.cons rfl (fun K hKK=>?_) (AllReadyH.nil)
      go_simp
      have p2:=q2.setO (i:=0) (show w.heap.size≠w.heap.size+1 by omega) (.int .i64 ((pre.length:Int)+1))
      have p3:Blk (V5.setCell ⟨w.heap.size+1,0,none⟩ (.int .i64 ((pre.length:Int)+1))) (w.heap.size+1) (.cells #[.int .i64 ((pre.length:Int)+1)] 3):=heap_setCell q3 _
      have p4:=q4.setO (i:=0) (show w.heap.size+1+1≠w.heap.size+1 by omega) (.int .i64 ((pre.length:Int)+1))
      have p6:=q6.setO (i:=0) (show w.heap.size+1+1+1+1≠w.heap.size+1 by omega) (.int .i64 ((pre.length:Int)+1))
      replace nB:=Ext.setCell nB (p:=⟨w.heap.size+1,0,none⟩) (show w.heap.size<=w.heap.size+1 by omega) (.int .i64 ((pre.length:Int)+1))
      replace nK:=nK.trans ((KeepsOthers.setCell V5 ⟨w.heap.size+1,0,none⟩ (.int .i64 ((pre.length:Int)+1))).from W0.heap.size)
      clear c3 f3 q2 q3 q4 q6
      generalize World.setCell V5 _ _=V6 at *
      refine hKK.out _ _ (p6.cells 0) (fun hHeld=>?_)
      clear hKK K
      try dsimp only
      have c4:=p4.cells 0
      have f4:=frozen_of_heap p4 0
      refine wpAnyH_ready (rs:=[3]) (by kernel_rfl) (by simp) ?_
      refine AllReadyH.cons rfl (fun K hKK=>?_) (AllReadyH.nil)
      go_simp
      have q2:=p2.setO (i:=0) (show w.heap.size≠w.heap.size+1+1 by omega) (.int .i64 3)
      have q3:=p3.setO (i:=0) (show w.heap.size+1≠w.heap.size+1+1 by omega) (.int .i64 3)
      have q4:Blk (V6.setCell ⟨w.heap.size+1+1,0,none⟩ (.int .i64 3)) (w.heap.size+1+1) (.cells #[.int .i64 3] 22):=heap_setCell p4 _
      have q6:=p6.setO (i:=0) (show w.heap.size+1+1+1+1≠w.heap.size+1+1 by omega) (.int .i64 3)
      replace nB:=Ext.setCell nB (p:=⟨w.heap.size+1+1,0,none⟩) (show w.heap.size<=w.heap.size+1+1 by omega) (.int .i64 3)
      replace nK:=nK.trans ((KeepsOthers.setCell V6 ⟨w.heap.size+1+1,0,none⟩ (.int .i64 3)).from W0.heap.size)
      clear c4 f4 p2 p3 p4 p6
      generalize World.setCell V6 _ _=V7 at *
      refine hKK.out _ _ (q6.cells 0) (fun hHeld=>?_)
      clear hKK K
      try dsimp only
      refine wpAnyH_done (by kernel_rfl) ?_ _
      go_simp
      have hf:KeepsFrom W0.heap.size W V7/\PX w .ret (pre++[⟨(line,false),hx⟩]) V7:=⟨nK,rfl,⟨pre,_,rfl,hok,by simp⟩,q2,by rw [List.length_append];exact q3,q4,nB⟩
      have hfh:=Lib.hid hf
      clear hf q2 q3 q4 q6 nB nK
      gi_wp2_with fail
      exact hfh.out
    | true =>
      have x3:=(Ext.refl V2).alloc (.cells #[.int .i64 a1,.int .i64 a2,.int .i64 a3,.int .i64 a4,.int .i64 a5,.int .i64 a6,.int .i64 a7] 26)
      have be:=Blk.new V2 (.cells #[.int .i64 a1,.int .i64 a2,.int .i64 a3,.int .i64 a4,.int .i64 a5,.int .i64 a6,.int .i64 a7] 26)
      replace n2:=n2.ext x3
      replace n3:=n3.ext x3
      replace n4:=n4.ext x3
      replace n5:=n5.ext x3
      replace n6:=n6.ext x3
      replace nrow:=row_ext nrow x3
      replace nB:=nB.trans x3
      replace nK:=nK.trans (keeps_ext _ x3)
      have nV2:w.heap.size<=V2.heap.size:=by have:=nB.size;have:=n6.lt;simp only [World.size_alloc] at *;omega
      replace nBW:=nBW.trans (Below.mono x3 nV2)
      have hWB:W0.heap.size<=(V2.alloc (.cells #[.int .i64 a1,.int .i64 a2,.int .i64 a3,.int .i64 a4,.int .i64 a5,.int .i64 a6,.int .i64 a7] 26)).heap.size:=Nat.le_trans hWW nK.size
      obtain⟨i0,hi,hz0,hz1,hz2⟩:=info_parts info_ev
      have c5:=n5.cells 0
      have ce:=be.cells
      have hvne:∀ r,v.ownBlock=some r->W0.heap.size<=r:=by
       intro r hr
       rcases nrow.2 with⟨e,_⟩ | ⟨g,cap,cur,e,hg,_⟩
       · rw [e] at hr;cases hr
       · rw [e] at hr
         have:g=r:=by simpa [Value.ownBlock] using hr
         omega
      have hall:=Lib.hid (And.intro n2 (And.intro n3 (And.intro n4 (And.intro n5 (And.intro n6 (And.intro nrow (And.intro nB (And.intro nK nBW))))))))
      have hvh:=Lib.hid hvne
      clear n2 n3 n4 n5 n6 nrow nB nK nBW x3 be hvne nV2
      gi_wp2_with (gi_at_builtin;refine wpListIn_append_own _ rfl _ _ 34 rfl W0.heap.size 26 i0 _ 7 56 Tryd.underlying34 hi hz0 hz1 hz2 rfl (by decide) _ _ _ rfl (World.ownsRow.alloc hall.out.2.2.2.2.2.1 (.cells #[.int .i64 a1,.int .i64 a2,.int .i64 a3,.int .i64 a4,.int .i64 a5,.int .i64 a6,.int .i64 a7] 26)) ⟨V2.heap.size+1,0,none⟩ 1 1 [.int .i64 a1,.int .i64 a2,.int .i64 a3,.int .i64 a4,.int .i64 a5,.int .i64 a6,.int .i64 a7] rfl rfl (by intro j u hu;rw [Addr.add_lit,Nat.zero_add];exact (cell_of_heap (w:=(V2.alloc (.cells #[.int .i64 a1,.int .i64 a2,.int .i64 a3,.int .i64 a4,.int .i64 a5,.int .i64 a6,.int .i64 a7] 26)).alloc (.cells #[.int .i64 a1,.int .i64 a2,.int .i64 a3,.int .i64 a4,.int .i64 a5,.int .i64 a6,.int .i64 a7] 26)) (b:=V2.heap.size+1) (by have:=heap_alloc_new (V2.alloc (.cells #[.int .i64 a1,.int .i64 a2,.int .i64 a3,.int .i64 a4,.int .i64 a5,.int .i64 a6,.int .i64 a7] 26)) (.cells #[.int .i64 a1,.int .i64 a2,.int .i64 a3,.int .i64 a4,.int .i64 a5,.int .i64 a6,.int .i64 a7] 26);rw [World.size_alloc] at this;exact this) j).trans (by simpa using hu)) (by simp [Value.oneCell']) (by unfold maxLen;omega) (by omega) (by rw [World.size_alloc];omega) ?_;intro v' w' hown' hgrow hnn;obtain⟨g',cap',rfl⟩:=ownsRow_succ hown';have kb:=keepb hgrow hvh.out;have c5':=(kb _ _ (hall.out.2.2.2.1.alloc (.cells #[.int .i64 a1,.int .i64 a2,.int .i64 a3,.int .i64 a4,.int .i64 a5,.int .i64 a6,.int .i64 a7] 26)) (by omega)).cells 0;have f5':=frozen_of_heap (kb _ _ (hall.out.2.2.2.1.alloc (.cells #[.int .i64 a1,.int .i64 a2,.int .i64 a3,.int .i64 a4,.int .i64 a5,.int .i64 a6,.int .i64 a7] 26)) (by omega)) 0)
      gi_wp2_with fail
      obtain⟨n2,n3,n4,n5,n6,nrow,nB,nK,nBW⟩:=hall.out
      have m2:=(kb _ _ (n2.alloc (.cells #[.int .i64 a1,.int .i64 a2,.int .i64 a3,.int .i64 a4,.int .i64 a5,.int .i64 a6,.int .i64 a7] 26)) (by omega)).setO (i:=0) (show w.heap.size≠w.heap.size+1+1+1 by omega) (.slice (some ⟨g',0,none⟩) (pre.length+1) cap')
      have m3:=(kb _ _ (n3.alloc (.cells #[.int .i64 a1,.int .i64 a2,.int .i64 a3,.int .i64 a4,.int .i64 a5,.int .i64 a6,.int .i64 a7] 26)) (by omega)).setO (i:=0) (show w.heap.size+1≠w.heap.size+1+1+1 by omega) (.slice (some ⟨g',0,none⟩) (pre.length+1) cap')
      have m4:=(kb _ _ (n4.alloc (.cells #[.int .i64 a1,.int .i64 a2,.int .i64 a3,.int .i64 a4,.int .i64 a5,.int .i64 a6,.int .i64 a7] 26)) (by omega)).setO (i:=0) (show w.heap.size+1+1≠w.heap.size+1+1+1 by omega) (.slice (some ⟨g',0,none⟩) (pre.length+1) cap')
      have m5:Blk (w'.setCell ⟨w.heap.size+1+1+1,0,none⟩ (.slice (some ⟨g',0,none⟩) (pre.length+1) cap')) (w.heap.size+1+1+1) (.cells #[(.slice (some ⟨g',0,none⟩) (pre.length+1) cap')] 34):=heap_setCell (kb _ _ (n5.alloc (.cells #[.int .i64 a1,.int .i64 a2,.int .i64 a3,.int .i64 a4,.int .i64 a5,.int .i64 a6,.int .i64 a7] 26)) (by omega)) _
      have m6:=(kb _ _ (n6.alloc (.cells #[.int .i64 a1,.int .i64 a2,.int .i64 a3,.int .i64 a4,.int .i64 a5,.int .i64 a6,.int .i64 a7] 26)) (by omega)).setO (i:=0) (show w.heap.size+1+1+1+1≠w.heap.size+1+1+1 by omega) (.slice (some ⟨g',0,none⟩) (pre.length+1) cap')
      have mrow:=rows_set (b:=w.heap.size+1+1+1) (i:=0) (u:=(.slice (some ⟨g',0,none⟩) (pre.length+1) cap')) hown' (by omega)
      have hge:∀ k,v.ownBlock=some k->w.heap.size<=k:=fun k e=>by have:=hvh.out k e;omega
      have hszA:w.heap.size<=((V2.alloc (.cells #[.int .i64 a1,.int .i64 a2,.int .i64 a3,.int .i64 a4,.int .i64 a5,.int .i64 a6,.int .i64 a7] 26)).alloc (.cells #[.int .i64 a1,.int .i64 a2,.int .i64 a3,.int .i64 a4,.int .i64 a5,.int .i64 a6,.int .i64 a7] 26)).heap.size:=Nat.le_trans hx0.size (Nat.le_trans hWB (by simp))
      have mB:Ext w (w'.setCell ⟨w.heap.size+1+1+1,0,none⟩ (.slice (some ⟨g',0,none⟩) (pre.length+1) cap')):=Ext.setCell (Below.grown (nB.alloc (.cells #[.int .i64 a1,.int .i64 a2,.int .i64 a3,.int .i64 a4,.int .i64 a5,.int .i64 a6,.int .i64 a7] 26)) hgrow hszA hge) (p:=⟨w.heap.size+1+1+1,0,none⟩) (show w.heap.size<=w.heap.size+1+1+1 by omega) _
      have mBW:Below w.heap.size W (w'.setCell ⟨w.heap.size+1+1+1,0,none⟩ (.slice (some ⟨g',0,none⟩) (pre.length+1) cap')):=Below.setCell (Below.grown (Below.alloc nBW (Nat.le_trans hx0.size hWB) (.cells #[.int .i64 a1,.int .i64 a2,.int .i64 a3,.int .i64 a4,.int .i64 a5,.int .i64 a6,.int .i64 a7] 26)) hgrow hszA hge) (p:=⟨w.heap.size+1+1+1,0,none⟩) (show w.heap.size<=w.heap.size+1+1+1 by omega) _
      have mK:KeepsFrom W0.heap.size W (w'.setCell ⟨w.heap.size+1+1+1,0,none⟩ (.slice (some ⟨g',0,none⟩) (pre.length+1) cap')):=((nK.trans (keeps_ext _ ((Ext.refl (V2.alloc (.cells #[.int .i64 a1,.int .i64 a2,.int .i64 a3,.int .i64 a4,.int .i64 a5,.int .i64 a6,.int .i64 a7] 26))).alloc (.cells #[.int .i64 a1,.int .i64 a2,.int .i64 a3,.int .i64 a4,.int .i64 a5,.int .i64 a6,.int .i64 a7] 26)))).trans ((KeepsOthers.of_grownBy hgrow (fun j o hj ho=>by
       rcases nrow.2 with⟨e,_⟩ | ⟨g,cap,cur,e,hg,hh,_⟩
       · change v.ownBlock=some j at hj
         rw [e] at hj;cases hj
       · change v.ownBlock=some j at hj
         rw [e] at hj
         have hgj:g=j:=by simpa [Value.ownBlock] using hj
         subst hgj
         have hh2:((V2.alloc (.cells #[.int .i64 a1,.int .i64 a2,.int .i64 a3,.int .i64 a4,.int .i64 a5,.int .i64 a6,.int .i64 a7] 26)).alloc (.cells #[.int .i64 a1,.int .i64 a2,.int .i64 a3,.int .i64 a4,.int .i64 a5,.int .i64 a6,.int .i64 a7] 26)).heap[g]?=_:=(Below.block ((Ext.refl (V2.alloc (.cells #[.int .i64 a1,.int .i64 a2,.int .i64 a3,.int .i64 a4,.int .i64 a5,.int .i64 a6,.int .i64 a7] 26))).alloc (.cells #[.int .i64 a1,.int .i64 a2,.int .i64 a3,.int .i64 a4,.int .i64 a5,.int .i64 a6,.int .i64 a7] 26)) g (Array.getElem?_eq_some_iff.1 hh).1).trans hh
         rw [hh2] at ho
         cases ho
         rfl)).from _)).trans ((KeepsOthers.setCell w' ⟨w.heap.size+1+1+1,0,none⟩ (.slice (some ⟨g',0,none⟩) (pre.length+1) cap')).from _)
      have msz:W0.heap.size<=(w'.setCell ⟨w.heap.size+1+1+1,0,none⟩ (.slice (some ⟨g',0,none⟩) (pre.length+1) cap')).heap.size:=Nat.le_trans hWW mK.size
      refine⟨mK,mBW,?_,m2,m3,m4,⟨_,m5,?_⟩,?_,mB,msz⟩
      · intro z hz
        rw [List.map_append] at hz
        rcases List.mem_append.1 hz with hz | hz
        · exact hok z hz
        · simp only [List.map_cons,List.map_nil,List.mem_singleton] at hz
          subst hz
          exact⟨by rw [show oneE line=_ from hqh.out];rfl,rfl⟩
      · rw [List.length_append,List.map_append]
        have he:evsOf (pre.map (·.1)++[(⟨(line,true),hx⟩:Pc)].map (·.1))=evsOf (pre.map (·.1))++[⟨a1,a2,a3,a4,a5,a6,a7⟩]:=by
         unfold evsOf
         rw [List.filterMap_append]
         simp [hqh.out]
        rw [he,List.flatMap_append]
        exact mrow
      · rw [List.length_append]
        exact m6
 case done =>
  rintro D ys W hD hys ⟨hok,h2,h3,h4,⟨v,h5,hrow⟩,h6,hB,hWW⟩ hK
  have hs0:=hs0h.out
  have hDs:w.heap.size<=D:=Nat.le_trans hx0.size hD
  have hys2:=Lib.hid hys
  rw [hys] at hok hrow
  have hlen:ys.length=(linesL s).length:=by rw [<- hys,List.length_map]
  rw [hlen] at hrow
  clear hys k0 k1 k2 k3 k4 k5 h6 hlen
  obtain⟨vp,vn,vc,rfl⟩:∃ p n c,v=.slice p n c:=by
   rcases hrow.2 with⟨e,_⟩ | ⟨g,cap,cur,e,_⟩
   · exact⟨_,_,_,e⟩
   · exact⟨_,_,_,e⟩
  have c5:=cell_of_heap h5 0
  have c2:=cell_of_heap h2 0
  have f2:=frozen_of_heap h2 0
  have c3:=cell_of_heap h3 0
  have f3:=frozen_of_heap h3 0
  have c4:=cell_of_heap h4 0
  have f4:=frozen_of_heap h4 0
  have hrowh:=Lib.hid hrow
  have hkh:=Lib.hid hK
  have hBh:=Lib.hid hB
  have h2h:=Lib.hid h2
  have h3h:=Lib.hid h3
  have h4h:=Lib.hid h4
  clear hrow hK hB h2 h3 h4 h5
  gi_wp2_with fail
  have s2:Blk ((W.setCell ⟨w.heap.size,0,none⟩ (.slice vp vn vc))) w.heap.size (.cells #[.slice vp vn vc] 34):=heap_setCell h2h.out _
  replace s2:=(s2.setO (i:=0) (show w.heap.size≠w.heap.size+1 by omega) (.int .i64 0)).setO (i:=0) (show w.heap.size≠w.heap.size+1+1 by omega) (.int .i64 0)
  have s3:Blk ((W.setCell ⟨w.heap.size,0,none⟩ (.slice vp vn vc)).setCell ⟨w.heap.size+1,0,none⟩ (.int .i64 0)) (w.heap.size+1) (.cells #[.int .i64 0] 3):=heap_setCell (Blk.setO h3h.out (i:=0) (show w.heap.size+1≠w.heap.size by omega) (.slice vp vn vc)) _
  replace s3:=s3.setO (i:=0) (show w.heap.size+1≠w.heap.size+1+1 by omega) (.int .i64 0)
  have s4:Blk (((W.setCell ⟨w.heap.size,0,none⟩ (.slice vp vn vc)).setCell ⟨w.heap.size+1,0,none⟩ (.int .i64 0)).setCell ⟨w.heap.size+1+1,0,none⟩ (.int .i64 0)) (w.heap.size+1+1) (.cells #[.int .i64 0] 22):=heap_setCell ((Blk.setO h4h.out (i:=0) (show w.heap.size+1+1≠w.heap.size by omega) (.slice vp vn vc)).setO (i:=0) (show w.heap.size+1+1≠w.heap.size+1 by omega) (.int .i64 0)) _
  have sK:=((((KeepsOthers.setCell W ⟨w.heap.size,0,none⟩ (.slice vp vn vc)).trans (KeepsOthers.setCell _ ⟨w.heap.size+1,0,none⟩ (.int .i64 0))).trans (KeepsOthers.setCell _ ⟨w.heap.size+1+1,0,none⟩ (.int .i64 0)))).same D _ hkh.out rfl
  have sB:=Ext.setCell (Ext.setCell (Ext.setCell hBh.out (p:=⟨w.heap.size,0,none⟩) (Nat.le_refl _) (.slice vp vn vc)) (p:=⟨w.heap.size+1,0,none⟩) (show w.heap.size<=w.heap.size+1 by omega) (.int .i64 0)) (p:=⟨w.heap.size+1+1,0,none⟩) (show w.heap.size<=w.heap.size+1+1 by omega) (.int .i64 0)
  have srow:=rows_set (b:=w.heap.size+1+1) (i:=0) (u:=.int .i64 0) (rows_set (b:=w.heap.size+1) (i:=0) (u:=.int .i64 0) (rows_set (b:=w.heap.size) (i:=0) (u:=.slice vp vn vc) hrowh.out (by omega)) (by omega)) (by omega)
  have ssz:W0.heap.size<=D:=hD
  clear hrowh hkh hBh h2h h3h h4h c2 c3 c4 c5 f2 f3 f4
  generalize World.setCell (World.setCell (World.setCell W _ _) _ _) _ _=V at *
  have sB2:=Below.trans (show Below w.heap.size w V from sB) (belowK_b (w:=w) (Nat.le_refl _) _ D _ (.deferred none) (by omega) sK rfl rfl)
  have e2:(V.putObj D (.deferred none)).cell? ⟨w.heap.size,0,none⟩=some (.slice vp vn vc):=cell_kept (cell_of_heap s2 0) (grownBy_putObj' V D (.deferred none)) (fun r e=>by cases e;exact⟨_,sK,rfl⟩)
  have e3:(V.putObj D (.deferred none)).cell? ⟨w.heap.size+1,0,none⟩=some (.int .i64 0):=cell_kept (cell_of_heap s3 0) (grownBy_putObj' V D (.deferred none)) (fun r e=>by cases e;exact⟨_,sK,rfl⟩)
  have e4:(V.putObj D (.deferred none)).cell? ⟨w.heap.size+1+1,0,none⟩=some (.int .i64 0):=cell_kept (cell_of_heap s4 0) (grownBy_putObj' V D (.deferred none)) (fun r e=>by cases e;exact⟨_,sK,rfl⟩)
  refine⟨by simp,.inl ⟨_,_,rfl,run_takeDeferred sK,?_⟩⟩
  refine⟨.tuple #[.slice vp vn vc,.int .i64 0,.int .i64 0],by simp [results,Tryd.results11,go_sem,e2,e3,e4],_,_,_,rfl,sB2,.inl ⟨hok,rfl,rfl,rows_less (rows_grown srow (grownBy_putObj' V D (.deferred none)) (fun r e=>by cases e;exact⟨hD,_,sK,rfl⟩)) hx0.size⟩⟩
 case stop =>
  rintro D k pre W hD hSp ⟨rfl,hex,h2,h3,h4,hB⟩ hK
  have hDs:w.heap.size<=D:=Nat.le_trans hx0.size hD
  clear k0 k1 k2 k3 k4 k5
  gi_wp2
  have hB2:=hB.trans (belowK_b (w:=w) (Nat.le_refl _) _ D _ (.deferred none) (by omega) hK rfl rfl)
  have e2:(W.putObj D (.deferred none)).cell? ⟨w.heap.size,0,none⟩=some (.slice none 0 0):=cell_kept (cell_of_heap h2 0) (grownBy_putObj' W D (.deferred none)) (fun r e=>by cases e;exact⟨_,hK,rfl⟩)
  have e3:(W.putObj D (.deferred none)).cell? ⟨w.heap.size+1,0,none⟩=some (.int .i64 pre.length):=cell_kept (cell_of_heap h3 0) (grownBy_putObj' W D (.deferred none)) (fun r e=>by cases e;exact⟨_,hK,rfl⟩)
  have e4:(W.putObj D (.deferred none)).cell? ⟨w.heap.size+1+1,0,none⟩=some (.int .i64 3):=cell_kept (cell_of_heap h4 0) (grownBy_putObj' W D (.deferred none)) (fun r e=>by cases e;exact⟨_,hK,rfl⟩)
  refine⟨by simp,.inl ⟨_,_,rfl,run_takeDeferred hK,?_⟩⟩
  obtain⟨pre',x,rfl,hok,hno⟩:=hex
  obtain⟨post,hpost⟩:=hSp
  refine⟨.tuple #[.slice none 0 0,.int .i64 (pre'++[x]).length,.int .i64 3],by simp [results,Tryd.results11,go_sem,e2,e3,e4],_,_,_,rfl,hB2,.inr ⟨pre'.map (·.1),x.1,post,?_,hok,hno,rfl,?_,rfl⟩⟩
  · rw [<- hpost];simp
  · simp
end Go.Proofs.YtchahoiainbcaaaDoor
namespace Kv
open Go.Lib
theorem linesOf_snoc (x:Bs):∀ (qs:List Bs),linesOf (qs++[x])=qs.map (fun q=>(q,true))++(if x=[] then [] else [(x,false)])
 | []=>rfl
 | q :: qs=>by
   have ih:=linesOf_snoc x qs
   cases h:qs++[x] with
   | nil=>exact absurd (congrArg List.length h) (by simp)
   | cons y l =>
     rw [List.cons_append,h]
     show (q,true) :: linesOf (y :: l)=_
     rw [<- h,ih]
     rfl
theorem cutP_flat (z:UInt8)(x:Bs):∀ (s cur:Bs) (qs:List Bs),cutP z s cur=qs++[x]->(qs.flatMap fun q=>q++[z])++x=cur++s
 | [],cur,qs,h=>by
   change [cur]=qs++[x] at h
   match qs,h with
   | [],h=>cases h;simp
   | [_],h=>exact absurd (congrArg List.length h) (by simp)
   | _ :: _ :: _,h=>exact absurd (congrArg List.length h) (by simp)
 | c :: s,cur,qs,h=>by
   unfold cutP at h
   split at h
   · rename_i hc
     subst hc
     match qs,h with
     | [],h =>
       have:=congrArg List.length h
       have h2:=cutP_ne c s []
       simp at this
       exact absurd this h2
     | q :: qs,h =>
       rw [List.cons_append,List.cons.injEq] at h
       obtain⟨rfl,h⟩:=h
       have ih:=cutP_flat c x s [] qs h
       rw [List.flatMap_cons,List.append_assoc,ih]
       simp
   · rw [cutP_flat z x s _ qs h]
     simp
theorem one_back {line:Bs}{e:Ev}(h:oneE line=some e):fineE e=true/\lineE e=line:=by
 rw [<- doc_one] at h
 unfold docOne at h
 match hw:cutP 32 line [],h with
 | a :: k :: t :: c :: rest,h =>
   change (if rest.length<=2/\fineE (docE a k t c rest)=true/\lineE (docE a k t c rest)=line then some (docE a k t c rest) else none)=some e at h
   split at h
   · rename_i hr
     cases h
     exact hr.2
   · cases h
def textOf (es:List Ev):Bs:=es.flatMap fun e=>lineE e++[10]
theorem text_of:∀ (qs:List Bs),(∀ q∈qs,(oneE q).isSome=true)->textOf (qs.filterMap oneE)=qs.flatMap fun q=>q++[10]
 | [],_=>rfl
 | q :: qs,h=>by
   have hq:=h q (by simp)
   cases he:oneE q with
   | none=>rw [he] at hq;cases hq
   | some e =>
     rw [List.filterMap_cons,he]
     show textOf (e :: _)=_
     unfold textOf
     rw [List.flatMap_cons,List.flatMap_cons,(one_back he).2]
     exact congrArg _ (text_of qs fun x hx=>h x (List.mem_cons_of_mem _ hx))
theorem evs_true (qs:List Bs):evsOf (qs.map fun q=>(q,true))=qs.filterMap oneE:=by
 unfold evsOf
 rw [List.filterMap_map]
 rfl
theorem text_back {s:Bs}(h:okL (linesL s)):textOf (evsOf (linesL s))=s:=by
 rw [lines_parts] at h ⊢
 obtain⟨qs,x,hx⟩:∃ qs x,cutP 10 s []=qs++[x]:=⟨_,_,(List.dropLast_concat_getLast (cutP_ne 10 s [])).symm⟩
 rw [hx,linesOf_snoc] at h ⊢
 by_cases h0:x=[]
 · subst h0
   rw [if_pos rfl,List.append_nil] at h ⊢
   have:=cutP_flat 10 [] s [] qs hx
   rw [List.append_nil,List.nil_append] at this
   rw [evs_true,text_of qs fun q hq=>(h (q,true) (List.mem_map.2 ⟨q,hq,rfl⟩)).1,this]
 · rw [if_neg h0] at h
   have:=(h (x,false) (by simp)).2
   cases this
theorem evs_fine {s:Bs}:∀ e∈evsOf (linesL s),fineE e=true:=by
 intro e he
 obtain⟨x,_,hx⟩:=List.mem_filterMap.1 he
 exact (one_back hx).1
theorem evs_len {l:List (Bs × Bool)}(h:okL l):(evsOf l).length=l.length:=by
 induction l with
 | nil=>rfl
 | cons x l ih =>
   have hx:=(h x (by simp)).1
   unfold evsOf
   cases he:oneE x.1 with
   | none=>rw [he] at hx;cases hx
   | some e =>
     rw [List.filterMap_cons,he]
     exact congrArg (·+1) (ih fun y hy=>h y (List.mem_cons_of_mem _ hy))
end Kv
namespace Go.Proofs.YtchahoiainbcaaaDoor
open Go.RowKit Kv
theorem numG_at (wd:Bs)(j:Nat)(n:Int)(h:j<wd.length):numG (wd.drop j) j n=if (wd[j]).toNat<48∨57<(wd[j]).toNat∨14<j then -1 else numG (wd.drop (j+1)) (j+1) (10*n+((wd[j]).toNat-48)):=by
 rw [List.drop_eq_getElem_cons h]
 rfl
set_option maxRecDepth 100000 in
set_option maxHeartbeats 2000000 in
theorem num45 (wd:Bs)(w:World):Calls Tryd.prog 29 #[.string ⟨wd.toArray⟩] w fun e w'=>e=.returned (.int .i64 (numD wd))/\w=w':=by
 by_cases h0:wd=[]
 · subst h0
   go_enter Tryd.func29,Tryd.ntmps29
   go_wp2_with fail
   go_loopw [3,4] (fun n i wr=>n=.int .i64 0/\i=.int .i64 0/\w=wr) (fun _ _ _=>0)
   case atStart=>exact⟨rfl,rfl,rfl⟩
   case round =>
    obtain⟨rfl,rfl,rfl⟩:=hrel
    go_wp2_with fail
    go_ret
    exact⟨rfl,rfl⟩
 have d0:(wd==[])=false:=by rw [beq_eq_false_iff_ne];exact h0
 have e1h:=Lib.hid (show numD wd=numG wd 0 0 from if_neg h0)
 clear h0
 go_enter Tryd.func29,Tryd.ntmps29
 go_wp2_with fail
 go_loopw [3,4] (fun n i wr=>∃ (j M:Nat),i=.int .i64 j/\n=.int .i64 M/\j<=wd.length/\j<=15/\M<10 ^ j/\w=wr/\numG (wd.drop j) j M=numD wd) (fun _ i _=>wd.length-(intOf i).toNat)
 case atStart=>exact⟨0,0,rfl,rfl,by omega,by omega,by simp,rfl,e1h.out.symm⟩
 case round =>
  obtain⟨j,M,rfl,rfl,hj,hj15,hM,rfl,hp⟩:=hrel
  by_cases hlt:j<wd.length
  · have hpw:10 ^ j<=10 ^ 15:=Nat.pow_le_pow_right (by omega) (by omega)
    have hM2:M<1000000000000000:=Nat.lt_of_lt_of_le hM hpw
    have hpj:10 ^ (j+1)=10*10 ^ j:=by rw [Nat.pow_succ,Nat.mul_comm]
    rw [numG_at wd j M hlt] at hp
    have hx:=(wd[j]).toNat_lt
    generalize hxx:(wd[j]).toNat=x at *
    have hpjh:=Lib.hid hpj
    have hph:=Lib.hid hp
    have hMh:=Lib.hid hM
    clear hp hpj hM hpw
    by_cases c1:x<48
    · have f1:decide (x<48)=true:=decide_eq_true c1
      have f2:decide ((x:Int)<48)=true:=by rw [decide_eq_true_eq];omega
      have hq:=hph.out
      rw [if_pos (.inl c1)] at hq
      have hqh:=Lib.hid hq
      clear hq hph c1
      go_wp2_with fail
      go_ret
      exact⟨by rw [<- hqh.out];rfl,rfl⟩
    · have f1:decide (x<48)=false:=decide_eq_false c1
      have f2:decide ((x:Int)<48)=false:=by rw [decide_eq_false_iff_not];omega
      by_cases c2:57<x
      · have f3:decide (57<x)=true:=decide_eq_true c2
        have f4:decide (57<(x:Int))=true:=by rw [decide_eq_true_eq];omega
        have hq:=hph.out
        rw [if_pos (.inr (.inl c2))] at hq
        have hqh:=Lib.hid hq
        clear hq hph c1 c2
        go_wp2_with fail
        go_ret
        exact⟨by rw [<- hqh.out];rfl,rfl⟩
      · have f3:decide (57<x)=false:=decide_eq_false c2
        have f4:decide (57<(x:Int))=false:=by rw [decide_eq_false_iff_not];omega
        by_cases c3:14<j
        · have f5:decide ((14:Int)<(j:Int))=true:=by rw [decide_eq_true_eq];omega
          have hq:=hph.out
          rw [if_pos (.inr (.inr c3))] at hq
          have hqh:=Lib.hid hq
          clear hq hph c1 c2 c3
          go_wp2_with fail
          go_ret
          exact⟨by rw [<- hqh.out];rfl,rfl⟩
        · have f5:decide ((14:Int)<(j:Int))=false:=by rw [decide_eq_false_iff_not];omega
          have hq:=hph.out
          rw [if_neg (by omega)] at hq
          have hqh:=Lib.hid hq
          clear hq hph
          go_wp2_with fail
          refine⟨⟨j+1,10*M+(x-48),by go_num,by go_num,by omega,by omega,by rw [hpjh.out];have:=hMh.out;omega,trivial,?_⟩,?_⟩
          · rw [<- hqh.out]
            congr 1
            omega
          · simp [intOf];omega
  · obtain rfl:j=wd.length:=by omega
    rw [List.drop_length] at hp
    have hqh:=Lib.hid (show (M:Int)=numD wd from hp)
    clear hp
    go_wp2_with fail
    go_ret
    exact⟨by rw [<- hqh.out];rfl,rfl⟩
theorem append_recs45 {ops:Array Oper}{rest:List Oper}{o:Oper}{a:Act}{Q:Exit->Act->World->Prop}{w0 w:World}{e t:TypeId}{z:Value}{size bytes:Nat}
  (hinfo:(Tryd.prog.info? e).map (fun i=>(i.zero,i.size,i.bytes))=some (some z,size,bytes))(hund:Tryd.prog.underlying t=some (.slice e))(hzs:z.cells.size=size)(hsz:0<size)(hby:bytes<=100)
  (hgd:o.guard=none)(s x:Operand)(ho:o.op=.call { callee:=.builtin .append,args:=#[s,x],argTypes:=#[t,t] })
  (v:Value)(n:Nat)(xs news:List Value)(ad:Addr)(m c:Nat)(hX:Ext w0 w)(hown:w.ownsRow w0.heap.size e size v n xs)(hs:a.eval s=v)(hx:a.eval x=.slice (some ad) m c)
  (hnl:news.length=m*size)(hnews:∀ j u,news[j]?=some u->w.cell? (ad.add j)=some u)(h1:∀ u∈news,u.oneCell'=true)(hlen:n<1000000000)(hm:m<1000000000)
  (h:∀ v' w',w'.ownsRow w0.heap.size e size v' (n+m) (xs++news)->Ext w0 w'->wpList Tryd.prog ops Q rest (a.put o.dst v') w') :
  wpList Tryd.prog ops Q (o :: rest) a w:=by
 obtain⟨i0,hi,hz0,hz1,hz2⟩:=info_parts hinfo
 refine wpList_append_own_at _ hgd s x t ho w0.heap.size e i0 z size bytes hund hi hz0 hz1 hz2 hzs hsz v n xs hs hown ad m c news hx hnl hnews h1 (by unfold maxLen;omega) ?_ hX.size fun v' w' h2 h3 _ _=>?_
 · have:(n+m)*bytes<=(n+m)*100:=Nat.mul_le_mul_left _ hby
   omega
 · refine h v' w' h2 (Below.grown hX h3 hX.size fun k hk=>?_)
   rcases hown.2 with⟨rfl,_⟩ | ⟨g,cap,cur,rfl,hgb,_⟩
   · simp [Value.ownBlock] at hk
   · simp [Value.ownBlock] at hk
     omega
theorem row_last {W:World}{B g cap n e:Nat}{xs:List Value}{x:Value}(y:Value)(h:W.ownsRow B e 1 (.slice (some ⟨g,0,none⟩) (n+1) cap) (n+1) (xs++[x])):(W.setCell ⟨g,n,none⟩ y).ownsRow B e 1 (.slice (some ⟨g,0,none⟩) (n+1) cap) (n+1) (xs++[y]):=by
 obtain⟨h1,h2⟩:=h
 have hl:xs.length=n:=by simpa using h1
 rcases h2 with⟨e0,_⟩ | ⟨g',cap',cur,e0,hg,hh,hc1,hc2,hsz,htk⟩
 · cases e0
 · simp only [Value.slice.injEq,Option.some.injEq,Addr.mk.injEq] at e0
   obtain⟨⟨rfl,-⟩,-,rfl⟩:=e0
   refine⟨by simpa using h1,.inr ⟨g,cap,cur.setIfInBounds n y,rfl,hg,heap_setCell hh y,hc1,hc2,by simpa using hsz,?_⟩⟩
   rw [Array.toList_setIfInBounds,List.take_set,htk,<- hl,List.set_append_right _ _ (Nat.le_refl _),Nat.sub_self]
   rfl
theorem extract_one (s:Bs)(j:Nat)(h:j<s.length):(⟨s.toArray⟩:ByteArray).extract j (j+1)=⟨#[s[j]]⟩:=by
 apply ByteArray.ext
 rw [ByteArray.data_extract]
 apply Array.ext'
 rw [Array.toList_extract]
 simp only [List.extract_eq_take_drop]
 rw [show j+1-j=1 from by omega,List.drop_eq_getElem_cons h]
 rfl
def strV (s:Bs):Value:=.string ⟨s.toArray⟩
theorem cutP_at (z:UInt8)(s:Bs)(j:Nat)(cur:Bs)(h:j<s.length):cutP z (s.drop j) cur=if s[j]=z then cur :: cutP z (s.drop (j+1)) [] else cutP z (s.drop (j+1)) (cur++[s[j]]):=by
 rw [List.drop_eq_getElem_cons h]
 rfl
set_option maxRecDepth 100000 in
set_option maxHeartbeats 2000000 in
theorem cut45 (s:Bs)(z:UInt8)(w:World)(hs:s.length<=10000):Calls Tryd.prog 28 #[.string ⟨s.toArray⟩,.int .u8 z.toNat] w fun e w'=>∃ v,e=.returned v/\Ext w w'/\w'.ownsRow w.heap.size 9 1 v (cutP z s []).length ((cutP z s []).map strV):=by
 have hrow0:=row_newS (B:=w.heap.size) w (Nat.le_refl _) [strV []] 9 1 1 rfl (by omega)
 have hX0:=(Ext.refl w).alloc (.cells #[.string ⟨#[]⟩] 9)
 go_enter Tryd.func28,Tryd.ntmps28
 go_wp2_with fail
 go_loopw [5,6] (fun v i wr=>∃ (j:Nat) (ps:List Bs) (cur:Bs),i=.int .i64 j/\j<=s.length/\ps.length<=j/\cur.length<=j/\ps++cutP z (s.drop j) cur=cutP z s []/\Ext w wr/\wr.ownsRow w.heap.size 9 1 v (ps.length+1) ((ps++[cur]).map strV)) (fun _ i _=>s.length-(intOf i).toNat)
 case atStart=>exact⟨0,[],[],rfl,by omega,by simp,by simp,rfl,hX0,hrow0⟩
 case round =>
  obtain⟨j,ps,cur,rfl,hj,hpl,hcl,hp,hX,hrow⟩:=hrel
  by_cases hlt:j<s.length
  · rw [cutP_at z s j cur hlt] at hp
    by_cases hc:s[j]=z
    · rw [if_pos hc] at hp
      have d1:(s[j].toNat==z.toNat)=true:=by rw [beq_iff_eq,hc]
      have hphh:=Lib.hid hp
      have hrowh:=Lib.hid hrow
      clear hp hrow hc
      generalize hsj:s[j]=c at *
      have hz1:=row_ext hrowh.out ((Ext.refl wr).alloc (.cells #[.string ⟨#[]⟩] 9))
      have hxa:=hX.alloc (.cells #[.string ⟨#[]⟩] 9)
      have hce:=(Blk.new wr (.cells #[.string ⟨#[]⟩] 9)).cells
      have hnew:∀ (k:Nat) u,[strV []][k]?=some u->(wr.alloc (.cells #[.string ⟨#[]⟩] 9)).cell? ((⟨wr.heap.size,0,none⟩:Addr).add k)=some u:=by
       intro k u hu
       rw [Addr.add_lit,Nat.zero_add,hce,show (#[.string ⟨#[]⟩]:Array Value)=[strV []].toArray from rfl,List.getElem?_toArray]
       exact hu
      have hzh:=Lib.hid hz1
      have hnh:=Lib.hid hnew
      clear hrowh hX hz1 hnew hce
      go_wp2_with (at_builtin;refine append_recs45 (w0:=w) info_str Tryd.underlying47 (by decide) (by decide) (by decide) rfl _ _ rfl u5 (ps.length+1) _ [strV []] ⟨wr.heap.size,0,none⟩ 1 1 hxa hzh.out rfl rfl rfl hnh.out (by simp [strV,Value.oneCell']) (by omega) (by omega) ?_;intro v' w' hown hx2;replace hown:=Lib.hid hown)
      refine⟨⟨j+1,ps++[cur],[],by go_num,by omega,by simp;omega,by simp,by rw [List.append_assoc];exact hphh.out,hx2,?_⟩,?_⟩
      · rw [List.length_append,List.map_append]
        exact hown.out
      · simp [intOf];omega
    · rw [if_neg hc] at hp
      have d1:(s[j].toNat==z.toNat)=false:=by rw [beq_eq_false_iff_ne];exact fun e=>hc (UInt8.toNat_inj.1 e)
      have hphh:=Lib.hid hp
      obtain⟨hlen,hcell⟩:=id hrow
      rcases hcell with⟨_,h0⟩ | ⟨g,cap,cells,rfl,hg,hh,hcap,hcap2,hsz,htk⟩
      · omega
      have hcp:cells[ps.length]?=some (strV cur):=by
       have h1:(cells.toList.take ((ps.length+1)*1))[ps.length]?=some (strV cur):=by rw [htk,List.map_append,List.getElem?_append_right (by simp)];simp
       rw [List.getElem?_take] at h1
       simpa using h1
      have hcw:wr.cell? ⟨g,ps.length,none⟩=some (strV cur):=(cell_of_heap hh ps.length).trans hcp
      have hadd:=fun W=>run_string_add_lists (P:=Tryd.prog) W cur [s[j]] (by omega) (by simp)
      have wr1:IntKind.i64.wrap (ps.length:Int)=(ps.length:Int):=by rw [IntKind.wrap_i64];omega
      have wr2:IntKind.i64.wrap ((j:Int)+1)=(j:Int)+1:=by rw [IntKind.wrap_i64];omega
      have q1:(ps.length:Int)<(ps.length:Int)+1:=by omega
      have q2:(j:Int)+1<=(s.length:Int):=by omega
      have q3:(j:Int)<=(j:Int)+1:=by omega
      have q4:(0:Int)<=(j:Int)+1:=by omega
      have q5:((j:Int)+1).toNat=j+1:=by omega
      have hext:=extract_one s j hlt
      have hrowh:=Lib.hid hrow
      have hhh:=Lib.hid (And.intro hh (And.intro hg (And.intro hsz htk)))
      clear hp hrow hc hlen hcp hh htk hsz
      go_upto_region 7 with fail
      refine wp_region_held_drew (S:=fun _=>True) rfl trivial (fun hHeld=>?_)
      have hcd:wr.drew.cell? ⟨g,ps.length,none⟩=some (.string ⟨cur.toArray⟩):=hcw
      clear hcw
      refine tkb 0 ?_
      iterate 9
       refine tkn (v:=?_) rfl (by kernel_rfl) (fun _ _ _ h=>h) (by assumption) ?_ ?_
       rotate_left
       · (intro w hSw;(try dsimp only at hSw);go_simp;try with_reducible rfl)
       try simp only [put_pack]
      refine tke ?_
      refine tkb 10 ?_
      iterate 5
       refine tkn (v:=?_) rfl (by kernel_rfl) (fun _ _ _ h=>h) (by assumption) ?_ ?_
       rotate_left
       · (intro w hSw;(try dsimp only at hSw);go_simp;try with_reducible rfl)
       try simp only [put_pack]
      refine tke ?_
      refine wpAnyH_ready (rs:=[9]) (by kernel_rfl) (by simp) ?_
      refine AllReadyH.cons rfl (fun K hKK=>?_) (AllReadyH.nil)
      go_simp
      refine hKK.out _ _ trivial (fun hHeld=>?_)
      clear hKK K
      try dsimp only
      refine wpAnyH_ready (rs:=[15]) (by kernel_rfl) (by simp) ?_
      refine AllReadyH.cons rfl (fun K hKK=>?_) (AllReadyH.nil)
      go_simp
      refine hKK.out _ _ trivial (fun hHeld=>?_)
      clear hKK K
      try dsimp only
      refine wpAnyH_ready (rs:=[16]) (by kernel_rfl) (by simp) ?_
      refine AllReadyH.cons rfl (fun K hKK=>?_) (AllReadyH.nil)
      go_simp
      refine hKK.out _ _ trivial (fun hHeld=>?_)
      clear hKK K
      try dsimp only
      have hnew:=World.ownsRow.drew (row_last (strV (cur++[s[j]])) (by have h:=hrowh.out;rw [List.map_append] at h;exact h:wr.ownsRow w.heap.size 9 1 (.slice (some ⟨g,0,none⟩) (ps.length+1) cap) (ps.length+1) (ps.map strV++[strV cur])))
      have hXn:=(hX.setCell (p:=⟨g,ps.length,none⟩) hg (strV (cur++[s[j]]))).drew
      have hnh:=Lib.hid (And.intro hnew hXn)
      clear hnew hXn hX
      have hfz:wr.drew.frozen? ⟨g,ps.length,none⟩=false:=frozen_of_heap hhh.out.1 ps.length
      refine wpAnyH_ready (rs:=[17]) (by kernel_rfl) (by simp) ?_
      refine AllReadyH.cons rfl (fun K hKK=>?_) (AllReadyH.nil)
      go_simp
      refine hKK.out _ _ trivial (fun hHeld=>?_)
      clear hKK K
      try dsimp only
      refine wpAnyH_done (by kernel_rfl) ?_ _
      go_simp
      go_wp2_with fail
      refine⟨⟨j+1,ps,cur++[s[j]],by go_num,by omega,by omega,by simp;omega,hphh.out,hnh.out.2,?_⟩,?_⟩
      · rw [List.map_append]
        exact hnh.out.1
      · simp [intOf];omega
  · obtain rfl:j=s.length:=by omega
    have hq:ps++[cur]=cutP z s []:=by rw [<- hp,List.drop_length];rfl
    have hqh:=Lib.hid hq
    have hrowh:=Lib.hid hrow
    clear hp hq hrow
    go_wp2_with fail
    go_ret
    refine⟨_,rfl,hX,?_⟩
    rw [<- hqh.out,List.length_append]
    exact hrowh.out
theorem digits_q2 (n:Int)(h0:-9223372036854775808<=n)(h1:n<=9223372036854775807)(W:World)(k:Nat) :
  Calls Tryd.prog 25 #[.int .i64 n] (W.drewN k) fun e w''=>e=.returned (.string ⟨(digits n).toArray⟩)/\∃ m,w''=W.drewN m :=
 (digits_r n h0 h1 _).mono fun _ _ h=>⟨h.1,k,h.2.symm⟩
set_option maxRecDepth 100000 in
set_option maxHeartbeats 4000000 in
theorem line_r (e:Ev)(w:World)(hf:fineE e=true):Calls Tryd.prog 10 #[encE e] w fun r w'=>r=.returned (.string ⟨(lineE e).toArray⟩)/\Ext w w':=by
 obtain⟨h1,h2,h3,h4,h5,h6,h7⟩:=fine_parts hf
 clear hf
 obtain⟨a,k,t,c,v,x,y⟩:=e
 unfold encE
 simp only at *
 obtain⟨K,rfl⟩:∃ K:Nat,k=(K:Int):=⟨k.toNat,by omega⟩
 have hWh:=Lib.hid (show lineE ⟨a,(K:Int),t,c,v,x,y⟩=Go.Lib.join ([digits a,nthW kindsW (K:Int),digits t,digits c]++(if (K:Int)=3 then [nthW notesW v] else if (K:Int)=2 then [digits x,digits y] else [])) [32] from rfl)
 have hkcell:∀ W (b:Nat),Blk W b (.cells #[.string ⟨#[]⟩,.string ⟨#[99,97,108,108]⟩,.string ⟨#[114,101,116,117,114,110]⟩,.string ⟨#[110,111,116,101]⟩,.string ⟨#[104,97,108,116]⟩] 9)->W.cell? ⟨b,K,none⟩=some (.string ⟨(nthW kindsW (K:Int)).toArray⟩):=by
  intro W b hb
  rw [hb.cells K]
  have:K=1∨K=2∨K=3∨K=4:=by omega
  rcases this with rfl | rfl | rfl | rfl <;> rfl
 have hkw:(nthW kindsW (K:Int)).length<=100:=by
  have:K=1∨K=2∨K=3∨K=4:=by omega
  rcases this with rfl | rfl | rfl | rfl <;> decide
 generalize hkn:nthW kindsW (K:Int)=kw at *
 clear hkn
 have hlen:∀ n:Int,0<=n->n<=1099511627776->(digits n).length<=21:=fun n h0 h1=>Go.Lib.itoa_length_le n (by omega) (by omega)
 have g1:=hlen a h2.1 (by omega)
 have g2:=hlen t h3.1 (by omega)
 have g3:=hlen c h4.1 (by omega)
 have f1:=Lib.hid (digits_q2 a (by omega) (by omega))
 have f2:=Lib.hid (digits_q2 t (by omega) (by omega))
 have f3:=Lib.hid (digits_q2 c (by omega) (by omega))
 have hc1:=fun W=>run_string_add_lists (P:=Tryd.prog) W (digits a) ([32]) (by first | omega | (simp only [List.length_append,List.length_singleton];omega)) (by first | omega | (simp only [List.length_singleton];omega))
 have hc2:=fun W=>run_string_add_lists (P:=Tryd.prog) W ((digits a++[32])) (kw) (by first | omega | (simp only [List.length_append,List.length_singleton];omega)) (by first | omega | (simp only [List.length_singleton];omega))
 have hc3:=fun W=>run_string_add_lists (P:=Tryd.prog) W (((digits a++[32])++kw)) ([32]) (by first | omega | (simp only [List.length_append,List.length_singleton];omega)) (by first | omega | (simp only [List.length_singleton];omega))
 have hc4:=fun W=>run_string_add_lists (P:=Tryd.prog) W ((((digits a++[32])++kw)++[32])) (digits t) (by first | omega | (simp only [List.length_append,List.length_singleton];omega)) (by first | omega | (simp only [List.length_singleton];omega))
 have hc5:=fun W=>run_string_add_lists (P:=Tryd.prog) W (((((digits a++[32])++kw)++[32])++digits t)) ([32]) (by first | omega | (simp only [List.length_append,List.length_singleton];omega)) (by first | omega | (simp only [List.length_singleton];omega))
 have hc6:=fun W=>run_string_add_lists (P:=Tryd.prog) W ((((((digits a++[32])++kw)++[32])++digits t)++[32])) (digits c) (by first | omega | (simp only [List.length_append,List.length_singleton];omega)) (by first | omega | (simp only [List.length_singleton];omega))
 have hX:=Ext.refl w
 have b1:=Blk.new w (.cells #[.int .i64 a,.int .i64 (K:Int),.int .i64 t,.int .i64 c,.int .i64 v,.int .i64 x,.int .i64 y] 26)
 replace hX:=hX.alloc (.cells #[.int .i64 a,.int .i64 (K:Int),.int .i64 t,.int .i64 c,.int .i64 v,.int .i64 x,.int .i64 y] 26)
 have c_b1:=b1.cells
 go_enter Tryd.func10,Tryd.ntmps10
 go_wp2_with fail
 have bk:=(Blk.new (w.alloc (.cells #[.int .i64 a,.int .i64 (K:Int),.int .i64 t,.int .i64 c,.int .i64 v,.int .i64 x,.int .i64 y] 26)) (.cells #[.string ⟨#[]⟩,.string ⟨#[99,97,108,108]⟩,.string ⟨#[114,101,116,117,114,110]⟩,.string ⟨#[110,111,116,101]⟩,.string ⟨#[104,97,108,116]⟩] 9)).alloc (.cells #[.string ⟨#[]⟩,.string ⟨#[100,111,111,114]⟩,.string ⟨#[98,101,104,105,110,100]⟩,.string ⟨#[105,110]⟩,.string ⟨#[108,101,102,116]⟩,.string ⟨#[111,117,116]⟩] 9)
 have bn:=Blk.new ((w.alloc (.cells #[.int .i64 a,.int .i64 (K:Int),.int .i64 t,.int .i64 c,.int .i64 v,.int .i64 x,.int .i64 y] 26)).alloc (.cells #[.string ⟨#[]⟩,.string ⟨#[99,97,108,108]⟩,.string ⟨#[114,101,116,117,114,110]⟩,.string ⟨#[110,111,116,101]⟩,.string ⟨#[104,97,108,116]⟩] 9)) (.cells #[.string ⟨#[]⟩,.string ⟨#[100,111,111,114]⟩,.string ⟨#[98,101,104,105,110,100]⟩,.string ⟨#[105,110]⟩,.string ⟨#[108,101,102,116]⟩,.string ⟨#[111,117,116]⟩] 9)
 have x1:=((Ext.refl (w.alloc (.cells #[.int .i64 a,.int .i64 (K:Int),.int .i64 t,.int .i64 c,.int .i64 v,.int .i64 x,.int .i64 y] 26))).alloc (.cells #[.string ⟨#[]⟩,.string ⟨#[99,97,108,108]⟩,.string ⟨#[114,101,116,117,114,110]⟩,.string ⟨#[110,111,116,101]⟩,.string ⟨#[104,97,108,116]⟩] 9)).alloc (.cells #[.string ⟨#[]⟩,.string ⟨#[100,111,111,114]⟩,.string ⟨#[98,101,104,105,110,100]⟩,.string ⟨#[105,110]⟩,.string ⟨#[108,101,102,116]⟩,.string ⟨#[111,117,116]⟩] 9)
 simp only [World.size_alloc] at bk bn
 replace b1:=b1.ext x1
 replace hX:=hX.trans x1
 clear c_b1 x1
 generalize World.alloc (World.alloc (World.alloc w _) _) _=V at *
 have c_b1:=b1.cells
 have c_k:=hkcell _ _ bk
 have i1:(K:Int)<5:=by omega
 have i5:K<5:=by omega
 clear hkcell
 go_quiet (first | (go_at_call_of 25 (Value.int IntKind.i64 a);exact f1.out _ _) | (go_at_call_of 25 (Value.int IntKind.i64 t);exact f2.out _ _) | (go_at_call_of 25 (Value.int IntKind.i64 c);exact f3.out _ _))
 replace hX:=hX.trans (Drew.mk' V nq).ext
 replace b1:=b1.ext (Drew.mk' V nq).ext
 replace bn:=bn.ext (Drew.mk' V nq).ext
 clear c_b1 c_k bk i1 i5 f1 f2 f3 hc1 hc2 hc3 hc4 hc5 hc6
 generalize World.drewN V nq=V2 at *
 have c_b1:=b1.cells
 by_cases e3:K=3
 · subst e3
   obtain⟨⟨v1,v2⟩,rfl,rfl⟩:=h5 (by omega)
   clear h5 h6 h7
   obtain⟨vv,rfl⟩:∃ vv:Nat,v=(vv:Int):=⟨v.toNat,by omega⟩
   have hnc:V2.cell? ⟨w.heap.size+1+1,vv,none⟩=some (.string ⟨(nthW notesW (vv:Int)).toArray⟩)/\(nthW notesW (vv:Int)).length<=100:=by
    rw [bn.cells vv]
    have:vv=1∨vv=2∨vv=3∨vv=4∨vv=5:=by omega
    rcases this with rfl | rfl | rfl | rfl | rfl <;> exact⟨rfl,by decide⟩
   obtain⟨hnc,hnl⟩:=hnc
   have i3:(vv:Int)<6:=by omega
   have i5:vv<6:=by omega
   have hW2:=hWh.out
   rw [if_pos (by decide)] at hW2
   replace hWh:=Lib.hid hW2
   clear hW2
   generalize nthW notesW (vv:Int)=nw at *
   have hc7:=fun W=>run_string_add_lists (P:=Tryd.prog) W (digits a++[32]++kw++[32]++digits t++[32]++digits c) ([32]) (by first | omega | (simp only [List.length_append,List.length_singleton];omega)) (by first | omega | (simp only [List.length_singleton];omega))
   have hc8:=fun W=>run_string_add_lists (P:=Tryd.prog) W (digits a++[32]++kw++[32]++digits t++[32]++digits c++[32]) (nw) (by first | omega | (simp only [List.length_append,List.length_singleton];omega)) (by first | omega | (simp only [List.length_singleton];omega))
   go_wp2_with fail
   go_ret
   refine⟨congrArg (fun b=>Ending.returned (Value.string b)) ?_,hX⟩
   rw [hWh.out]
   apply ByteArray.ext
   simp [Go.Lib.join,List.intercalate,List.intersperse]
 · by_cases e2:K=2
   · subst e2
     obtain⟨rfl,hx12,hy40⟩:=h6 (by omega)
     clear h5 h6 h7
     have hW2:=hWh.out
     rw [if_neg (by decide),if_pos (by decide)] at hW2
     replace hWh:=Lib.hid hW2
     clear hW2
     have g4:=hlen x hx12.1 (by omega)
     have g5:=hlen y hy40.1 (by omega)
     have f4:=Lib.hid (digits_q2 x (by omega) (by omega))
     have f5:=Lib.hid (digits_q2 y (by omega) (by omega))
     have hc7:=fun W=>run_string_add_lists (P:=Tryd.prog) W (digits a++[32]++kw++[32]++digits t++[32]++digits c) ([32]) (by first | omega | (simp only [List.length_append,List.length_singleton];omega)) (by first | omega | (simp only [List.length_singleton];omega))
     have hc8:=fun W=>run_string_add_lists (P:=Tryd.prog) W (digits a++[32]++kw++[32]++digits t++[32]++digits c++[32]) (digits x) (by first | omega | (simp only [List.length_append,List.length_singleton];omega)) (by first | omega | (simp only [List.length_singleton];omega))
     have hc9:=fun W=>run_string_add_lists (P:=Tryd.prog) W (digits a++[32]++kw++[32]++digits t++[32]++digits c++[32]++digits x) ([32]) (by first | omega | (simp only [List.length_append,List.length_singleton];omega)) (by first | omega | (simp only [List.length_singleton];omega))
     have hc10:=fun W=>run_string_add_lists (P:=Tryd.prog) W (digits a++[32]++kw++[32]++digits t++[32]++digits c++[32]++digits x++[32]) (digits y) (by first | omega | (simp only [List.length_append,List.length_singleton];omega)) (by first | omega | (simp only [List.length_singleton];omega))
     go_wp2_with fail
     go_quiet (first | (go_at_call_of 25 (Value.int IntKind.i64 x);exact f4.out _ _) | (go_at_call_of 25 (Value.int IntKind.i64 y);exact f5.out _ _))
     go_wp2_with fail
     go_ret
     refine⟨congrArg (fun b=>Ending.returned (Value.string b)) ?_,hX.trans (Drew.mk' _ _).ext⟩
     rw [hWh.out]
     apply ByteArray.ext
     simp [Go.Lib.join,List.intercalate,List.intersperse]
   · have hW2:=hWh.out
     rw [if_neg (by omega),if_neg (by omega)] at hW2
     replace hWh:=Lib.hid hW2
     clear hW2 h5 h6 h7
     have d1:((K:Int)==3)=false:=by rw [beq_eq_false_iff_ne];omega
     have d2:((K:Int)==2)=false:=by rw [beq_eq_false_iff_ne];omega
     have d3:(K==3)=false:=by rw [beq_eq_false_iff_ne];omega
     have d4:(K==2)=false:=by rw [beq_eq_false_iff_ne];omega
     clear e2 e3 h1
     go_wp2_with fail
     go_ret
     refine⟨congrArg (fun b=>Ending.returned (Value.string b)) ?_,hX⟩
     rw [hWh.out]
     apply ByteArray.ext
     simp [Go.Lib.join,List.intercalate,List.intersperse]
end Go.Proofs.YtchahoiainbcaaaDoor
namespace Kv
theorem placeF_snoc (w x:Bs)(h:x≠w):∀ (l:List Bs) (i:Int),placeF w (l++[x]) i=placeF w l i
 | [],i=>by
   show (if x=w then i+1 else 0)=0
   rw [if_neg h]
 | y :: l,i=>by
   show (if y=w then i+1 else placeF w (l++[x]) (i+1))=if y=w then i+1 else placeF w l (i+1)
   rw [placeF_snoc w x h l (i+1)]
theorem kind_step (k:Bs)(i:Nat)(x:Bs)(h:kindsW[i]?=some x):placeF k (kindsW.take (i+1)) 0=if x=k then (i:Int)+1 else placeF k (kindsW.take i) 0:=by
 have hi:i<4:=(List.getElem?_eq_some_iff.1 h).1
 split
 · rename_i hx
   subst hx
   have:i=0∨i=1∨i=2∨i=3:=by omega
   rcases this with rfl | rfl | rfl | rfl <;> cases h <;> decide
 · rename_i hx
   rw [List.take_add_one,h]
   exact placeF_snoc k x hx _ 0
theorem note_step (k:Bs)(i:Nat)(x:Bs)(h:notesW[i]?=some x):placeF k (notesW.take (i+1)) 0=if x=k then (i:Int)+1 else placeF k (notesW.take i) 0:=by
 have hi:i<5:=(List.getElem?_eq_some_iff.1 h).1
 split
 · rename_i hx
   subst hx
   have:i=0∨i=1∨i=2∨i=3∨i=4:=by omega
   rcases this with rfl | rfl | rfl | rfl | rfl <;> cases h <;> decide
 · rename_i hx
   rw [List.take_add_one,h]
   exact placeF_snoc k x hx _ 0
end Kv
namespace Go.Proofs.YtchahoiainbcaaaDoor
open Go.RowKit Kv
theorem words_of_row {W:World}{B n:Nat}{v:Value}{ws:List Bs}(h:W.ownsRow B 9 1 v n (ws.map strV))(h0:ws≠[]):∃ g cap,v=.slice (some ⟨g,0,none⟩) ws.length cap/\B<=g/\ws.length<=cap/\WordsAt W g 0 ws:=by
 obtain⟨h1,h2⟩:=h
 obtain rfl:n=ws.length:=by simpa using h1.symm
 rcases h2 with⟨_,h2⟩ | ⟨g,cap,cur,rfl,hg,hh,hc,hc2,hsz,htk⟩
 · exact absurd (List.length_eq_zero_iff.1 h2) h0
 · refine⟨g,cap,rfl,hg,hc,(Array.getElem?_eq_some_iff.1 hh).1,fun j y hy=>?_⟩
   rw [Nat.zero_add,cell_of_heap hh j]
   have h3:(cur.toList.take (ws.length*1))[j]?=some (strV y):=by rw [htk,List.getElem?_map,hy];rfl
   rw [List.getElem?_take] at h3
   have hj:j<ws.length:=(List.getElem?_eq_some_iff.1 hy).1
   rw [if_pos (by omega)] at h3
   exact (by simpa using h3:cur[j]?=some (strV y))
def ecell (a t c:Bs) (K:Int) (V:Int:=0) (X:Int:=0) (Y:Int:=0):Obj:=.cells #[.int .i64 (numD a),.int .i64 K,.int .i64 (numD t),.int .i64 (numD c),.int .i64 V,.int .i64 X,.int .i64 Y] 26
theorem doc_val1 {a k t c n:Bs}{rest:List Bs}(h:rest.length=1)(hn:rest[0]?=some n):(docE a k t c rest).val=placeF n notesW 0/\(docE a k t c rest).err=0/\(docE a k t c rest).rv=0:=by
 match rest,h with
 | [m],_=>cases hn;exact⟨rfl,rfl,rfl⟩
theorem doc_val0 {a k t c:Bs}{rest:List Bs}(h:rest.length≠1):(docE a k t c rest).val=0:=by
 match rest,h with
 | [],_=>rfl
 | [_],h=>exact absurd rfl h
 | _ :: _ :: _,_=>rfl
theorem doc_er2 {a k t c u v:Bs}{rest:List Bs}(h:rest.length=2)(hu:rest[0]?=some u)(hv:rest[1]?=some v):(docE a k t c rest).err=numD u/\(docE a k t c rest).rv=numD v:=by
 match rest,h with
 | [x,y],_=>cases hu;cases hv;exact⟨rfl,rfl⟩
theorem doc_er0 {a k t c:Bs}{rest:List Bs}(h:rest.length≠2):(docE a k t c rest).err=0/\(docE a k t c rest).rv=0:=by
 match rest,h with
 | [],_=>exact⟨rfl,rfl⟩
 | [_],_=>exact⟨rfl,rfl⟩
 | [_,_],h=>exact absurd rfl h
 | _ :: _ :: _ :: _,_=>exact⟨rfl,rfl⟩
def oneRD (o:Option Ev):Value:=.tuple #[encE (o.getD ev0),.bool o.isSome]
set_option maxRecDepth 100000 in
set_option maxHeartbeats 2000000 in
theorem one45_bad (line:Bs)(ws:List Bs)(w:World)(hcut:∀ W,Calls Tryd.prog 28 #[.string ⟨line.toArray⟩,.int .u8 32] W fun e w'=>∃ g cap,e=.returned (.slice (some ⟨g,0,none⟩) ws.length cap)/\Ext W w')
  (hb:ws.length<4∨6<ws.length):Calls Tryd.prog 13 #[.string ⟨line.toArray⟩] w fun e w'=>e=.returned (oneRD none)/\Ext w w':=by
 have hX:=(Ext.refl w).alloc (.cells #[.int .i64 0,.int .i64 0,.int .i64 0,.int .i64 0,.int .i64 0,.int .i64 0,.int .i64 0] 26)
 have bR:=Blk.new w (.cells #[.int .i64 0,.int .i64 0,.int .i64 0,.int .i64 0,.int .i64 0,.int .i64 0,.int .i64 0] 26)
 go_enter Tryd.func13,Tryd.ntmps13
 go_wp2_with fail
 refine (hcut _).mono ?_
 rintro e w2 ⟨g,cap,rfl,hx⟩
 replace hX:=hX.trans hx
 replace bR:=bR.ext hx
 clear hx hcut
 have hfz:=frozen_of_heap bR
 have cR:=bR.cells
 rcases hb with hb | hb
 · have d1:decide ((ws.length:Int)<4)=true:=by rw [decide_eq_true_eq];omega
   clear hb
   go_wp2_with fail
   have g7:=set7 bR (.int .i64 0) (.int .i64 0) (.int .i64 0) (.int .i64 0) (.int .i64 0) (.int .i64 0) (.int .i64 0)
   have x7:=ext7 hX (Nat.le_refl _) (.int .i64 0) (.int .i64 0) (.int .i64 0) (.int .i64 0) (.int .i64 0) (.int .i64 0) (.int .i64 0)
   generalize World.setCell (World.setCell (World.setCell (World.setCell (World.setCell (World.setCell (World.setCell _ _ _) _ _) _ _) _ _) _ _) _ _) _ _=W7 at g7 x7 ⊢
   have c7:=g7.cells
   exact bodyPost_ret (v:=oneRD none) (by simp [results,Tryd.results13,go_sem,oneRD,encE,ev0,c7]) rfl ⟨rfl,x7⟩
 · have d1:decide ((ws.length:Int)<4)=false:=by rw [decide_eq_false_iff_not];omega
   have d2:decide ((6:Int)<(ws.length:Int))=true:=by rw [decide_eq_true_eq];omega
   clear hb
   go_wp2_with fail
   have g7:=set7 bR (.int .i64 0) (.int .i64 0) (.int .i64 0) (.int .i64 0) (.int .i64 0) (.int .i64 0) (.int .i64 0)
   have x7:=ext7 hX (Nat.le_refl _) (.int .i64 0) (.int .i64 0) (.int .i64 0) (.int .i64 0) (.int .i64 0) (.int .i64 0) (.int .i64 0)
   generalize World.setCell (World.setCell (World.setCell (World.setCell (World.setCell (World.setCell (World.setCell _ _ _) _ _) _ _) _ _) _ _) _ _) _ _=W7 at g7 x7 ⊢
   have c7:=g7.cells
   exact bodyPost_ret (v:=oneRD none) (by simp [results,Tryd.results13,go_sem,oneRD,encE,ev0,c7]) rfl ⟨rfl,x7⟩
set_option maxRecDepth 100000 in
set_option maxHeartbeats 4000000 in
theorem one45_mid (line a k t c:Bs)(rest:List Bs)(w:World)(hcut:∀ W,Calls Tryd.prog 28 #[.string ⟨line.toArray⟩,.int .u8 32] W fun e w'=>∃ g cap,e=.returned (.slice (some ⟨g,0,none⟩) (rest.length+4) cap)/\Ext W w'/\rest.length+4<=cap/\W.heap.size<=g/\WordsAt w' g 0 (a :: k :: t :: c :: rest))
  (hr:rest.length<=2):Calls Tryd.prog 13 #[.string ⟨line.toArray⟩] w fun e w'=>e=.returned (oneRD (docWs line (a :: k :: t :: c :: rest)))/\Ext w w':=by
 have hX:=(Ext.refl w).alloc (.cells #[.int .i64 0,.int .i64 0,.int .i64 0,.int .i64 0,.int .i64 0,.int .i64 0,.int .i64 0] 26)
 have bR:=Blk.new w (.cells #[.int .i64 0,.int .i64 0,.int .i64 0,.int .i64 0,.int .i64 0,.int .i64 0,.int .i64 0] 26)
 go_enter Tryd.func13,Tryd.ntmps13
 go_wp2_with fail
 refine (hcut _).mono ?_
 rintro e w2 ⟨g,cap,rfl,hx,hcap,hg,hW⟩
 replace hX:=hX.trans hx
 replace bR:=bR.ext hx
 clear hx hcut hg
 have d1:decide (((rest.length+4:Nat):Int)<4)=false:=by rw [decide_eq_false_iff_not];omega
 have d2:decide ((6:Int)<((rest.length+4:Nat):Int))=false:=by rw [decide_eq_false_iff_not];omega
 have d3:decide ((rest.length:Int)+4<4)=false:=by rw [decide_eq_false_iff_not];omega
 have d4:decide ((6:Int)<(rest.length:Int)+4)=false:=by rw [decide_eq_false_iff_not];omega
 have i0:(0:Int)<(rest.length:Int)+4:=by omega
 have i1:(1:Int)<(rest.length:Int)+4:=by omega
 have i2:(2:Int)<(rest.length:Int)+4:=by omega
 have i3:(3:Int)<(rest.length:Int)+4:=by omega
 go_upto_region 4 with fail
 have hSd:w2.drew.cell? ⟨g,0,none⟩=some (.string ⟨a.toArray⟩)/\w2.drew.cell? ⟨g,2,none⟩=some (.string ⟨t.toArray⟩)/\w2.drew.cell? ⟨g,3,none⟩=some (.string ⟨c.toArray⟩):=⟨hW.2 0 a rfl,hW.2 2 t rfl,hW.2 3 c rfl⟩
 have hxa:Ext w2 (w2.alloc (.cells #[.int .i64 0,.int .i64 0,.int .i64 0,.int .i64 0,.int .i64 0,.int .i64 0,.int .i64 0] 26)).drew:=((Ext.refl w2).alloc (.cells #[.int .i64 0,.int .i64 0,.int .i64 0,.int .i64 0,.int .i64 0,.int .i64 0,.int .i64 0] 26)).drew
 have hWa:=hW.ext hxa
 have hSa:(w2.alloc (.cells #[.int .i64 0,.int .i64 0,.int .i64 0,.int .i64 0,.int .i64 0,.int .i64 0,.int .i64 0] 26)).drew.cell? ⟨g,0,none⟩=some (.string ⟨a.toArray⟩)/\(w2.alloc (.cells #[.int .i64 0,.int .i64 0,.int .i64 0,.int .i64 0,.int .i64 0,.int .i64 0,.int .i64 0] 26)).drew.cell? ⟨g,2,none⟩=some (.string ⟨t.toArray⟩)/\(w2.alloc (.cells #[.int .i64 0,.int .i64 0,.int .i64 0,.int .i64 0,.int .i64 0,.int .i64 0,.int .i64 0] 26)).drew.cell? ⟨g,3,none⟩=some (.string ⟨c.toArray⟩):=⟨hWa.2 0 a rfl,hWa.2 2 t rfl,hWa.2 3 c rfl⟩
 have hxf:Ext w2 (w2.alloc (.cells #[.int .i64 (numD a),.int .i64 0,.int .i64 (numD t),.int .i64 (numD c),.int .i64 0,.int .i64 0,.int .i64 0] 26)).drew:=((Ext.refl w2).alloc (.cells #[.int .i64 (numD a),.int .i64 0,.int .i64 (numD t),.int .i64 (numD c),.int .i64 0,.int .i64 0,.int .i64 0] 26)).drew
 have hWf:=hW.ext hxf
 have hSe:(w2.alloc (.cells #[.int .i64 (numD a),.int .i64 0,.int .i64 (numD t),.int .i64 (numD c),.int .i64 0,.int .i64 0,.int .i64 0] 26)).drew.cell? ⟨g,0,none⟩=some (.string ⟨a.toArray⟩)/\(w2.alloc (.cells #[.int .i64 (numD a),.int .i64 0,.int .i64 (numD t),.int .i64 (numD c),.int .i64 0,.int .i64 0,.int .i64 0] 26)).drew.cell? ⟨g,2,none⟩=some (.string ⟨t.toArray⟩)/\(w2.alloc (.cells #[.int .i64 (numD a),.int .i64 0,.int .i64 (numD t),.int .i64 (numD c),.int .i64 0,.int .i64 0,.int .i64 0] 26)).drew.cell? ⟨g,3,none⟩=some (.string ⟨c.toArray⟩):=⟨hWf.2 0 a rfl,hWf.2 2 t rfl,hWf.2 3 c rfl⟩
 have hF:=Lib.hid (And.intro hxf (Blk.drew (Blk.new w2 (.cells #[.int .i64 (numD a),.int .i64 0,.int .i64 (numD t),.int .i64 (numD c),.int .i64 0,.int .i64 0,.int .i64 0] 26))))
 clear hxf hWf hxa hWa
 go_cut [5] (fun s5 wx=>s5=.pointer (some ⟨w2.heap.size,0,none⟩)/\Ext w2 wx/\Blk wx w2.heap.size (.cells #[.int .i64 (numD a),.int .i64 0,.int .i64 (numD t),.int .i64 (numD c),.int .i64 0,.int .i64 0,.int .i64 0] 26))
 case first =>
  refine wp_region_held_drew (S:=fun w'=>w'.cell? ⟨g,0,none⟩=some (.string ⟨a.toArray⟩)/\w'.cell? ⟨g,2,none⟩=some (.string ⟨t.toArray⟩)/\w'.cell? ⟨g,3,none⟩=some (.string ⟨c.toArray⟩)) rfl hSd (fun hHeld=>?_)
  refine tkb 0 ?_
  iterate 3
   refine tkn (v:=?_) rfl (by kernel_rfl) (fun _ _ _ h=>h) (by assumption) ?_ ?_
   rotate_left
   · (intro w hSw;(try dsimp only at hSw);go_simp;try with_reducible rfl)
   try simp only [put_pack]
  refine tke ?_
  refine tkb 4 ?_
  iterate 3
   refine tkn (v:=?_) rfl (by kernel_rfl) (fun _ _ _ h=>h) (by assumption) ?_ ?_
   rotate_left
   · (intro w hSw;(try dsimp only at hSw);go_simp;try with_reducible rfl)
   try simp only [put_pack]
  refine tke ?_
  refine tkb 8 ?_
  iterate 3
   refine tkn (v:=?_) rfl (by kernel_rfl) (fun _ _ _ h=>h) (by assumption) ?_ ?_
   rotate_left
   · (intro w hSw;(try dsimp only at hSw);go_simp;try with_reducible rfl)
   try simp only [put_pack]
  refine tke ?_
  refine wpAnyH_ready (rs:=[3,13]) (by kernel_rfl) (by simp) ?_
  refine AllReadyH.cons rfl (fun K hKK=>?_) (AllReadyH.cons rfl (fun K hKK=>?_) (AllReadyH.nil))
  · go_simp
    refine (num45 _ _).mono ?_
    rintro e w' ⟨rfl,rfl⟩
    refine hKK.out _ _ hSd (fun hHeld=>?_)
    clear hKK K
    try dsimp only
    refine wpAnyH_ready (rs:=[7,13]) (by kernel_rfl) (by simp) ?_
    refine AllReadyH.cons rfl (fun K hKK=>?_) (AllReadyH.cons rfl (fun K hKK=>?_) (AllReadyH.nil))
    · go_simp
      refine (num45 _ _).mono ?_
      rintro e w' ⟨rfl,rfl⟩
      refine hKK.out _ _ hSd (fun hHeld=>?_)
      clear hKK K
      try dsimp only
      refine wpAnyH_ready (rs:=[11,13]) (by kernel_rfl) (by simp) ?_
      refine AllReadyH.cons rfl (fun K hKK=>?_) (AllReadyH.cons rfl (fun K hKK=>?_) (AllReadyH.nil))
      · go_simp
        refine (num45 _ _).mono ?_
        rintro e w' ⟨rfl,rfl⟩
        refine hKK.out _ _ hSd (fun hHeld=>?_)
        clear hKK K
        try dsimp only
        refine tk 12 (v:=?_) rfl (by kernel_rfl) (fun _ _ _ h=>h) (by assumption) ?_ ?_
        rotate_left
        · (intro w hSw;(try dsimp only at hSw);go_simp;try with_reducible rfl)
        try simp only [put_pack]
        refine wpAnyH_ready (rs:=[13]) (by kernel_rfl) (by simp) ?_
        refine AllReadyH.cons rfl (fun K hKK=>?_) (AllReadyH.nil)
        go_simp
        refine hKK.out _ _ hSa (fun hHeld=>?_)
        clear hKK K
        try dsimp only
        refine wpAnyH_ready (rs:=[14]) (by kernel_rfl) (by simp) ?_
        refine AllReadyH.cons rfl (fun K hKK=>?_) (AllReadyH.nil)
        go_simp
        refine hKK.out _ _ hSe (fun hHeld=>?_)
        clear hKK K
        try dsimp only
        refine wpAnyH_done (by kernel_rfl) ?_ _
        go_simp
        have hfin:=hF.out
        clear hF
        go_wp2_with fail
        go_meet
        exact⟨rfl,hfin⟩
      · go_simp
        refine hKK.out _ _ hSa (fun hHeld=>?_)
        clear hKK K
        try dsimp only
        refine wpAnyH_ready (rs:=[11]) (by kernel_rfl) (by simp) ?_
        refine AllReadyH.cons rfl (fun K hKK=>?_) (AllReadyH.nil)
        go_simp
        refine (num45 _ _).mono ?_
        rintro e w' ⟨rfl,rfl⟩
        refine hKK.out _ _ hSa (fun hHeld=>?_)
        clear hKK K
        try dsimp only
        refine tk 12 (v:=?_) rfl (by kernel_rfl) (fun _ _ _ h=>h) (by assumption) ?_ ?_
        rotate_left
        · (intro w hSw;(try dsimp only at hSw);go_simp;try with_reducible rfl)
        try simp only [put_pack]
        refine wpAnyH_ready (rs:=[14]) (by kernel_rfl) (by simp) ?_
        refine AllReadyH.cons rfl (fun K hKK=>?_) (AllReadyH.nil)
        go_simp
        refine hKK.out _ _ hSe (fun hHeld=>?_)
        clear hKK K
        try dsimp only
        refine wpAnyH_done (by kernel_rfl) ?_ _
        go_simp
        have hfin:=hF.out
        clear hF
        go_wp2_with fail
        go_meet
        exact⟨rfl,hfin⟩
    · go_simp
      refine hKK.out _ _ hSa (fun hHeld=>?_)
      clear hKK K
      try dsimp only
      refine wpAnyH_ready (rs:=[7]) (by kernel_rfl) (by simp) ?_
      refine AllReadyH.cons rfl (fun K hKK=>?_) (AllReadyH.nil)
      go_simp
      refine (num45 _ _).mono ?_
      rintro e w' ⟨rfl,rfl⟩
      refine hKK.out _ _ hSa (fun hHeld=>?_)
      clear hKK K
      try dsimp only
      refine wpAnyH_ready (rs:=[11]) (by kernel_rfl) (by simp) ?_
      refine AllReadyH.cons rfl (fun K hKK=>?_) (AllReadyH.nil)
      go_simp
      refine (num45 _ _).mono ?_
      rintro e w' ⟨rfl,rfl⟩
      refine hKK.out _ _ hSa (fun hHeld=>?_)
      clear hKK K
      try dsimp only
      refine tk 12 (v:=?_) rfl (by kernel_rfl) (fun _ _ _ h=>h) (by assumption) ?_ ?_
      rotate_left
      · (intro w hSw;(try dsimp only at hSw);go_simp;try with_reducible rfl)
      try simp only [put_pack]
      refine wpAnyH_ready (rs:=[14]) (by kernel_rfl) (by simp) ?_
      refine AllReadyH.cons rfl (fun K hKK=>?_) (AllReadyH.nil)
      go_simp
      refine hKK.out _ _ hSe (fun hHeld=>?_)
      clear hKK K
      try dsimp only
      refine wpAnyH_done (by kernel_rfl) ?_ _
      go_simp
      have hfin:=hF.out
      clear hF
      go_wp2_with fail
      go_meet
      exact⟨rfl,hfin⟩
  · go_simp
    refine hKK.out _ _ hSa (fun hHeld=>?_)
    clear hKK K
    try dsimp only
    refine wpAnyH_ready (rs:=[3]) (by kernel_rfl) (by simp) ?_
    refine AllReadyH.cons rfl (fun K hKK=>?_) (AllReadyH.nil)
    go_simp
    refine (num45 _ _).mono ?_
    rintro e w' ⟨rfl,rfl⟩
    refine hKK.out _ _ hSa (fun hHeld=>?_)
    clear hKK K
    try dsimp only
    refine wpAnyH_ready (rs:=[7]) (by kernel_rfl) (by simp) ?_
    refine AllReadyH.cons rfl (fun K hKK=>?_) (AllReadyH.nil)
    go_simp
    refine (num45 _ _).mono ?_
    rintro e w' ⟨rfl,rfl⟩
    refine hKK.out _ _ hSa (fun hHeld=>?_)
    clear hKK K
    try dsimp only
    refine wpAnyH_ready (rs:=[11]) (by kernel_rfl) (by simp) ?_
    refine AllReadyH.cons rfl (fun K hKK=>?_) (AllReadyH.nil)
    go_simp
    refine (num45 _ _).mono ?_
    rintro e w' ⟨rfl,rfl⟩
    refine hKK.out _ _ hSa (fun hHeld=>?_)
    clear hKK K
    try dsimp only
    refine tk 12 (v:=?_) rfl (by kernel_rfl) (fun _ _ _ h=>h) (by assumption) ?_ ?_
    rotate_left
    · (intro w hSw;(try dsimp only at hSw);go_simp;try with_reducible rfl)
    try simp only [put_pack]
    refine wpAnyH_ready (rs:=[14]) (by kernel_rfl) (by simp) ?_
    refine AllReadyH.cons rfl (fun K hKK=>?_) (AllReadyH.nil)
    go_simp
    refine hKK.out _ _ hSe (fun hHeld=>?_)
    clear hKK K
    try dsimp only
    refine wpAnyH_done (by kernel_rfl) ?_ _
    go_simp
    have hfin:=hF.out
    clear hF
    go_wp2_with fail
    go_meet
    exact⟨rfl,hfin⟩
 case rest =>
 obtain⟨rfl,hxc,bE⟩:=hcut
 clear hSd hSa hSe hF
 have bK:=Blk.new wc (.cells #[.string ⟨#[99,97,108,108]⟩,.string ⟨#[114,101,116,117,114,110]⟩,.string ⟨#[110,111,116,101]⟩,.string ⟨#[104,97,108,116]⟩] 9)
 have hxk:=hxc.alloc (.cells #[.string ⟨#[99,97,108,108]⟩,.string ⟨#[114,101,116,117,114,110]⟩,.string ⟨#[110,111,116,101]⟩,.string ⟨#[104,97,108,116]⟩] 9)
 have hbl:w2.heap.size<wc.heap.size:=bE.lt
 replace bE:=bE.alloc (.cells #[.string ⟨#[99,97,108,108]⟩,.string ⟨#[114,101,116,117,114,110]⟩,.string ⟨#[110,111,116,101]⟩,.string ⟨#[104,97,108,116]⟩] 9)
 clear hxc
 go_wp2_with fail
 generalize World.alloc wc _=V at *
 generalize wc.heap.size=bk at *
 go_loopw [7] (fun i wr=>∃ j:Nat,i=.int .i64 j/\j<=4/\Ext w2 wr/\Blk wr w2.heap.size (ecell a t c (placeF k (kindsW.take j) 0))/\Blk wr bk (.cells #[.string ⟨#[99,97,108,108]⟩,.string ⟨#[114,101,116,117,114,110]⟩,.string ⟨#[110,111,116,101]⟩,.string ⟨#[104,97,108,116]⟩] 9)) (fun i _=>4-(intOf i).toNat)
 case atStart=>exact⟨0,rfl,by omega,hxk,bE,bK⟩
 case round =>
  obtain⟨j,rfl,hj,hxr,bEr,bKr⟩:=hrel
  by_cases hlt:j<4
  · obtain⟨x,hx⟩:∃ x,kindsW[j]?=some x:=⟨kindsW[j],List.getElem?_eq_getElem hlt⟩
    have hkc:wr.drew.cell? ⟨bk,j,none⟩=some (.string ⟨x.toArray⟩):=by
     refine (bKr.cells j).trans ?_
     have:j=0∨j=1∨j=2∨j=3:=by omega
     rcases this with rfl | rfl | rfl | rfl <;> cases hx <;> rfl
    have hwc:wr.drew.cell? ⟨g,1,none⟩=some (.string ⟨k.toArray⟩):=(hW.ext hxr).2 1 k rfl
    have q1:(j:Int)<4:=by omega
    have hst:=Lib.hid (kind_step k j x hx)
    have hfz:=frozen_of_heap bEr
    have cEr:=bEr.cells
    go_upto_region 9 with fail
    by_cases hxk:x=k
    · have d5:(x==k)=true:=by rw [beq_iff_eq];exact hxk
      have hst2:=hst.out
      rw [if_pos hxk] at hst2
      replace hst:=Lib.hid hst2
      clear hst2 hxk
      refine wp_region_held_drew (S:=fun w'=>w'.cell? ⟨bk,j,none⟩=some (.string ⟨x.toArray⟩)/\w'.cell? ⟨g,1,none⟩=some (.string ⟨k.toArray⟩)) rfl ⟨hkc,hwc⟩ (fun hHeld=>?_)
      refine tkb 0 ?_
      iterate 8
       refine tkn (v:=?_) rfl (by kernel_rfl) (fun _ _ _ h=>h) (by assumption) ?_ ?_
       rotate_left
       · (intro w hSw;(try dsimp only at hSw);go_simp;try with_reducible rfl)
       try simp only [put_pack]
      refine tke ?_
      refine wpAnyH_done (by kernel_rfl) ?_ _
      go_simp
      go_wp2_with fail
      have bEn:Blk (wr.setCell ⟨w2.heap.size,1,none⟩ (.int .i64 ((j:Int)+1))).drew w2.heap.size (ecell a t c ((j:Int)+1)):=heap_setCell bEr _
      have bKn:Blk (wr.setCell ⟨w2.heap.size,1,none⟩ (.int .i64 ((j:Int)+1))).drew bk (.cells #[.string ⟨#[99,97,108,108]⟩,.string ⟨#[114,101,116,117,114,110]⟩,.string ⟨#[110,111,116,101]⟩,.string ⟨#[104,97,108,116]⟩] 9):=Blk.setO bKr (by omega) _
      refine⟨⟨j+1,by go_num,by omega,(hxr.setCell (p:=⟨w2.heap.size,1,none⟩) (Nat.le_refl _) _).drew,by rw [hst.out];exact bEn,bKn⟩,?_⟩
      simp [intOf];omega
    · have d5:(x==k)=false:=by rw [beq_eq_false_iff_ne];exact hxk
      have hst2:=hst.out
      rw [if_neg hxk] at hst2
      replace hst:=Lib.hid hst2
      clear hst2 hxk
      refine wp_region_held_drew (S:=fun w'=>w'.cell? ⟨bk,j,none⟩=some (.string ⟨x.toArray⟩)/\w'.cell? ⟨g,1,none⟩=some (.string ⟨k.toArray⟩)) rfl ⟨hkc,hwc⟩ (fun hHeld=>?_)
      refine tkb 0 ?_
      iterate 8
       refine tkn (v:=?_) rfl (by kernel_rfl) (fun _ _ _ h=>h) (by assumption) ?_ ?_
       rotate_left
       · (intro w hSw;(try dsimp only at hSw);go_simp;try with_reducible rfl)
       try simp only [put_pack]
      refine tke ?_
      refine wpAnyH_done (by kernel_rfl) ?_ _
      go_simp
      go_wp2_with fail
      refine⟨⟨j+1,by go_num,by omega,hxr.drew,by rw [hst.out];exact bEr.drew,bKr.drew⟩,?_⟩
      simp [intOf];omega
  · obtain rfl:j=4:=by omega
    have bN:=Blk.new wr (.cells #[.string ⟨#[100,111,111,114]⟩,.string ⟨#[98,101,104,105,110,100]⟩,.string ⟨#[105,110]⟩,.string ⟨#[108,101,102,116]⟩,.string ⟨#[111,117,116]⟩] 9)
    have hxn:=hxr.alloc (.cells #[.string ⟨#[100,111,111,114]⟩,.string ⟨#[98,101,104,105,110,100]⟩,.string ⟨#[105,110]⟩,.string ⟨#[108,101,102,116]⟩,.string ⟨#[111,117,116]⟩] 9)
    replace bEr:=bEr.alloc (.cells #[.string ⟨#[100,111,111,114]⟩,.string ⟨#[98,101,104,105,110,100]⟩,.string ⟨#[105,110]⟩,.string ⟨#[108,101,102,116]⟩,.string ⟨#[111,117,116]⟩] 9)
    have hbn:w2.heap.size<wr.heap.size:=by have:=bKr.lt;omega
    clear bKr hxr
    go_upto_region 11 with fail
    go_cut [7,8] (fun s7 s8 wx=>s7=.int .i64 4/\s8=.slice (some ⟨wr.heap.size,0,none⟩) 5 5/\Ext w2 wx/\Blk wx w2.heap.size (ecell a t c (placeF k (kindsW.take 4) 0))/\Blk wx wr.heap.size (.cells #[.string ⟨#[100,111,111,114]⟩,.string ⟨#[98,101,104,105,110,100]⟩,.string ⟨#[105,110]⟩,.string ⟨#[108,101,102,116]⟩,.string ⟨#[111,117,116]⟩] 9))
    case first =>
     go_wp2_with fail
     go_meet
     exact⟨rfl,rfl,hxn,bEr,bN⟩
    case rest =>
    obtain⟨rfl,rfl,hxd,bEd,bNd⟩:=hcut
    clear hxn bEr bN
    refine ‹∀ (a:Act) (w:World),Code.wp Tryd.prog _ _ a w->_› _ _ ?_
    refine wp_seq_k (fun K1 hK1=>?_)
    go_cut [] (fun wx=>Ext w2 wx/\Blk wx w2.heap.size (ecell a t c (placeF k (kindsW.take 4) 0) (docE a k t c rest).val))
    case first =>
     by_cases h1:rest.length=1
     · obtain⟨n,hn⟩:∃ n,rest[0]?=some n:=⟨rest[0],List.getElem?_eq_getElem (by omega)⟩
       have hv:=(doc_val1 (a:=a) (k:=k) (t:=t) (c:=c) h1 hn).1
       have hnc:∀ W,Ext w2 W->W.cell? ⟨g,4,none⟩=some (.string ⟨n.toArray⟩):=fun W hh=>(hW.ext hh).2 4 n hn
       have d6:(((rest.length:Int)+4)==5)=true:=by rw [beq_iff_eq];omega
       have i4:(4:Int)<(rest.length:Int)+4:=by omega
       have d7:(rest.length==1)=true:=by rw [beq_iff_eq];exact h1
       generalize wr.heap.size=bn at *
       generalize placeF k (kindsW.take 4) 0=KK at *
       generalize (docE a k t c rest).val=VV at *
       clear h1
       go_wp2_with fail
       go_loopw [9] (fun i wr=>∃ j:Nat,i=.int .i64 j/\j<=5/\Ext w2 wr/\Blk wr w2.heap.size (ecell a t c KK (placeF n (notesW.take j) 0))/\Blk wr bn (.cells #[.string ⟨#[100,111,111,114]⟩,.string ⟨#[98,101,104,105,110,100]⟩,.string ⟨#[105,110]⟩,.string ⟨#[108,101,102,116]⟩,.string ⟨#[111,117,116]⟩] 9)) (fun i _=>5-(intOf i).toNat)
       case atStart=>exact⟨0,rfl,by omega,hxd,bEd,bNd⟩
       case round =>
        obtain⟨j,rfl,hj,hxr,bEr,bKr⟩:=hrel
        by_cases hlt:j<5
        · obtain⟨x,hx⟩:∃ x,notesW[j]?=some x:=⟨notesW[j],List.getElem?_eq_getElem hlt⟩
          have hkc:wr.drew.cell? ⟨bn,j,none⟩=some (.string ⟨x.toArray⟩):=by
           refine (bKr.cells j).trans ?_
           have:j=0∨j=1∨j=2∨j=3∨j=4:=by omega
           rcases this with rfl | rfl | rfl | rfl | rfl <;> cases hx <;> rfl
          have hwc:wr.drew.cell? ⟨g,4,none⟩=some (.string ⟨n.toArray⟩):=hnc _ hxr.drew
          have q1:(j:Int)<5:=by omega
          have hst:=Lib.hid (note_step n j x hx)
          have hfz:=frozen_of_heap bEr
          have cEr:=bEr.cells
          go_upto_region 15 with fail
          by_cases hxk:x=n
          · have d5:(x==n)=true:=by rw [beq_iff_eq];exact hxk
            have hst2:=hst.out
            rw [if_pos hxk] at hst2
            replace hst:=Lib.hid hst2
            clear hst2 hxk
            refine wp_region_held_drew (S:=fun w'=>w'.cell? ⟨bn,j,none⟩=some (.string ⟨x.toArray⟩)/\w'.cell? ⟨g,4,none⟩=some (.string ⟨n.toArray⟩)) rfl ⟨hkc,hwc⟩ (fun hHeld=>?_)
            refine tkb 0 ?_
            iterate 8
             refine tkn (v:=?_) rfl (by kernel_rfl) (fun _ _ _ h=>h) (by assumption) ?_ ?_
             rotate_left
             · (intro w hSw;(try dsimp only at hSw);go_simp;try with_reducible rfl)
             try simp only [put_pack]
            refine tke ?_
            refine wpAnyH_done (by kernel_rfl) ?_ _
            go_simp
            go_wp2_with fail
            have bEn:Blk (wr.setCell ⟨w2.heap.size,4,none⟩ (.int .i64 ((j:Int)+1))).drew w2.heap.size (ecell a t c KK ((j:Int)+1)):=heap_setCell bEr _
            have bKn:Blk (wr.setCell ⟨w2.heap.size,4,none⟩ (.int .i64 ((j:Int)+1))).drew bn (.cells #[.string ⟨#[100,111,111,114]⟩,.string ⟨#[98,101,104,105,110,100]⟩,.string ⟨#[105,110]⟩,.string ⟨#[108,101,102,116]⟩,.string ⟨#[111,117,116]⟩] 9):=Blk.setO bKr (by omega) _
            refine⟨⟨j+1,by go_num,by omega,(hxr.setCell (p:=⟨w2.heap.size,4,none⟩) (Nat.le_refl _) _).drew,by rw [hst.out];exact bEn,bKn⟩,?_⟩
            simp [intOf];omega
          · have d5:(x==n)=false:=by rw [beq_eq_false_iff_ne];exact hxk
            have hst2:=hst.out
            rw [if_neg hxk] at hst2
            replace hst:=Lib.hid hst2
            clear hst2 hxk
            refine wp_region_held_drew (S:=fun w'=>w'.cell? ⟨bn,j,none⟩=some (.string ⟨x.toArray⟩)/\w'.cell? ⟨g,4,none⟩=some (.string ⟨n.toArray⟩)) rfl ⟨hkc,hwc⟩ (fun hHeld=>?_)
            refine tkb 0 ?_
            iterate 8
             refine tkn (v:=?_) rfl (by kernel_rfl) (fun _ _ _ h=>h) (by assumption) ?_ ?_
             rotate_left
             · (intro w hSw;(try dsimp only at hSw);go_simp;try with_reducible rfl)
             try simp only [put_pack]
            refine tke ?_
            refine wpAnyH_done (by kernel_rfl) ?_ _
            go_simp
            go_wp2_with fail
            refine⟨⟨j+1,by go_num,by omega,hxr.drew,by rw [hst.out];exact bEr.drew,bKr.drew⟩,?_⟩
            simp [intOf];omega
        · obtain rfl:j=5:=by omega
          have hfin:=Lib.hid (And.intro hxr (show Blk wr w2.heap.size (ecell a t c KK VV) from by rw [hv];exact bEr))
          clear hxr bEr bKr
          go_wp2_with fail
          go_meet
          exact hfin.out
     · have hv:=doc_val0 (a:=a) (k:=k) (t:=t) (c:=c) h1
       have d6:(((rest.length:Int)+4)==5)=false:=by rw [beq_eq_false_iff_ne];omega
       have d7:(rest.length==1)=false:=by rw [beq_eq_false_iff_ne];exact h1
       generalize wr.heap.size=bn at *
       generalize placeF k (kindsW.take 4) 0=KK at *
       generalize (docE a k t c rest).val=VV at *
       subst hv
       clear h1
       go_wp2_with fail
       go_loopw [9] (fun i wr=>i=.int .i64 0/\Ext w2 wr/\Blk wr w2.heap.size (ecell a t c KK)) (fun _ _=>0)
       case atStart=>exact⟨rfl,hxd,bEd⟩
       case round =>
        obtain⟨rfl,hxr,bEr⟩:=hrel
        have hfin:=Lib.hid (And.intro hxr bEr)
        clear hxr bEr
        go_wp2_with fail
        go_meet
        exact hfin.out
    case rest =>
    obtain⟨hxe,bEe⟩:=hcut
    clear hxd bEd bNd
    refine hK1 _ _ ?_
    refine wp_seq_k (fun K2 hK2=>?_)
    go_cut [] (fun wx=>Ext w2 wx/\Blk wx w2.heap.size (ecell a t c (placeF k (kindsW.take 4) 0) (docE a k t c rest).val (docE a k t c rest).err (docE a k t c rest).rv))
    case first =>
     generalize (docE a k t c rest).val=VV at *
     by_cases h2:rest.length=2
     · obtain⟨u,hu⟩:∃ n,rest[0]?=some n:=⟨rest[0],List.getElem?_eq_getElem (by omega)⟩
       obtain⟨v,hv⟩:∃ n,rest[1]?=some n:=⟨rest[1],List.getElem?_eq_getElem (by omega)⟩
       obtain⟨he1,he2⟩:=doc_er2 (a:=a) (k:=k) (t:=t) (c:=c) h2 hu hv
       have hnc:∀ W,Ext w2 W->W.cell? ⟨g,4,none⟩=some (.string ⟨u.toArray⟩)/\W.cell? ⟨g,5,none⟩=some (.string ⟨v.toArray⟩):=fun W hh=>⟨(hW.ext hh).2 4 u hu,(hW.ext hh).2 5 v hv⟩
       have d6:(((rest.length:Int)+4)==6)=true:=by rw [beq_iff_eq];omega
       have d7:(rest.length==2)=true:=by rw [beq_iff_eq];exact h2
       have i4:(4:Int)<(rest.length:Int)+4:=by omega
       have i5:(5:Int)<(rest.length:Int)+4:=by omega
       generalize placeF k (kindsW.take 4) 0=KK at *
       have hee:=Lib.hid (And.intro he1 he2)
       clear h2 he1 he2 hu hv
       go_upto_region 18 with fail
       refine wp_region_held_drew (S:=fun w'=>w'.cell? ⟨g,4,none⟩=some (.string ⟨u.toArray⟩)/\w'.cell? ⟨g,5,none⟩=some (.string ⟨v.toArray⟩)) rfl (hnc _ hxe.drew) (fun hHeld=>?_)
       refine tkb 0 ?_
       iterate 3
        refine tkn (v:=?_) rfl (by kernel_rfl) (fun _ _ _ h=>h) (by assumption) ?_ ?_
        rotate_left
        · (intro w hSw;(try dsimp only at hSw);go_simp;try with_reducible rfl)
        try simp only [put_pack]
       refine tke ?_
       refine tkb 4 ?_
       iterate 3
        refine tkn (v:=?_) rfl (by kernel_rfl) (fun _ _ _ h=>h) (by assumption) ?_ ?_
        rotate_left
        · (intro w hSw;(try dsimp only at hSw);go_simp;try with_reducible rfl)
        try simp only [put_pack]
       refine tke ?_
       refine wpAnyH_ready (rs:=[3]) (by kernel_rfl) (by simp) ?_
       refine AllReadyH.cons rfl (fun K hKK=>?_) (AllReadyH.nil)
       go_simp
       refine (num45 _ _).mono ?_
       rintro e w' ⟨rfl,rfl⟩
       refine hKK.out _ _ (hnc _ hxe.drew) (fun hHeld=>?_)
       clear hKK K
       try dsimp only
       refine wpAnyH_ready (rs:=[7]) (by kernel_rfl) (by simp) ?_
       refine AllReadyH.cons rfl (fun K hKK=>?_) (AllReadyH.nil)
       go_simp
       refine (num45 _ _).mono ?_
       rintro e w' ⟨rfl,rfl⟩
       refine hKK.out _ _ (hnc _ hxe.drew) (fun hHeld=>?_)
       clear hKK K
       try dsimp only
       refine tk 8 (v:=?_) rfl (by kernel_rfl) (fun _ _ _ h=>h) (by assumption) ?_ ?_
       rotate_left
       · (intro w hSw;(try dsimp only at hSw);go_simp;try with_reducible rfl)
       try simp only [put_pack]
       refine tk 9 (v:=?_) rfl (by kernel_rfl) (fun _ _ _ h=>h) (by assumption) ?_ ?_
       rotate_left
       · (intro w hSw;(try dsimp only at hSw);go_simp;try with_reducible rfl)
       try simp only [put_pack]
       have hfz:=frozen_of_heap bEe
       have cEe:=bEe.cells
       have bE5:Blk (wc.setCell ⟨w2.heap.size,5,none⟩ (.int .i64 (numD u))) w2.heap.size (ecell a t c KK VV (numD u)):=heap_setCell bEe _
       have bE6:Blk ((wc.setCell ⟨w2.heap.size,5,none⟩ (.int .i64 (numD u))).setCell ⟨w2.heap.size,6,none⟩ (.int .i64 (numD v))).drew w2.heap.size (ecell a t c KK VV (numD u) (numD v)):=heap_setCell bE5 _
       have hx6:Ext w2 ((wc.setCell ⟨w2.heap.size,5,none⟩ (.int .i64 (numD u))).setCell ⟨w2.heap.size,6,none⟩ (.int .i64 (numD v))).drew:=((hxe.setCell (p:=⟨w2.heap.size,5,none⟩) (Nat.le_refl _) _).setCell (p:=⟨w2.heap.size,6,none⟩) (Nat.le_refl _) _).drew
       have hfin:=Lib.hid (And.intro hx6 (show Blk _ w2.heap.size (ecell a t c KK VV (docE a k t c rest).err (docE a k t c rest).rv) from by rw [hee.out.1,hee.out.2];exact bE6))
       have hnc6:=hnc _ hx6
       clear bE5 bE6 hx6 hnc
       refine wpAnyH_ready (rs:=[10]) (by kernel_rfl) (by simp) ?_
       refine AllReadyH.cons rfl (fun K hKK=>?_) (AllReadyH.nil)
       go_simp
       refine hKK.out _ _ hnc6 (fun hHeld=>?_)
       clear hKK K
       try dsimp only
       refine wpAnyH_done (by kernel_rfl) ?_ _
       go_simp
       go_wp2_with fail
       go_meet
       exact hfin.out
     · obtain⟨he1,he2⟩:=doc_er0 (a:=a) (k:=k) (t:=t) (c:=c) h2
       replace bEe:Blk wc w2.heap.size (ecell a t c (placeF k (kindsW.take 4) 0) VV (docE a k t c rest).err (docE a k t c rest).rv):=by rw [he1,he2];exact bEe
       have d6:(((rest.length:Int)+4)==6)=false:=by rw [beq_eq_false_iff_ne];omega
       have d7:(rest.length==2)=false:=by rw [beq_eq_false_iff_ne];exact h2
       generalize placeF k (kindsW.take 4) 0=KK at *
       clear h2 he1 he2
       have hfin:=Lib.hid (And.intro hxe bEe)
       clear hxe bEe
       go_wp2_with fail
       go_meet
       exact hfin.out
    case rest =>
    obtain⟨hxf,bEf⟩:=hcut
    clear hxe bEe
    refine hK2 _ _ ?_
    have bRf:=bR.ext hxf
    have hXf:=hX.trans hxf
    clear bR hX hxf hW hcap
    have bE7:Blk wc w2.heap.size (.cells #[.int .i64 (docE a k t c rest).at_,.int .i64 (docE a k t c rest).kind,.int .i64 (docE a k t c rest).thread,.int .i64 (docE a k t c rest).call,.int .i64 (docE a k t c rest).val,.int .i64 (docE a k t c rest).err,.int .i64 (docE a k t c rest).rv] 26):=bEf
    clear bEf
    have hdoc:docWs line (a :: k :: t :: c :: rest)=if fineE (docE a k t c rest)=true/\lineE (docE a k t c rest)=line then some (docE a k t c rest) else none:=by
     show (if rest.length<=2/\fineE (docE a k t c rest)=true/\lineE (docE a k t c rest)=line then some (docE a k t c rest) else none)=_
     by_cases hh:fineE (docE a k t c rest)=true/\lineE (docE a k t c rest)=line
     · rw [if_pos hh,if_pos ⟨hr,hh⟩]
     · rw [if_neg hh,if_neg (fun h=>hh h.2)]
    generalize docE a k t c rest=e at *
    cases hf:fineE e with
    | false =>
      have hP:=fun w=>hf▸fine45_r e w
      rw [hf,if_neg (by simp)] at hdoc
      have e1h:=Lib.hid hdoc
      clear hdoc hf
      obtain⟨x0,x1,x2,x3,x4,x5,x6⟩:=e
      unfold encE at hP
      simp only at hP bE7
      have cE:=bE7.cells
      go_wp2_with fail
      refine (hP _).mono ?_
      rintro e w3 ⟨rfl,hx⟩
      replace bRf:=bRf.ext hx
      replace hXf:=hXf.trans hx
      clear hx bE7 cE hP
      have cR:=bRf.cells
      have hfz:=frozen_of_heap bRf
      go_wp2_with fail
      have g7:=set7 bRf (.int .i64 0) (.int .i64 0) (.int .i64 0) (.int .i64 0) (.int .i64 0) (.int .i64 0) (.int .i64 0)
      have x7:=ext7 hXf (Nat.le_refl _) (.int .i64 0) (.int .i64 0) (.int .i64 0) (.int .i64 0) (.int .i64 0) (.int .i64 0) (.int .i64 0)
      generalize World.setCell (World.setCell (World.setCell (World.setCell (World.setCell (World.setCell (World.setCell _ _ _) _ _) _ _) _ _) _ _) _ _) _ _=W7 at g7 x7 ⊢
      have c7:=g7.cells
      exact bodyPost_ret (v:=oneRD (docWs line (a :: k :: t :: c :: rest))) (by rw [e1h.out];simp [results,Tryd.results13,go_sem,oneRD,encE,ev0,c7]) rfl ⟨rfl,x7⟩
    | true =>
      have hP:=fun w=>hf▸fine45_r e w
      have hL:=fun w=>line_r e w hf
      by_cases hl:lineE e=line
      · rw [if_pos ⟨hf,hl⟩] at hdoc
        have e1h:=Lib.hid hdoc
        rw [hl] at hL
        clear hdoc hf hl
        obtain⟨x0,x1,x2,x3,x4,x5,x6⟩:=e
        unfold encE at hP hL
        simp only at hP hL bE7
        have cE:=bE7.cells
        go_wp2_with fail
        refine (hP _).mono ?_
        rintro e w3 ⟨rfl,hx⟩
        replace bRf:=bRf.ext hx
        replace bE7:=bE7.ext hx
        replace hXf:=hXf.trans hx
        clear hx cE hP
        have cE:=bE7.cells
        go_wp2_with fail
        refine (hL _).mono ?_
        rintro e w4 ⟨rfl,hx⟩
        replace bRf:=bRf.ext hx
        replace bE7:=bE7.ext hx
        replace hXf:=hXf.trans hx
        clear hx cE hL
        have cE:=bE7.cells
        have cR:=bRf.cells
        have hfz:=frozen_of_heap bRf
        go_wp2_with fail
        have g7:=set7 bRf (.int .i64 x0) (.int .i64 x1) (.int .i64 x2) (.int .i64 x3) (.int .i64 x4) (.int .i64 x5) (.int .i64 x6)
        have x7:=ext7 hXf (Nat.le_refl _) (.int .i64 x0) (.int .i64 x1) (.int .i64 x2) (.int .i64 x3) (.int .i64 x4) (.int .i64 x5) (.int .i64 x6)
        generalize World.setCell (World.setCell (World.setCell (World.setCell (World.setCell (World.setCell (World.setCell _ _ _) _ _) _ _) _ _) _ _) _ _) _ _=W7 at g7 x7 ⊢
        have c7:=g7.cells
        exact bodyPost_ret (v:=oneRD (docWs line (a :: k :: t :: c :: rest))) (by rw [e1h.out];simp [results,Tryd.results13,go_sem,oneRD,encE,c7]) rfl ⟨rfl,x7⟩
      · rw [if_neg (fun h=>hl h.2)] at hdoc
        have e1h:=Lib.hid hdoc
        generalize lineE e=L at *
        have d8:(L != line)=true:=by rw [bne_iff_ne];exact hl
        have d9:(L==line)=false:=by rw [beq_eq_false_iff_ne];exact hl
        clear hdoc hf hl
        obtain⟨x0,x1,x2,x3,x4,x5,x6⟩:=e
        unfold encE at hP hL
        simp only at hP hL bE7
        have cE:=bE7.cells
        go_wp2_with fail
        refine (hP _).mono ?_
        rintro e w3 ⟨rfl,hx⟩
        replace bRf:=bRf.ext hx
        replace bE7:=bE7.ext hx
        replace hXf:=hXf.trans hx
        clear hx cE hP
        have cE:=bE7.cells
        go_wp2_with fail
        refine (hL _).mono ?_
        rintro e w4 ⟨rfl,hx⟩
        replace bRf:=bRf.ext hx
        replace hXf:=hXf.trans hx
        clear hx cE hL bE7
        have cR:=bRf.cells
        have hfz:=frozen_of_heap bRf
        go_wp2_with fail
        have g7:=set7 bRf (.int .i64 0) (.int .i64 0) (.int .i64 0) (.int .i64 0) (.int .i64 0) (.int .i64 0) (.int .i64 0)
        have x7:=ext7 hXf (Nat.le_refl _) (.int .i64 0) (.int .i64 0) (.int .i64 0) (.int .i64 0) (.int .i64 0) (.int .i64 0) (.int .i64 0)
        generalize World.setCell (World.setCell (World.setCell (World.setCell (World.setCell (World.setCell (World.setCell _ _ _) _ _) _ _) _ _) _ _) _ _) _ _=W7 at g7 x7 ⊢
        have c7:=g7.cells
        exact bodyPost_ret (v:=oneRD (docWs line (a :: k :: t :: c :: rest))) (by rw [e1h.out];simp [results,Tryd.results13,go_sem,oneRD,encE,ev0,c7]) rfl ⟨rfl,x7⟩
theorem one45 (line:Bs)(w:World)(hl:line.length<=10000):Calls Tryd.prog 13 #[.string ⟨line.toArray⟩] w fun e w'=>e=.returned (oneRD (docOne line))/\Ext w w':=by
 have hc:∀ W,Calls Tryd.prog 28 #[.string ⟨line.toArray⟩,.int .u8 32] W fun e w'=>∃ g cap,e=.returned (.slice (some ⟨g,0,none⟩) (cutP 32 line []).length cap)/\Ext W w'/\(cutP 32 line []).length<=cap/\W.heap.size<=g/\WordsAt w' g 0 (cutP 32 line []):=fun W=>by
  refine (cut45 line 32 W hl).mono ?_
  rintro e w' ⟨v,rfl,hx,hrow⟩
  obtain⟨g,cap,rfl,hg,hcap,hW⟩:=words_of_row hrow (cutP_ne _ _ _)
  exact⟨g,cap,rfl,hx,hcap,hg,hW⟩
 unfold docOne
 generalize cutP 32 line []=ws at *
 by_cases hb:ws.length<4∨6<ws.length
 · have e1:docWs line ws=none:=by
    match ws,hb with
    | [],_=>rfl
    | [_],_=>rfl
    | [_,_],_=>rfl
    | [_,_,_],_=>rfl
    | a :: k :: t :: c :: rest,hb =>
      show (if rest.length<=2/\fineE (docE a k t c rest)=true/\lineE (docE a k t c rest)=line then some (docE a k t c rest) else none)=_
      rw [if_neg]
      rintro ⟨h,-⟩
      simp at hb
      omega
   rw [e1]
   exact one45_bad line ws w (fun W=>(hc W).mono fun e w' ⟨g,cap,h1,h2,_⟩=>⟨g,cap,h1,h2⟩) hb
 · match ws,hb,hc with
   | [],hb,_=>exact absurd (.inl (by simp)) hb
   | [_],hb,_=>exact absurd (.inl (by simp)) hb
   | [_,_],hb,_=>exact absurd (.inl (by simp)) hb
   | [_,_,_],hb,_=>exact absurd (.inl (by simp)) hb
   | a :: k :: t :: c :: rest,hb,hc =>
     exact one45_mid line a k t c rest w hc (by simp at hb;omega)
end Go.Proofs.YtchahoiainbcaaaDoor
namespace Kv
def evA:Ev:=⟨3,2,0,1,0,9,0⟩
def strA:Bs:=[51,32,114,101,116,117,114,110,32,48,32,49,32,57,32,48]
theorem fineA:fineE evA=true:=by decide
theorem lineA:lineE evA=strA:=by
 have d0:digits 0=[48]:=by rw [digits,Go.Lib.itoa];simp [Go.Lib.decDigits]
 have d1:digits 1=[49]:=by rw [digits,Go.Lib.itoa];simp [Go.Lib.decDigits]
 have d3:digits 3=[51]:=by rw [digits,Go.Lib.itoa];simp [Go.Lib.decDigits]
 have d9:digits 9=[57]:=by rw [digits,Go.Lib.itoa];simp [Go.Lib.decDigits]
 simp only [lineE,wordsE,evA,d0,d1,d3,d9]
 rfl
theorem oneA:oneE strA=some evA:=by rw [<- lineA];exact one_line fineA
def strA2:Bs:=[51,32,114,101,116,117,114,110,32,48,32,49,32,57,32,48,10,120,10]
theorem linesA:linesL strA2=[(strA,true),([120],true)]:=by decide
theorem oneX:oneE [120]=none:=by decide
def strB:Bs:=[49,32,110,111,116,101,32,48,32,48,32,105,110,10]
def strB1:Bs:=[49,32,110,111,116,101,32,48,32,48,32,105,110]
theorem linesB:linesL strB=[(strB1,true)]:=by decide
theorem oneB:oneE strB1=some ⟨1,3,0,0,3,0,0⟩:=by decide
end Kv
namespace Go.Proofs.YtchahoiainbcaaaDoor
open Go.RowKit Kv
@[go_sem] theorem eql_event (a k t c v x y a' k' t' c' v' x' y':Int) (w:World):(binOp .eql 26 (.agg #[.int .i64 a,.int .i64 k,.int .i64 t,.int .i64 c,.int .i64 v,.int .i64 x,.int .i64 y]) (.agg #[.int .i64 a',.int .i64 k',.int .i64 t',.int .i64 c',.int .i64 v',.int .i64 x',.int .i64 y'])).run Tryd.prog w=.ok (.bool (decide (a=a'/\k=k'/\t=t'/\c=c'/\v=v'/\x=x'/\y=y'))) w:=by
 rw [run_eql_struct,run_equalIn_struct w 9999 26 _ _ (by kernel_rfl) (by kernel_rfl)]
 have hu:Tryd.prog.underlying 3=some (.int .i64):=Tryd.underlying3
 simp only [Program.fieldsOf,Tryd.underlying26,Op.eqFields]
 simp [go_sem,run_equalIn_int,hu]
 by_cases ha:a=a'
 rotate_left
 · simp [ha]
 by_cases hk:k=k'
 rotate_left
 · simp [hk]
 by_cases ht:t=t'
 rotate_left
 · simp [ht]
 by_cases hc:c=c'
 rotate_left
 · simp [hc]
 by_cases hv:v=v'
 rotate_left
 · simp [hv]
 by_cases hx:x=x'
 rotate_left
 · simp [hx]
 by_cases hy:y=y'
 rotate_left
 · simp [hy]
 simp [ha,hk,ht,hc,hv,hx,hy]
theorem line_a (w:World)(T:Tabs w):Calls Tryd.prog 5 #[.agg #[.int .i64 3,.int .i64 2,.int .i64 0,.int .i64 1,.int .i64 0,.int .i64 9,.int .i64 0]] w fun r w'=>r=.returned (.tuple #[.string ⟨#[51,32,114,101,116,117,114,110,32,48,32,49,32,57,32,48]⟩,.int .i64 0])/\Ext w w':=by
 have h:=line_yes evA w T fineA
 rw [lineA] at h
 exact h
theorem one_a (w:World)(M:MaxI w):Calls Tryd.prog 9 #[.string ⟨#[51,32,114,101,116,117,114,110,32,48,32,49,32,57,32,48]⟩] w fun r w'=>r=.returned (.tuple #[.agg #[.int .i64 3,.int .i64 2,.int .i64 0,.int .i64 1,.int .i64 0,.int .i64 9,.int .i64 0],.int .i64 0])/\Ext w w':=by
 have h:=one_p strA w (by decide) M
 rw [oneA] at h
 exact h
theorem parse_a (w:World)(M:MaxI w):Calls Tryd.prog 11 #[.string ⟨#[51,32,114,101,116,117,114,110,32,48,32,49,32,57,32,48,10,120,10]⟩] w fun r w'=>r=.returned (.tuple #[.slice none 0 0,.int .i64 2,.int .i64 3])/\Ext w w':=by
 refine (parse_p strA2 w (by decide) (by decide) M).mono ?_
 rintro e w' ⟨v,n,err,rfl,hx,h⟩
 rw [linesA] at h
 rcases h with⟨hok,_⟩ | ⟨pre,x,post,he,hok,hno,rfl,rfl,rfl⟩
 · have:=(hok ([120],true) (by simp)).1
   rw [oneX] at this
   cases this
 · refine⟨?_,hx⟩
   match pre,he with
   | [],he =>
     simp only [List.nil_append,List.cons.injEq] at he
     obtain⟨rfl,_⟩:=he
     exact absurd ⟨by rw [oneA];rfl,rfl⟩ hno
   | [_],_=>rfl
   | _ :: _ :: _,he=>exact absurd (congrArg List.length he) (by simp)
theorem parse_b (w:World)(M:MaxI w):Calls Tryd.prog 11 #[.string ⟨#[49,32,110,111,116,101,32,48,32,48,32,105,110,10]⟩] w fun r w'=>∃ g cap,r=.returned (.tuple #[.slice (some ⟨g,0,none⟩) 1 cap,.int .i64 0,.int .i64 0])/\Ext w w'/\w'.cell? ⟨g,4,none⟩=some (.int .i64 3):=by
 refine (parse_p strB w (by decide) (by decide) M).mono ?_
 rintro e w' ⟨v,n,err,rfl,hx,h⟩
 rw [linesB] at h
 rcases h with⟨hok,rfl,rfl,_,h⟩ | ⟨pre,x,post,he,hok,hno,rfl,rfl,rfl⟩
 · rcases h with⟨_,h⟩ | ⟨g,cap,cur,rfl,_,hh,_,_,hsz,hcur⟩
   · cases h
   · refine⟨g,cap,rfl,hx,?_⟩
     have e1:(evsOf [(strB1,true)]).flatMap evVals=[.int .i64 1,.int .i64 3,.int .i64 0,.int .i64 0,.int .i64 3,.int .i64 0,.int .i64 0]:=by simp [evsOf,oneB,evVals]
     rw [e1] at hcur
     rw [cell_of_heap hh 4]
     have h4:(cur.toList.take (1*7))[4]?=some (.int .i64 3):=by
      rw [show ([(strB1,true)]:List (Bs × Bool)).length=1 from rfl] at hcur
      rw [hcur];rfl
     simpa using h4
 · exfalso
   match pre,he with
   | [],he =>
     simp only [List.nil_append,List.cons.injEq] at he
     obtain⟨rfl,_⟩:=he
     exact absurd ⟨by rw [oneB];rfl,rfl⟩ hno
   | _ :: _,he=>exact absurd (congrArg List.length he) (by simp)
set_option maxRecDepth 100000 in
set_option maxHeartbeats 2000000 in
theorem alive45_p (w:World)(T:Tabs w)(M:MaxI w):Calls Tryd.prog 8 #[] w fun r w'=>r=.returned (.bool true)/\Ext w w':=by
 have sadd:=fun W=>run_string_add_lists (P:=Tryd.prog) W [51,32,114,101,116,117,114,110,32,48,32,49,32,57,32,48] [10,120,10] (by decide) (by decide)
 have bE:=Blk.new w (.cells #[.int .i64 3,.int .i64 2,.int .i64 0,.int .i64 1,.int .i64 0,.int .i64 9,.int .i64 0] 26)
 have hX:=(Ext.refl w).alloc (.cells #[.int .i64 3,.int .i64 2,.int .i64 0,.int .i64 1,.int .i64 0,.int .i64 9,.int .i64 0] 26)
 have hz:w.heap.size<(w.alloc (.cells #[.int .i64 3,.int .i64 2,.int .i64 0,.int .i64 1,.int .i64 0,.int .i64 9,.int .i64 0] 26)).heap.size:=bE.lt
 go_enter Tryd.func8,Tryd.ntmps8
 go_wp2_with fail
 refine (line_a _ (T.ext hX)).mono ?_
 rintro e w2 ⟨rfl,hx⟩
 replace bE:=bE.ext hx
 replace hX:=hX.trans hx
 clear hx hz
 go_wp2_with fail
 refine (one_a _ (M.ext hX)).mono ?_
 rintro e w3 ⟨rfl,hx⟩
 have hy:=hx.alloc (.cells #[.int .i64 3,.int .i64 2,.int .i64 0,.int .i64 1,.int .i64 0,.int .i64 9,.int .i64 0] 26)
 have bB:=Blk.new w3 (.cells #[.int .i64 3,.int .i64 2,.int .i64 0,.int .i64 1,.int .i64 0,.int .i64 9,.int .i64 0] 26)
 replace bE:=bE.ext hy
 replace hX:=hX.trans hy
 clear hx hy
 go_wp2_with fail
 generalize World.alloc w3 _=w4 at *
 generalize w3.heap.size=z at *
 refine (parse_a _ (M.ext hX)).mono ?_
 rintro e w5 ⟨rfl,hx⟩
 replace bE:=bE.ext hx
 replace bB:=bB.ext hx
 replace hX:=hX.trans hx
 clear hx
 go_wp2_with fail
 refine (parse_b _ (M.ext hX)).mono ?_
 rintro e w6 ⟨g,cap,rfl,hx,c4⟩
 replace bE:=bE.ext hx
 replace bB:=bB.ext hx
 replace hX:=hX.trans hx
 clear hx sadd
 have cE:=bE.cells
 have cB:=bB.cells
 clear bE bB
 go_wp2_with fail
 go_ret
 exact⟨rfl,hX⟩
def EvsAt (w:World) (A:Option Addr) (es:List Ev):Prop:=es≠[]->∃ b,A=some ⟨b,0,none⟩/\∀ (i:Nat) u,(es.flatMap evVals)[i]?=some u->w.cell? ⟨b,i,none⟩=some u
theorem ev_cells {es:List Ev}{j:Nat}{e:Ev}(h:es[j]?=some e)(i:Nat)(hi:i<7):(es.flatMap evVals)[j*7+i]?=(evVals e)[i]?:=by
 induction es generalizing j with
 | nil=>simp at h
 | cons x es ih =>
   rw [List.flatMap_cons]
   cases j with
   | zero =>
     simp only [List.getElem?_cons_zero,Option.some.injEq] at h
     subst h
     rw [Nat.zero_mul,Nat.zero_add,List.getElem?_append_left (by simp [evVals];omega)]
   | succ j =>
     rw [List.getElem?_cons_succ] at h
     rw [List.getElem?_append_right (by simp [evVals];omega),<- ih h]
     congr 1
     simp [evVals]
     omega
set_option maxRecDepth 100000 in
set_option maxHeartbeats 2000000 in
theorem same42 (es:List Ev)(A B:Option Addr)(c d:Nat)(w:World)(hA:EvsAt w A es)(hB:EvsAt w B es)(hl:es.length<=100000)(_hc:es.length<=c)(_hd:es.length<=d) :
  Calls Tryd.prog 14 #[.slice A es.length c,.slice B es.length d] w fun r w'=>r=.returned (.bool true)/\Ext w w':=by
 go_enter Tryd.func14,Tryd.ntmps14
 go_wp2_with fail
 go_loopw [5] (fun i wr=>∃ j:Nat,i=.int .i64 j/\j<=es.length/\Ext w wr) (fun i _=>es.length-(intOf i).toNat)
 case atStart=>exact⟨0,rfl,by omega,Ext.refl _⟩
 case round =>
  obtain⟨j,rfl,hj,hx⟩:=hrel
  by_cases hlt:j<es.length
  · have hne:es≠[]:=fun e=>by rw [e] at hlt;simp at hlt
    obtain⟨b,rfl,hb⟩:=hA hne
    obtain⟨b',rfl,hb'⟩:=hB hne
    have hat:es[j]?=some es[j]:=List.getElem?_eq_getElem hlt
    generalize es[j]=e at hat
    obtain⟨x0,x1,x2,x3,x4,x5,x6⟩:=e
    have p0:wr.drew.cell? ⟨b,j*7+0,none⟩=some (.int .i64 x0):=(hx.cell (p:=⟨b,j*7+0,none⟩) (World.block_lt_of_cell? w _ (hb _ _ (ev_cells hat 0 (by omega))))).trans (hb _ _ (ev_cells hat 0 (by omega)))
    have p1:wr.drew.cell? ⟨b,j*7+1,none⟩=some (.int .i64 x1):=(hx.cell (p:=⟨b,j*7+1,none⟩) (World.block_lt_of_cell? w _ (hb _ _ (ev_cells hat 1 (by omega))))).trans (hb _ _ (ev_cells hat 1 (by omega)))
    have p2:wr.drew.cell? ⟨b,j*7+2,none⟩=some (.int .i64 x2):=(hx.cell (p:=⟨b,j*7+2,none⟩) (World.block_lt_of_cell? w _ (hb _ _ (ev_cells hat 2 (by omega))))).trans (hb _ _ (ev_cells hat 2 (by omega)))
    have p3:wr.drew.cell? ⟨b,j*7+3,none⟩=some (.int .i64 x3):=(hx.cell (p:=⟨b,j*7+3,none⟩) (World.block_lt_of_cell? w _ (hb _ _ (ev_cells hat 3 (by omega))))).trans (hb _ _ (ev_cells hat 3 (by omega)))
    have p4:wr.drew.cell? ⟨b,j*7+4,none⟩=some (.int .i64 x4):=(hx.cell (p:=⟨b,j*7+4,none⟩) (World.block_lt_of_cell? w _ (hb _ _ (ev_cells hat 4 (by omega))))).trans (hb _ _ (ev_cells hat 4 (by omega)))
    have p5:wr.drew.cell? ⟨b,j*7+5,none⟩=some (.int .i64 x5):=(hx.cell (p:=⟨b,j*7+5,none⟩) (World.block_lt_of_cell? w _ (hb _ _ (ev_cells hat 5 (by omega))))).trans (hb _ _ (ev_cells hat 5 (by omega)))
    have p6:wr.drew.cell? ⟨b,j*7+6,none⟩=some (.int .i64 x6):=(hx.cell (p:=⟨b,j*7+6,none⟩) (World.block_lt_of_cell? w _ (hb _ _ (ev_cells hat 6 (by omega))))).trans (hb _ _ (ev_cells hat 6 (by omega)))
    have q0:wr.drew.cell? ⟨b',j*7+0,none⟩=some (.int .i64 x0):=(hx.cell (p:=⟨b',j*7+0,none⟩) (World.block_lt_of_cell? w _ (hb' _ _ (ev_cells hat 0 (by omega))))).trans (hb' _ _ (ev_cells hat 0 (by omega)))
    have q1:wr.drew.cell? ⟨b',j*7+1,none⟩=some (.int .i64 x1):=(hx.cell (p:=⟨b',j*7+1,none⟩) (World.block_lt_of_cell? w _ (hb' _ _ (ev_cells hat 1 (by omega))))).trans (hb' _ _ (ev_cells hat 1 (by omega)))
    have q2:wr.drew.cell? ⟨b',j*7+2,none⟩=some (.int .i64 x2):=(hx.cell (p:=⟨b',j*7+2,none⟩) (World.block_lt_of_cell? w _ (hb' _ _ (ev_cells hat 2 (by omega))))).trans (hb' _ _ (ev_cells hat 2 (by omega)))
    have q3:wr.drew.cell? ⟨b',j*7+3,none⟩=some (.int .i64 x3):=(hx.cell (p:=⟨b',j*7+3,none⟩) (World.block_lt_of_cell? w _ (hb' _ _ (ev_cells hat 3 (by omega))))).trans (hb' _ _ (ev_cells hat 3 (by omega)))
    have q4:wr.drew.cell? ⟨b',j*7+4,none⟩=some (.int .i64 x4):=(hx.cell (p:=⟨b',j*7+4,none⟩) (World.block_lt_of_cell? w _ (hb' _ _ (ev_cells hat 4 (by omega))))).trans (hb' _ _ (ev_cells hat 4 (by omega)))
    have q5:wr.drew.cell? ⟨b',j*7+5,none⟩=some (.int .i64 x5):=(hx.cell (p:=⟨b',j*7+5,none⟩) (World.block_lt_of_cell? w _ (hb' _ _ (ev_cells hat 5 (by omega))))).trans (hb' _ _ (ev_cells hat 5 (by omega)))
    have q6:wr.drew.cell? ⟨b',j*7+6,none⟩=some (.int .i64 x6):=(hx.cell (p:=⟨b',j*7+6,none⟩) (World.block_lt_of_cell? w _ (hb' _ _ (ev_cells hat 6 (by omega))))).trans (hb' _ _ (ev_cells hat 6 (by omega)))
    have i1:(j:Int)<(es.length:Int):=by omega
    go_upto_region 6 with fail
    refine wp_region_held_drew (S:=fun w'=>w'.cell? ⟨b,j*7,none⟩=some (.int .i64 x0)/\w'.cell? ⟨b,j*7+1,none⟩=some (.int .i64 x1)/\w'.cell? ⟨b,j*7+2,none⟩=some (.int .i64 x2)/\w'.cell? ⟨b,j*7+3,none⟩=some (.int .i64 x3)/\w'.cell? ⟨b,j*7+4,none⟩=some (.int .i64 x4)/\w'.cell? ⟨b,j*7+5,none⟩=some (.int .i64 x5)/\w'.cell? ⟨b,j*7+6,none⟩=some (.int .i64 x6)/\w'.cell? ⟨b',j*7,none⟩=some (.int .i64 x0)/\w'.cell? ⟨b',j*7+1,none⟩=some (.int .i64 x1)/\w'.cell? ⟨b',j*7+2,none⟩=some (.int .i64 x2)/\w'.cell? ⟨b',j*7+3,none⟩=some (.int .i64 x3)/\w'.cell? ⟨b',j*7+4,none⟩=some (.int .i64 x4)/\w'.cell? ⟨b',j*7+5,none⟩=some (.int .i64 x5)/\w'.cell? ⟨b',j*7+6,none⟩=some (.int .i64 x6)) rfl ⟨p0,p1,p2,p3,p4,p5,p6,q0,q1,q2,q3,q4,q5,q6⟩ (fun hHeld=>?_)
    refine tkb 0 ?_
    iterate 9
     refine tkn (v:=?_) rfl (by kernel_rfl) (fun _ _ _ h=>h) (by assumption) ?_ ?_
     rotate_left
     · (intro w hSw;(try dsimp only at hSw);go_simp;try with_reducible rfl)
     try simp only [put_pack]
    refine tke ?_
    refine wpAnyH_done (by kernel_rfl) ?_ _
    go_simp
    go_wp2_with fail
    refine⟨⟨j+1,by go_num,by omega,hx.drew⟩,?_⟩
    simp [intOf];omega
  · obtain rfl:j=es.length:=by omega
    go_wp2_with fail
    go_ret
    exact⟨rfl,hx⟩
end Go.Proofs.YtchahoiainbcaaaDoor
