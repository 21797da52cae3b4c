/-
  YangPlaysSaid: part 2 of its proof.
-/
import Derived.Test.YtbphlkaihfbgeaaGreatJYangPlaysSaid1
import Derived.Shelf.Abstract
namespace Go.Proofs.YtbphlkaihfbgeaaGreat
open Go.RowKit Kv
attribute [local go_sem] Oper.semAt_some
theorem leavesM_ret0 {P:Program}{fn:Func}{tmps:Array Value}{R:Ending->World->Prop}{v:Value}{w:World}(hr:(results fn tmps).run P w=.ok v w)(h:R (.returned v) w) :
  LeavesInM Fence.wide 0 P fn tmps R [] .returning w:=⟨v,hr,h⟩
theorem leavesM_panic0 {P:Program}{fn:Func}{tmps:Array Value}{R:Ending->World->Prop}{c:List PanicEntry}{w:World}(h:R (.panicked c) w) :
  LeavesInM Fence.wide 0 P fn tmps R [] (.panicking c) w:=h
theorem leavesM_cons {P:Program}{fn:Func}{tmps:Array Value}{R:Ending->World->Prop}{u:FrameMode}{w:World}{D:Nat}{ds:List Deferred}(hu:u≠.run)(hD:w.heap[D]?=some (.deferred (some [])))
  (h:LeavesInM Fence.wide 0 P fn tmps R ds u (w.putObj D (.deferred none))):LeavesInM Fence.wide 0 P fn tmps R ({ target:=.collected D,args:=#[] } :: ds) u w :=
 ⟨hu,.inl ⟨D,_,rfl,run_takeDeferred hD,h⟩⟩
theorem round_stop {α:Type}{enc:α->Value}{B p:Nat}{w w':World}{r:Option α × TS}(h:Post enc B p w r (stopE p) w'):∃ S,r=(none,S)/\Stops B w' p S/\KeepP B p w w':=by
 obtain⟨o,S⟩:=r
 cases o with
 | some v=>obtain⟨h,_⟩:=h;cases h
 | none=>exact⟨S,rfl,h.2.1,h.2.2⟩
theorem ranks_mem (but:Int):∀ (n:Nat) (i y:Int),y∈ranksFrom but n i->i<=y/\y<i+n/\y≠but
 | 0,i,y,h=>by simp [ranksFrom] at h
 | n+1,i,y,h=>by
   simp only [ranksFrom] at h
   split at h
   · have:=ranks_mem but n (i+1) y h;omega
   · rename_i hne
     rcases List.mem_cons.1 h with rfl | h
     · omega
     · have:=ranks_mem but n (i+1) y h;omega
theorem pack_clamp (a v top:Int):packI a (clamp v (clamp top 1048576)) (clamp top 1048576)=packI a v (clamp top 1048576):=by
 unfold packI
 have h:=room_bd top
 have e:room (clamp top 1048576)=clamp top 1048576:=by
  rw [clamp_room]
  unfold room within at *
  omega
 rw [e]
 congr 1
 unfold clamp within
 omega
theorem ranks_p (k but:Int)(w:World):Calls Tryz.prog 117 #[.int .i64 k,.int .i64 but] w fun e w' =>
  e=.returned (.func (.func 143) #[] #[.pointer (some ⟨w.heap.size,0,none⟩),.pointer (some ⟨w.heap.size+1,0,none⟩)])/\w'=(w.alloc (.cells #[.int .i64 k] 3)).alloc (.cells #[.int .i64 but] 3):=by
 go_enter Tryz.func117,Tryz.ntmps117
 go_wp2_with fail
 go_ret
 exact⟨rfl,rfl⟩
theorem table_write_p (B p:Nat)(S:TS)(r:Reg)(me v:Int)(w:World)(h:Plays B w p S)(hn1:1<=r.n)(hn2:r.n<=8)(hw1:0<=r.wr)(hw2:r.wr<r.n)(hb1:0<=r.base)(hb2:r.base<=56000)(hl1:0<=r.loc)(hl2:r.loc<=56000) :
  Calls Tryz.prog 76 #[.pointer (some ⟨p,0,none⟩),encR r,.int .i64 me,.int .i64 v] w (Post encU B p w ((tableW r.base r.loc r.n r.wr r.top me v).run S)):=by
 generalize hR:Post encU B p w ((tableW r.base r.loc r.n r.wr r.top me v).run S)=R
 have hO:Owes R encU B p w ((tableW r.base r.loc r.n r.wr r.top me v).run S):=hR▸owes _ _ _ _ _
 clear hR
 obtain⟨kind,base,loc,n,wr,rd,top⟩:=r
 simp only at hn1 hn2 hw1 hw2 hb1 hb2 hl1 hl2 hO
 unfold encR
 obtain⟨b1,b2,hK,hP⟩:=h.entry2 (.cells #[.pointer (some ⟨p,0,none⟩)] 39) (.cells #[.int .i64 kind,.int .i64 base,.int .i64 loc,.int .i64 n,.int .i64 wr,.int .i64 rd,.int .i64 top] 87)
 have c_b1:=b1.cells
 have c_b2:=b2.cells
 have hBw:=Lib.hid h.le
 clear h
 unfold tableW at hO
 refine calls_of_wpF Tryz.func76 rfl ?_
 simp only [Tryz.ntmps76,List.size_toArray,List.length_cons,List.length_nil,Nat.reduceAdd,Nat.reduceSub,Array.replicate_succ,Array.replicate_zero,List.push_toArray,List.append_toArray,List.nil_append,List.cons_append]
 refine wpF_step fun K hK2=>?_
 go_wp2_with fail
 refine wpF_step fun K hK2=>?_
 by_cases hme:me=wr
 · rw [if_neg (by simpa using hme)] at hO
   subst hme
   go_wp2_with fail
   refine (writer_p ⟨kind,base,loc,n,me,rd,top⟩ _ hn1 hn2 hw1 hw2).mono ?_
   rintro e w2 ⟨rfl,hx⟩
   clear c_b1 c_b2
   replace hK:=hK.trans (Keep.of_ext hx hP.lt hP.le)
   replace b1:=b1.ext hx hP.lt
   have c_b1:=b1.cells
   replace b2:=b2.ext hx hP.lt
   have c_b2:=b2.cells
   replace hP:=hP.ext hx
   clear hx
   go_wp2_with fail
   refine wpF_step fun K hK2=>?_
   go_wp2_with fail
   refine (clamp_p _ _ _).mono ?_
   rintro e w' ⟨rfl,rfl⟩
   go_wp2_with fail
   refine wpF_step fun K hK2=>?_
   go_wp2_with fail
   refine (clamp_p _ _ _).mono ?_
   rintro e w' ⟨rfl,rfl⟩
   go_wp2_with fail
   refine wpF_step fun K hK2=>?_
   go_wp2_with fail
   refine (get_p B p S (loc) _ hP).mono ?_
   rintro e w' ⟨rfl,rfl⟩
   rw [run_gt] at hO
   generalize S.got (loc)=s at hO ⊢
   go_wp2_with fail
   refine wpF_step fun K hK2=>?_
   go_wp2_with fail
   refine tstep hO hK (setO hP) (fun _ h=>h) ?_
   clear hO hK hP c_b1 c_b2
   intro u S w1 hr hP hk hK hO
   replace b1:=b1.keep hk
   have c_b1:=b1.cells
   replace b2:=b2.keep hk
   have c_b2:=b2.cells
   clear hk hr
   go_wp2_with fail
   refine wpF_step fun K hK2=>?_
   go_wp2_with fail
   refine (pack_p _ _ _ _).mono ?_
   rintro e w' ⟨rfl,rfl⟩
   go_wp2_with fail
   have b3:=hP.held (.cells #[.int .i64 (packI (wrap64 (s+1)) (clamp v (clamp top 1048576)) (clamp top 1048576))] 3)
   clear c_b1 c_b2
   replace b1:=b1.alloc (.cells #[.int .i64 (packI (wrap64 (s+1)) (clamp v (clamp top 1048576)) (clamp top 1048576))] 3) hP.lt
   replace b2:=b2.alloc (.cells #[.int .i64 (packI (wrap64 (s+1)) (clamp v (clamp top 1048576)) (clamp top 1048576))] 3) hP.lt
   replace hK:=hK.trans (Keep.alloc (.cells #[.int .i64 (packI (wrap64 (s+1)) (clamp v (clamp top 1048576)) (clamp top 1048576))] 3) hP.lt hP.le)
   replace hP:=hP.alloc (.cells #[.int .i64 (packI (wrap64 (s+1)) (clamp v (clamp top 1048576)) (clamp top 1048576))] 3)
   have c_b1:=b1.cells
   have c_b2:=b2.cells
   have c_b3:=b3.cells
   refine wpF_seq (wpF_step fun K hK2=>?_)
   go_wp2_with fail
   refine (threads_p n _ hn1 hn2).mono ?_
   rintro e w' ⟨rfl,rfl⟩
   go_wp2_with fail
   refine (ranks_p _ _ _).mono ?_
   rintro e w2 ⟨rfl,rfl⟩
   go_wp2_with fail
   have b4:=hP.held (.cells #[.int .i64 (n-1)] 3)
   clear c_b1 c_b2 c_b3
   replace b1:=b1.alloc (.cells #[.int .i64 (n-1)] 3) hP.lt
   replace b2:=b2.alloc (.cells #[.int .i64 (n-1)] 3) hP.lt
   replace b3:=b3.alloc (.cells #[.int .i64 (n-1)] 3) hP.lt
   replace hK:=hK.trans (Keep.alloc (.cells #[.int .i64 (n-1)] 3) hP.lt hP.le)
   replace hP:=hP.alloc (.cells #[.int .i64 (n-1)] 3)
   have c_b1:=b1.cells
   have c_b2:=b2.cells
   have c_b3:=b3.cells
   have c_b4:=b4.cells
   have b5:=hP.held (.cells #[.int .i64 (-1)] 3)
   clear c_b1 c_b2 c_b3 c_b4
   replace b1:=b1.alloc (.cells #[.int .i64 (-1)] 3) hP.lt
   replace b2:=b2.alloc (.cells #[.int .i64 (-1)] 3) hP.lt
   replace b3:=b3.alloc (.cells #[.int .i64 (-1)] 3) hP.lt
   replace b4:=b4.alloc (.cells #[.int .i64 (-1)] 3) hP.lt
   replace hK:=hK.trans (Keep.alloc (.cells #[.int .i64 (-1)] 3) hP.lt hP.le)
   replace hP:=hP.alloc (.cells #[.int .i64 (-1)] 3)
   have c_b1:=b1.cells
   have c_b2:=b2.cells
   have c_b3:=b3.cells
   have c_b4:=b4.cells
   have c_b5:=b5.cells
   simp only [World.size_alloc] at b5 c_b5
   simp only [World.size_alloc] at b4 c_b4
   rw [show packI (wrap64 (s+1)) v (clamp top 1048576)=packI (wrap64 (s+1)) (clamp v (clamp top 1048576)) (clamp top 1048576) from (pack_clamp _ _ _).symm] at hO
   generalize packI (wrap64 (s+1)) (clamp v (clamp top 1048576)) (clamp top 1048576)=x at *
   obtain⟨k,hk⟩:∃ k:Nat,n-1=(k:Int):=⟨(n-1).toNat,by omega⟩
   simp only [hk,Int.toNat_natCast] at hO b1 b2 b3 b4 b5 c_b1 c_b2 c_b3 c_b4 c_b5 hP hK ⊢
   have hk8:k<=8:=by omega
   have hsz:=Lib.hid hK.size
   generalize ((w1.alloc (.cells #[.int .i64 x] 3)).alloc (.cells #[.int .i64 (k:Int)] 3)).alloc (.cells #[.int .i64 (-1)] 3)=W0 at *
   generalize w1.heap.size=q at *
   refine wpF_block ?_
   refine' tape_range (T:=fun a _=>slotsW (base+16*a) (loc+(2+18*a)) x) (fin:=fun _=>st (loc+1) (clamp v (clamp top 1048576))) (xs:=ranksFrom (-1) k 0) (x:=()) Tryz.func76 rfl (enters_of Tryz.func143 (by kernel_rfl) rfl) rfl (ranks_gives k (-1) (q+1) (q+1+1) hk8)
    (fun _=>False) (fun _ _=>True) (fun _ h=>h.elim) hP.le (fun W hX=>⟨(KeepX.held b4 hX id).cells 0,(KeepX.held b5 hX id).cells 0⟩) (fun _ _ _ _ h=>h) (fun _ _ _ _ _ _ h=>h) hO hK hP trivial
    _ ?assign ?body ?done ?pan
   case assign =>
    intro l y W K hK
    gi_wp2
    exact hK
   case body =>
    intro l y u S W hy hPl hX _
    have hyb:=ranks_mem (-1) k 0 y hy
    have c1:=(KeepX.held b1 hX id)
    have c2:=(KeepX.held b2 hX id)
    have c3:=(KeepX.held b3 hX id)
    have hO:=owes encU B p W ((slotsW (base+16*y) (loc+(2+18*y)) x).run S)
    have hK:=Keep.refl [2,3,4] B p W
    have hP:=hPl
    clear hPl hX b1 b2 b3 b4 b5 c_b1 c_b2 c_b3 c_b4 c_b5
    have c_c1:=c1.cells
    have c_c2:=c2.cells
    have c_c3:=c3.cells
    refine wpIn_block ?_
    replace hP:=hP.drew
    replace hK:=hK.drew
    replace c1:=c1.drew
    replace c2:=c2.drew
    replace c3:=c3.drew
    refine wpIn_region_held (S:=fun W'=>(∀ i:Nat,W'.cell? ⟨w.heap.size,i,none⟩=(#[.pointer (some ⟨p,0,none⟩)]:Array Value)[i]?)/\(∀ i:Nat,W'.cell? ⟨w.heap.size+1,i,none⟩=(#[.int .i64 kind,.int .i64 base,.int .i64 loc,.int .i64 n,.int .i64 me,.int .i64 rd,.int .i64 top]:Array Value)[i]?)/\(∀ i:Nat,W'.cell? ⟨q,i,none⟩=(#[.int .i64 x]:Array Value)[i]?)) (by kernel_rfl) (by kernel_rfl) (fun _ _ h=>h) ⟨c_c1,c_c2,c_c3⟩ (fun hHeld=>?_)
    refine tkb 0 ?_
    iterate 3
     refine tkn (v:=?_) rfl (by kernel_rfl) (fun _ _ _ h=>h) (by assumption) ?_ ?_
     rotate_left
     · (intro w hSw;(try dsimp only at hSw);go_simp;try with_reducible rfl)
     try simp only [put_pack]
    refine tke ?_
    refine tk 4 (v:=?_) rfl (by kernel_rfl) (fun _ _ _ h=>h) (by assumption) ?_ ?_
    rotate_left
    · (intro w hSw;(try dsimp only at hSw);go_simp;try with_reducible rfl)
    try simp only [put_pack]
    refine wpAnyH_ready (rs:=[3]) (by kernel_rfl) (by simp) ?_
    refine AllReadyH.cons rfl (fun K hKK=>?_) (AllReadyH.nil)
    go_simp
    refine (tslot_p ⟨kind,base,loc,n,me,rd,top⟩ y _ (by omega) (by omega) hb1 (by simp only;omega) hl1 (by simp only;omega)).mono ?_
    rintro e w2 ⟨rfl,hx⟩
    clear c_c1 c_c2 c_c3
    replace hK:=hK.trans (Keep.of_ext hx hP.lt hP.le)
    replace c1:=c1.ext hx hP.lt
    have c_c1:=c1.cells
    replace c2:=c2.ext hx hP.lt
    have c_c2:=c2.cells
    replace c3:=c3.ext hx hP.lt
    have c_c3:=c3.cells
    replace hP:=hP.ext hx
    clear hx
    refine hKK.out _ _ ⟨c_c1,c_c2,c_c3⟩ (fun hHeld=>?_)
    clear hKK K
    try dsimp only
    refine wpAnyH_ready (rs:=[5]) (by kernel_rfl) (by simp) ?_
    refine AllReadyH.cons rfl (fun K hKK=>?_) (AllReadyH.nil)
    go_simp
    refine tlast hO hK (slots_write_p B p S ⟨5,base+16*y,loc+(2+18*y),n,me,rd,1099511627776⟩ x _ hP (by simp only;omega) (by simp only;omega) (by simp only;omega) (by simp only;omega)) (fun w' h=>⟨rfl,rfl,(round_stop h).imp fun S hS=>⟨hS.1,hS.2.1,hS.2.2.x _⟩⟩) ?_
    intro u2 S1 w5 hr hP1 hk1 hK1 hO1
    refine hKK.out _ _ ⟨(c1.keep hk1).cells,(c2.keep hk1).cells,(c3.keep hk1).cells⟩ (fun hHeld=>?_)
    refine wpAnyH_done (by kernel_rfl) ?_ _
    exact⟨u2,S1,hr,hP1,hK1.x _,trivial⟩
   case done =>
    intro u S W hO1 hX hP _ hD
    have c1:=(KeepX.held b1 hX id)
    have c2:=(KeepX.held b2 hX id)
    have hK1:KeepP B p w W:=KeepX.after hK hX (fun _ h=>h.elim)
    have hO:=owes_shut hO1 hK1 hD hK.size hBw.out
    have hK:=Keep.refl [2,3,4] B p W
    clear hO1 hX hK1 hD b1 b2 b3 b4 b5 c_b1 c_b2 c_b3 c_b4 c_b5
    have c_c1:=c1.cells
    have c_c2:=c2.cells
    generalize W0.heap.size=D at *
    show WpF _ _ _ _ _ _
    refine wpF_of_wp ?_
    go_wp2_with fail
    refine tlast hO hK (setO hP) (fun _ h=>leavesM_cons (fun hx=>nomatch hx) h.1 (leavesM_panic0 h.2)) ?_
    clear hO hK hP c_c1 c_c2
    intro u S w1 hr hP hk hK hO
    replace c1:=c1.keep hk
    have c_c1:=c1.cells
    replace c2:=c2.keep hk
    have c_c2:=c2.cells
    clear hk hr
    have hf:=hO.done hP hK
    go_wp2_with fail
    exact leavesM_cons (fun hx=>nomatch hx) hf.1 (leavesM_ret0 (results_none rfl _ _ _) hf.2)
   case pan =>
    intro S W c hc hO1 hX hS hD
    have hK1:KeepP B p w W:=KeepX.after hK hX (fun _ h=>h.elim)
    refine leavesM_cons (fun hx=>nomatch hx) hD.1 (leavesM_panic0 ?_)
    rw [<- hc]
    exact hO1.stop (hS.put _ hD.2 (by have:=hP.le;omega)) (hK1.put hK.size hD.2 hBw.out)
 · rw [if_pos hme] at hO
   have hme2:(me != wr)=true:=by simpa using hme
   go_wp2_with fail
   refine (writer_p ⟨kind,base,loc,n,wr,rd,top⟩ _ hn1 hn2 hw1 hw2).mono ?_
   rintro e w2 ⟨rfl,hx⟩
   clear c_b1 c_b2
   replace hK:=hK.trans (Keep.of_ext hx hP.lt hP.le)
   replace b1:=b1.ext hx hP.lt
   have c_b1:=b1.cells
   replace b2:=b2.ext hx hP.lt
   have c_b2:=b2.cells
   replace hP:=hP.ext hx
   clear hx
   go_wp2_with fail
   exact leavesM_ret0 (results_none rfl _ _ _) (hO.done hP hK)
end Go.Proofs.YtbphlkaihfbgeaaGreat
namespace Go.Proofs.YtbphlkaihfbgeaaGreat
open Go.RowKit Kv
attribute [local go_sem] Oper.semAt_some
structure OneB (l:Nat) (w w':World):Prop where
 os:w'.os=w.os
 tape:w'.tape=w.tape
 output:w'.output=w.output
 size:w'.heap.size=w.heap.size
 block:∀ k,k≠l->w'.heap[k]?=w.heap[k]?
theorem OneB.setCell (w:World)(b i:Nat)(v:Value):OneB b w (w.setCell ⟨b,i,none⟩ v):=⟨rfl,rfl,rfl,by simp,fun k hk=>heap_setCell_ne w v hk⟩
section
variable {X:Nat->Prop} {ix:List Nat} {B p l:Nat} {w w' w'':World} {S:TS}
theorem Keep.one (h:Keep ix B p w w')(o:OneB l w' w'')(hl:w.heap.size<=l)(hn:¬ ownR ix w' p l)(hB:B<=w.heap.size):Keep ix B p w w'':=by
 have hp:w''.heap[p]?=w'.heap[p]?:=o.block p (fun e=>hn (.inl e.symm))
 refine⟨⟨o.os.trans h.below.os,o.tape.trans h.below.tape,o.output.trans h.below.output,by rw [o.size];exact h.below.size,fun k hk=>(o.block k (by omega)).trans (h.below.block k hk)⟩,fun b hb ho=>?_⟩
 obtain⟨h1,h2⟩:=h.rest b hb ho
 exact⟨(o.block b (by omega)).trans h1,fun h'=>h2 ((ownR_same hp b).1 h')⟩
theorem KeepX.oneX (h:KeepX X ix B p w w')(o:OneB l w' w'')(hx:X l)(hn:¬ ownR ix w' p l)(hB:B<=l):KeepX X ix B p w w'':=by
 have hp:w''.heap[p]?=w'.heap[p]?:=o.block p (fun e=>hn (.inl e.symm))
 refine⟨⟨o.os.trans h.below.os,o.tape.trans h.below.tape,o.output.trans h.below.output,by rw [o.size];exact h.below.size,fun k hk=>(o.block k (by omega)).trans (h.below.block k hk)⟩,fun b hb ho hxb=>?_⟩
 obtain⟨h1,h2⟩:=h.rest b hb ho hxb
 exact⟨(o.block b (fun e=>hxb (e▸hx))).trans h1,fun h'=>h2 ((ownR_same hp b).1 h')⟩
theorem Held.one {b:Nat}{ob:Obj}(h:Held ix w p b ob)(o:OneB l w w')(hb:b≠l)(hn:¬ ownR ix w p l):Held ix w' p b ob :=
 ⟨(o.block b hb).trans h.1,fun h'=>h.2 ((ownR_same (o.block p (fun e=>hn (.inl e.symm))) b).1 h')⟩
theorem Held.set1 {b:Nat}{u:Value}{t:TypeId}(h:Held ix w p b (.cells #[u] t (0,0)))(v:Value):Held ix (w.setCell ⟨b,0,none⟩ v) p b (.cells #[v] t (0,0)) :=
 ⟨heap_setCell h.1 v,fun h'=>h.2 ((ownR_same ((OneB.setCell w b 0 v).block p (fun e=>h.2 (.inl e.symm))) b).1 h')⟩
theorem PMem.one {st:Int}{vA vL vC vN:Value}{L:List Int}(h:PMem B w p S st vA vL vC vN L)(o:OneB l w w')(hn:¬ ownR [2,3,4] w p l)(hB:B<=l):PMem B w' p S st vA vL vC vN L :=
 { h with
  heap:=(o.block p (fun e=>hn (.inl e.symm))).trans h.heap
  ans:=by
   obtain⟨A,c,rfl,h1,h2,h3⟩:=h.ans
   refine⟨A,c,rfl,h1,h2,fun hl=>?_⟩
   obtain⟨b,off,rfl,hb,hc⟩:=h3 hl
   have hbB:=h.ansB b rfl
   refine⟨b,off,rfl,by rw [o.size];exact hb,fun i x hi=>?_⟩
   rw [<- hc i x hi]
   exact World.cell?_of_block (w:=w) (o.block b (show b≠l by omega))
  rowL:=h.rowL.kept (row:=some l) ⟨o.os,o.tape,o.output,by rw [o.size];exact Nat.le_refl _,fun k _ hk=>o.block k (fun e=>hk (by rw [e]))⟩ (.inr (fun e=>hn (ownR_at h.heap (by simp) (i:=2) rfl e)))
  rowC:=h.rowC.kept (row:=some l) ⟨o.os,o.tape,o.output,by rw [o.size];exact Nat.le_refl _,fun k _ hk=>o.block k (fun e=>hk (by rw [e]))⟩ (.inr (fun e=>hn (ownR_at h.heap (by simp) (i:=3) rfl e)))
  rowN:=h.rowN.kept (row:=some l) ⟨o.os,o.tape,o.output,by rw [o.size];exact Nat.le_refl _,fun k _ hk=>o.block k (fun e=>hk (by rw [e]))⟩ (.inr (fun e=>hn (ownR_at h.heap (by simp) (i:=4) rfl e))) }
theorem Plays.one (h:Plays B w p S)(o:OneB l w w')(hn:¬ ownR [2,3,4] w p l)(hB:B<=l):Plays B w' p S:=by
 obtain⟨h0,vA,vL,vC,vN,L,h⟩:=h
 exact⟨h0,vA,vL,vC,vN,L,h.one o hn hB⟩
end
theorem unpack_x (x top:Int)(w:World) :
  Calls Tryz.prog 128 #[.int .i64 x,.int .i64 top] w fun e w'=>e=.returned (.tuple #[.int .i64 (unHi x top),.int .i64 (unLo x top)])/\Ext w w':=(unpack_p x top w).mono fun _ _ h=>⟨h.1,h.2.ext⟩
def cutQ (M:Act->World->Prop) (R:Ending->World->Prop):Exit->Act->World->Prop
 | .normal,a,w=>M a w
 | .panic c,a,w=>a.defers=[]/\R (.panicked c) w
 | _,_,_=>False
theorem wpF_cut {P:Program}{f:FuncId}{x y:Code}{fn:Func}{R:Ending->World->Prop}{a:Act}{w:World}(M:Act->Act->World->Prop)(h1:x.wp P (cutQ (M a) R) a w)
  (h2:∀ a' w',M a a' w'->WpF P f y (bodyPostM Fence.wide 0 P fn R) a' w'):WpF P f (x.seq y) (bodyPostM Fence.wide 0 P fn R) a w:=by
 refine wpF_seq (wpF_of_wp (Code.wp_mono (fun e a' w' h=>?_) h1))
 cases e with
 | normal=>exact h2 _ _ h
 | panic c =>
   obtain⟨hd,h⟩:=h
   show LeavesInM Fence.wide 0 P fn a'.tmps R a'.defers (.panicking c) w'
   rw [hd]
   exact h
 | exit id=>exact h.elim
 | goto l=>exact h.elim
 | ret=>exact h.elim
 | outgrown=>exact h.elim
set_option maxHeartbeats 2000000 in
theorem table_read_p (B p:Nat)(S:TS)(r:Reg)(me:Int)(w:World)(h:Plays B w p S)(hn1:1<=r.n)(hn2:r.n<=8)(hw1:0<=r.wr)(hw2:r.wr<r.n)(hm:0<=me/\me<r.n)(hb1:0<=r.base)(hb2:r.base<=56000)(hl1:0<=r.loc)(hl2:r.loc<=56000) :
  Calls Tryz.prog 83 #[.pointer (some ⟨p,0,none⟩),encR r,.int .i64 me] w (Post encI B p w ((tableR r.base r.loc r.n r.wr r.top me).run S)):=by
 generalize hR:Post encI B p w ((tableR r.base r.loc r.n r.wr r.top me).run S)=R
 have hO:Owes R encI B p w ((tableR r.base r.loc r.n r.wr r.top me).run S):=hR▸owes _ _ _ _ _
 clear hR
 have hwr:=Lib.hid (writer_p r)
 have hrk:=Lib.hid (rank_p r me)
 obtain⟨kind,base,loc,n,wr,rd,top⟩:=r
 simp only at hn1 hn2 hw1 hw2 hb1 hb2 hl1 hl2 hm hO
 unfold encR at hwr hrk ⊢
 obtain⟨b1,b2,hK,hP⟩:=h.entry2 (.cells #[.pointer (some ⟨p,0,none⟩)] 39) (.cells #[.int .i64 kind,.int .i64 base,.int .i64 loc,.int .i64 n,.int .i64 wr,.int .i64 rd,.int .i64 top] 87)
 have c_b1:=b1.cells
 have c_b2:=b2.cells
 have hBw:=Lib.hid h.le
 clear h
 unfold tableR at hO
 by_cases hme:me=wr
 · rw [if_pos hme] at hO
   subst hme
   refine calls_of_wpF Tryz.func83 rfl ?_
   simp only [Tryz.ntmps83,List.size_toArray,List.length_cons,List.length_nil,Nat.reduceAdd,Nat.reduceSub,Array.replicate_succ,Array.replicate_zero,List.push_toArray,List.append_toArray,List.nil_append,List.cons_append]
   refine wpF_step fun K hK2=>?_
   go_wp2_with fail
   refine wpF_step fun K hK2=>?_
   go_wp2_with fail
   refine (hwr.out _ hn1 hn2 hw1 hw2).mono ?_
   rintro e w2 ⟨rfl,hx⟩
   clear c_b1 c_b2
   replace hK:=hK.trans (Keep.of_ext hx hP.lt hP.le)
   replace b1:=b1.ext hx hP.lt
   have c_b1:=b1.cells
   replace b2:=b2.ext hx hP.lt
   have c_b2:=b2.cells
   replace hP:=hP.ext hx
   clear hx
   go_wp2_with fail
   refine (get_p B p S (loc+1) _ hP).mono ?_
   rintro e w' ⟨rfl,rfl⟩
   rw [run_gt1] at hO
   generalize S.got (loc+1)=z at hO ⊢
   go_wp2_with fail
   exact leavesM_ret0 (v:=.int .i64 z) (by simp [results,Tryz.results83,go_sem]) (hO.done hP hK)
 · rw [if_neg hme] at hO
   have hme2:(me==wr)=false:=by simpa using hme
   have hrk2:=Lib.hid (fun W=>hrk.out W hn1 hn2 hw1 hw2 hm hme)
   clear hrk
   have hrb:0<=rankM wr me/\rankM wr me<n-1:=by unfold rankM;split <;> omega
   generalize rankM wr me=a at *
   refine calls_of_wpF Tryz.func83 rfl ?_
   simp only [Tryz.ntmps83,List.size_toArray,List.length_cons,List.length_nil,Nat.reduceAdd,Nat.reduceSub,Array.replicate_succ,Array.replicate_zero,List.push_toArray,List.append_toArray,List.nil_append,List.cons_append]
   refine wpF_step fun K hK2=>?_
   go_wp2_with fail
   refine wpF_step fun K hK2=>?_
   go_wp2_with fail
   refine (hwr.out _ hn1 hn2 hw1 hw2).mono ?_
   rintro e w2 ⟨rfl,hx⟩
   clear c_b1 c_b2
   replace hK:=hK.trans (Keep.of_ext hx hP.lt hP.le)
   replace b1:=b1.ext hx hP.lt
   have c_b1:=b1.cells
   replace b2:=b2.ext hx hP.lt
   have c_b2:=b2.cells
   replace hP:=hP.ext hx
   clear hx
   go_wp2_with fail
   refine wpF_step fun K hK2=>?_
   go_wp2_with fail
   refine (hrk2.out _).mono ?_
   rintro e w2 ⟨rfl,hx⟩
   clear c_b1 c_b2
   replace hK:=hK.trans (Keep.of_ext hx hP.lt hP.le)
   replace b1:=b1.ext hx hP.lt
   have c_b1:=b1.cells
   replace b2:=b2.ext hx hP.lt
   have c_b2:=b2.cells
   replace hP:=hP.ext hx
   clear hx
   go_wp2_with fail
   have b3:=hP.held (.cells #[.int .i64 a] 3)
   clear c_b1 c_b2
   replace b1:=b1.alloc (.cells #[.int .i64 a] 3) hP.lt
   replace b2:=b2.alloc (.cells #[.int .i64 a] 3) hP.lt
   replace hK:=hK.trans (Keep.alloc (.cells #[.int .i64 a] 3) hP.lt hP.le)
   replace hP:=hP.alloc (.cells #[.int .i64 a] 3)
   have c_b1:=b1.cells
   have c_b2:=b2.cells
   have c_b3:=b3.cells
   refine wpF_step fun K hK2=>?_
   go_wp2_with fail
   refine wpF_step fun K hK2=>?_
   go_wp2_with fail
   refine (threads_p n _ hn1 hn2).mono ?_
   rintro e w' ⟨rfl,rfl⟩
   go_wp2_with fail
   have b4:=hP.held (.cells #[.int .i64 (n-1)] 3)
   clear c_b1 c_b2 c_b3
   replace b1:=b1.alloc (.cells #[.int .i64 (n-1)] 3) hP.lt
   replace b2:=b2.alloc (.cells #[.int .i64 (n-1)] 3) hP.lt
   replace b3:=b3.alloc (.cells #[.int .i64 (n-1)] 3) hP.lt
   replace hK:=hK.trans (Keep.alloc (.cells #[.int .i64 (n-1)] 3) hP.lt hP.le)
   replace hP:=hP.alloc (.cells #[.int .i64 (n-1)] 3)
   have c_b1:=b1.cells
   have c_b2:=b2.cells
   have c_b3:=b3.cells
   have c_b4:=b4.cells
   simp only [World.size_alloc] at b4 c_b4
   generalize (w2.alloc (.cells #[.int .i64 a] 3)).alloc (.cells #[.int .i64 (n-1)] 3)=W0 at *
   generalize w2.heap.size=q at *
   refine wpF_cut (fun a0 a' W=>∃ (y:Int) (bx:Nat) (S:TS),a'={ tmps:=((((((a0.tmps.setIfInBounds 36 (.pointer (some ⟨p,0,none⟩))).setIfInBounds 37 (encR (⟨kind,base,loc,n,wr,rd,top⟩:Reg))).setIfInBounds 38 (.int .i64 a)).setIfInBounds 39 (encR (⟨5,base+16*a,loc+(2+18*a),n,wr,rd,1099511627776⟩:Reg))).setIfInBounds 40 (.int .i64 y)).setIfInBounds 10 (.pointer (some ⟨bx,0,none⟩))),defers:=[] }/\w.heap.size<=bx/\bx≠w.heap.size/\bx≠w.heap.size+1/\bx≠q/\bx≠q+1 /\
    HeldP W p w.heap.size (.cells #[.pointer (some ⟨p,0,none⟩)] 39)/\HeldP W p (w.heap.size+1) (.cells #[.int .i64 kind,.int .i64 base,.int .i64 loc,.int .i64 n,.int .i64 wr,.int .i64 rd,.int .i64 top] 87)/\HeldP W p q (.cells #[.int .i64 a] 3)/\HeldP W p (q+1) (.cells #[.int .i64 (n-1)] 3)/\HeldP W p bx (.cells #[.int .i64 y] 3) /\
    Plays B W p S/\KeepP B p w W/\Owes R encI B p w (((forP (fun i x=>(slotsR (base+16*tellsM (n-1) i a) (loc+(2+18*tellsM (n-1) i a))).bind fun y=>.ret (max x y)) (ranksFrom a (n-1).toNat 0) y).bind fun x =>
    (forP (fun i _=>slotsW (base+16*tellsM (n-1) a i) (loc+(2+18*tellsM (n-1) a i)) x) (ranksFrom a (n-1).toNat 0) ()).bind fun _=>.ret (unLo x (clamp top 1048576))).run S)) ?_ ?_
   · replace hP:=hP.drew
     replace hK:=hK.drew
     replace b1:=b1.drew
     replace b2:=b2.drew
     replace b3:=b3.drew
     replace b4:=b4.drew
     refine wp_region_held_drew (S:=fun W'=>(∀ i:Nat,W'.cell? ⟨w.heap.size,i,none⟩=(#[.pointer (some ⟨p,0,none⟩)]:Array Value)[i]?)/\(∀ i:Nat,W'.cell? ⟨w.heap.size+1,i,none⟩=(#[.int .i64 kind,.int .i64 base,.int .i64 loc,.int .i64 n,.int .i64 wr,.int .i64 rd,.int .i64 top]:Array Value)[i]?)/\(∀ i:Nat,W'.cell? ⟨q,i,none⟩=(#[.int .i64 a]:Array Value)[i]?)) (by kernel_rfl) ⟨c_b1,c_b2,c_b3⟩ (fun hHeld=>?_)
     refine tkb 0 ?_
     iterate 3
      refine tkn (v:=?_) rfl (by kernel_rfl) (fun _ _ _ h=>h) (by assumption) ?_ ?_
      rotate_left
      · (intro w hSw;(try dsimp only at hSw);go_simp;try with_reducible rfl)
      try simp only [put_pack]
     refine tke ?_
     refine wpAnyH_ready (rs:=[3,5]) (by kernel_rfl) (by simp) ?_
     refine AllReadyH.cons rfl (fun K hKK=>?_) (AllReadyH.cons rfl (fun K hKK=>?_) AllReadyH.nil)
     · go_simp
       refine (tslot_p ⟨kind,base,loc,n,wr,rd,top⟩ a _ (by omega) (by omega) hb1 (by simp only;omega) hl1 (by simp only;omega)).mono ?_
       rintro e w2 ⟨rfl,hx⟩
       clear c_b1 c_b2 c_b3 c_b4
       replace hK:=hK.trans (Keep.of_ext hx hP.lt hP.le)
       replace b1:=b1.ext hx hP.lt
       have c_b1:=b1.cells
       replace b2:=b2.ext hx hP.lt
       have c_b2:=b2.cells
       replace b3:=b3.ext hx hP.lt
       have c_b3:=b3.cells
       replace b4:=b4.ext hx hP.lt
       have c_b4:=b4.cells
       replace hP:=hP.ext hx
       clear hx
       refine hKK.out _ _ ⟨c_b1,c_b2,c_b3⟩ (fun hHeld=>?_)
       clear hKK K
       try dsimp only
       refine wpAnyH_ready (rs:=[4,5]) (by kernel_rfl) (by simp) ?_
       refine AllReadyH.cons rfl (fun K hKK=>?_) (AllReadyH.cons rfl (fun K hKK=>?_) AllReadyH.nil)
       · go_simp
         refine tstep hO hK (slots_read_p B p S ⟨5,base+16*a,loc+(2+18*a),n,wr,rd,1099511627776⟩ _ hP (by simp only;omega) (by simp only;omega) (by simp only;omega) (by simp only;omega)) (fun _ h=>⟨rfl,h⟩) ?_
         clear hO hK hP c_b1 c_b2 c_b3 c_b4
         intro y S w1 hr hP hk hK hO
         replace b1:=b1.keep hk
         have c_b1:=b1.cells
         replace b2:=b2.keep hk
         have c_b2:=b2.cells
         replace b3:=b3.keep hk
         have c_b3:=b3.cells
         replace b4:=b4.keep hk
         have c_b4:=b4.cells
         clear hk hr
         refine hKK.out _ _ ⟨c_b1,c_b2,c_b3⟩ (fun hHeld=>?_)
         clear hKK K
         try simp only [put_pack]
         refine wpAnyH_ready (rs:=[5]) (by kernel_rfl) (by simp) ?_
         refine AllReadyH.cons rfl (fun K hKK=>?_) (AllReadyH.nil)
         go_simp
         have l1:=b1.lt
         have l2:=b2.lt
         have l3:=b3.lt
         have l4:=b4.lt
         have lk:=hK.size
         refine hKK.out _ _ ⟨(b1.alloc _ hP.lt).cells,(b2.alloc _ hP.lt).cells,(b3.alloc _ hP.lt).cells⟩ (fun hHeld=>?_)
         clear hKK K
         try simp only [put_pack]
         refine wpAnyH_ready (rs:=[6]) (by kernel_rfl) (by simp) ?_
         refine AllReadyH.cons rfl (fun K hKK=>?_) (AllReadyH.nil)
         go_simp
         have b5:=hP.held (.cells #[.int .i64 y] 3)
         clear c_b1 c_b2 c_b3 c_b4
         replace b1:=b1.alloc (.cells #[.int .i64 y] 3) hP.lt
         replace b2:=b2.alloc (.cells #[.int .i64 y] 3) hP.lt
         replace b3:=b3.alloc (.cells #[.int .i64 y] 3) hP.lt
         replace b4:=b4.alloc (.cells #[.int .i64 y] 3) hP.lt
         replace hK:=hK.trans (Keep.alloc (.cells #[.int .i64 y] 3) hP.lt hP.le)
         replace hP:=hP.alloc (.cells #[.int .i64 y] 3)
         have c_b1:=b1.cells
         have c_b2:=b2.cells
         have c_b3:=b3.cells
         have c_b4:=b4.cells
         have c_b5:=b5.cells
         refine hKK.out _ _ ⟨c_b1,c_b2,c_b3⟩ (fun hHeld=>?_)
         refine wpAnyH_done (by kernel_rfl) ?_ _
         exact⟨y,w1.heap.size,S,rfl,lk,by omega,by omega,by omega,by omega,b1,b2,b3,b4,b5,hP,hK,hO⟩
       · go_simp
         have l1:=b1.lt
         have l2:=b2.lt
         have l3:=b3.lt
         have l4:=b4.lt
         have lk:=hK.size
         have b5:=hP.held (.cells #[.int .i64 0] 3)
         clear c_b1 c_b2 c_b3 c_b4
         replace b1:=b1.alloc (.cells #[.int .i64 0] 3) hP.lt
         replace b2:=b2.alloc (.cells #[.int .i64 0] 3) hP.lt
         replace b3:=b3.alloc (.cells #[.int .i64 0] 3) hP.lt
         replace b4:=b4.alloc (.cells #[.int .i64 0] 3) hP.lt
         replace hK:=hK.trans (Keep.alloc (.cells #[.int .i64 0] 3) hP.lt hP.le)
         replace hP:=hP.alloc (.cells #[.int .i64 0] 3)
         have c_b1:=b1.cells
         have c_b2:=b2.cells
         have c_b3:=b3.cells
         have c_b4:=b4.cells
         have c_b5:=b5.cells
         replace l1:w.heap.size<w2.heap.size:=l1
         replace l2:w.heap.size+1<w2.heap.size:=l2
         replace l3:q<w2.heap.size:=l3
         replace l4:q+1<w2.heap.size:=l4
         replace lk:w.heap.size<=w2.heap.size:=lk
         refine hKK.out _ _ ⟨c_b1,c_b2,c_b3⟩ (fun hHeld=>?_)
         clear hKK K
         try simp only [put_pack]
         generalize w2.heap.size=bx at *
         refine wpAnyH_ready (rs:=[4]) (by kernel_rfl) (by simp) ?_
         refine AllReadyH.cons rfl (fun K hKK=>?_) (AllReadyH.nil)
         go_simp
         refine tstep hO hK (slots_read_p B p S ⟨5,base+16*a,loc+(2+18*a),n,wr,rd,1099511627776⟩ _ hP (by simp only;omega) (by simp only;omega) (by simp only;omega) (by simp only;omega)) (fun _ h=>⟨rfl,h⟩) ?_
         clear hO hK hP c_b1 c_b2 c_b3 c_b4 c_b5
         intro y S w1 hr hP hk hK hO
         replace b1:=b1.keep hk
         have c_b1:=b1.cells
         replace b2:=b2.keep hk
         have c_b2:=b2.cells
         replace b3:=b3.keep hk
         have c_b3:=b3.cells
         replace b4:=b4.keep hk
         have c_b4:=b4.cells
         replace b5:=b5.keep hk
         have c_b5:=b5.cells
         clear hk hr
         refine hKK.out _ _ ⟨c_b1,c_b2,c_b3⟩ (fun hHeld=>?_)
         clear hKK K
         try simp only [put_pack]
         refine wpAnyH_ready (rs:=[6]) (by kernel_rfl) (by simp) ?_
         refine AllReadyH.cons rfl (fun K hKK=>?_) (AllReadyH.nil)
         have f_b5:=frozen_of_heap b5.1
         go_simp
         have o5:=OneB.setCell w1 bx 0 (.int .i64 y)
         have n5:=b5.2
         replace b1:=b1.one o5 (by omega) n5
         replace b2:=b2.one o5 (by omega) n5
         replace b3:=b3.one o5 (by omega) n5
         replace b4:=b4.one o5 (by omega) n5
         have b6:=b5.set1 (.int .i64 y)
         refine hKK.out _ _ ⟨b1.cells,b2.cells,b3.cells⟩ (fun hHeld=>?_)
         refine wpAnyH_done (by kernel_rfl) ?_ _
         exact⟨y,bx,S,rfl,lk,by omega,by omega,by omega,by omega,b1,b2,b3,b4,b6,hP.one o5 n5 (by have:=hBw.out;omega),hK.one o5 lk n5 hBw.out,hO⟩
     · go_simp
       have l1:=b1.lt
       have l2:=b2.lt
       have l3:=b3.lt
       have l4:=b4.lt
       have lk:=hK.size
       have b5:=hP.held (.cells #[.int .i64 0] 3)
       clear c_b1 c_b2 c_b3 c_b4
       replace b1:=b1.alloc (.cells #[.int .i64 0] 3) hP.lt
       replace b2:=b2.alloc (.cells #[.int .i64 0] 3) hP.lt
       replace b3:=b3.alloc (.cells #[.int .i64 0] 3) hP.lt
       replace b4:=b4.alloc (.cells #[.int .i64 0] 3) hP.lt
       replace hK:=hK.trans (Keep.alloc (.cells #[.int .i64 0] 3) hP.lt hP.le)
       replace hP:=hP.alloc (.cells #[.int .i64 0] 3)
       have c_b1:=b1.cells
       have c_b2:=b2.cells
       have c_b3:=b3.cells
       have c_b4:=b4.cells
       have c_b5:=b5.cells
       replace l1:w.heap.size<W0.heap.size:=l1
       replace l2:w.heap.size+1<W0.heap.size:=l2
       replace l3:q<W0.heap.size:=l3
       replace l4:q+1<W0.heap.size:=l4
       replace lk:w.heap.size<=W0.heap.size:=lk
       refine hKK.out _ _ ⟨c_b1,c_b2,c_b3⟩ (fun hHeld=>?_)
       clear hKK K
       try simp only [put_pack]
       replace b5:HeldP _ p W0.heap.size _:=b5
       replace c_b5:=b5.cells
       generalize W0.heap.size=bx at *
       refine wpAnyH_ready (rs:=[3]) (by kernel_rfl) (by simp) ?_
       refine AllReadyH.cons rfl (fun K hKK=>?_) (AllReadyH.nil)
       go_simp
       refine (tslot_p ⟨kind,base,loc,n,wr,rd,top⟩ a _ (by omega) (by omega) hb1 (by simp only;omega) hl1 (by simp only;omega)).mono ?_
       rintro e w2 ⟨rfl,hx⟩
       clear c_b1 c_b2 c_b3 c_b4 c_b5
       replace hK:=hK.trans (Keep.of_ext hx hP.lt hP.le)
       replace b1:=b1.ext hx hP.lt
       have c_b1:=b1.cells
       replace b2:=b2.ext hx hP.lt
       have c_b2:=b2.cells
       replace b3:=b3.ext hx hP.lt
       have c_b3:=b3.cells
       replace b4:=b4.ext hx hP.lt
       have c_b4:=b4.cells
       replace b5:=b5.ext hx hP.lt
       have c_b5:=b5.cells
       replace hP:=hP.ext hx
       clear hx
       refine hKK.out _ _ ⟨c_b1,c_b2,c_b3⟩ (fun hHeld=>?_)
       clear hKK K
       try dsimp only
       refine wpAnyH_ready (rs:=[4]) (by kernel_rfl) (by simp) ?_
       refine AllReadyH.cons rfl (fun K hKK=>?_) (AllReadyH.nil)
       go_simp
       refine tstep hO hK (slots_read_p B p S ⟨5,base+16*a,loc+(2+18*a),n,wr,rd,1099511627776⟩ _ hP (by simp only;omega) (by simp only;omega) (by simp only;omega) (by simp only;omega)) (fun _ h=>⟨rfl,h⟩) ?_
       clear hO hK hP c_b1 c_b2 c_b3 c_b4 c_b5
       intro y S w1 hr hP hk hK hO
       replace b1:=b1.keep hk
       have c_b1:=b1.cells
       replace b2:=b2.keep hk
       have c_b2:=b2.cells
       replace b3:=b3.keep hk
       have c_b3:=b3.cells
       replace b4:=b4.keep hk
       have c_b4:=b4.cells
       replace b5:=b5.keep hk
       have c_b5:=b5.cells
       clear hk hr
       refine hKK.out _ _ ⟨c_b1,c_b2,c_b3⟩ (fun hHeld=>?_)
       clear hKK K
       try simp only [put_pack]
       refine wpAnyH_ready (rs:=[6]) (by kernel_rfl) (by simp) ?_
       refine AllReadyH.cons rfl (fun K hKK=>?_) (AllReadyH.nil)
       have f_b5:=frozen_of_heap b5.1
       go_simp
       have o5:=OneB.setCell w1 bx 0 (.int .i64 y)
       have n5:=b5.2
       replace b1:=b1.one o5 (by omega) n5
       replace b2:=b2.one o5 (by omega) n5
       replace b3:=b3.one o5 (by omega) n5
       replace b4:=b4.one o5 (by omega) n5
       have b6:=b5.set1 (.int .i64 y)
       refine hKK.out _ _ ⟨b1.cells,b2.cells,b3.cells⟩ (fun hHeld=>?_)
       refine wpAnyH_done (by kernel_rfl) ?_ _
       exact⟨y,bx,S,rfl,lk,by omega,by omega,by omega,by omega,b1,b2,b3,b4,b6,hP.one o5 n5 (by have:=hBw.out;omega),hK.one o5 lk n5 hBw.out,hO⟩
   · rintro a' W ⟨y,bx,S,rfl,lw,ne1,ne2,ne3,ne4,b1,b2,b3,b4,b5,hP,hK,hO⟩
     clear c_b1 c_b2 c_b3 c_b4
     have c_b1:=b1.cells
     have c_b2:=b2.cells
     have c_b3:=b3.cells
     have c_b4:=b4.cells
     have c_b5:=b5.cells
     obtain⟨k,hk⟩:∃ k:Nat,n-1=(k:Int):=⟨(n-1).toNat,by omega⟩
     simp only [hk,Int.toNat_natCast] at hO b4 c_b4 hrb ⊢
     have hk8:k<=7:=by omega
     have n1:¬ w.heap.size=bx:=fun e=>ne1 e.symm
     have n2:¬ w.heap.size+1=bx:=fun e=>ne2 e.symm
     have n3:¬ q=bx:=fun e=>ne3 e.symm
     have n4:¬ q+1=bx:=fun e=>ne4 e.symm
     simp only [List.setIfInBounds_toArray,List.set_cons_zero,List.set_cons_succ]
     refine wpF_seq (wpF_step fun K hK2=>?_)
     go_wp2_with fail
     refine (ranks_p _ _ _).mono ?_
     rintro e w3 ⟨rfl,rfl⟩
     go_wp2_with fail
     have lbx:=b5.lt
     have b6:=hP.held (.cells #[.int .i64 (k:Int)] 3)
     clear c_b1 c_b2 c_b3 c_b4 c_b5
     replace b1:=b1.alloc (.cells #[.int .i64 (k:Int)] 3) hP.lt
     replace b2:=b2.alloc (.cells #[.int .i64 (k:Int)] 3) hP.lt
     replace b3:=b3.alloc (.cells #[.int .i64 (k:Int)] 3) hP.lt
     replace b4:=b4.alloc (.cells #[.int .i64 (k:Int)] 3) hP.lt
     replace b5:=b5.alloc (.cells #[.int .i64 (k:Int)] 3) hP.lt
     replace hK:=hK.trans (Keep.alloc (.cells #[.int .i64 (k:Int)] 3) hP.lt hP.le)
     replace hP:=hP.alloc (.cells #[.int .i64 (k:Int)] 3)
     have c_b1:=b1.cells
     have c_b2:=b2.cells
     have c_b3:=b3.cells
     have c_b4:=b4.cells
     have c_b5:=b5.cells
     have c_b6:=b6.cells
     have b7:=hP.held (.cells #[.int .i64 a] 3)
     clear c_b1 c_b2 c_b3 c_b4 c_b5 c_b6
     replace b1:=b1.alloc (.cells #[.int .i64 a] 3) hP.lt
     replace b2:=b2.alloc (.cells #[.int .i64 a] 3) hP.lt
     replace b3:=b3.alloc (.cells #[.int .i64 a] 3) hP.lt
     replace b4:=b4.alloc (.cells #[.int .i64 a] 3) hP.lt
     replace b5:=b5.alloc (.cells #[.int .i64 a] 3) hP.lt
     replace b6:=b6.alloc (.cells #[.int .i64 a] 3) hP.lt
     replace hK:=hK.trans (Keep.alloc (.cells #[.int .i64 a] 3) hP.lt hP.le)
     replace hP:=hP.alloc (.cells #[.int .i64 a] 3)
     have c_b1:=b1.cells
     have c_b2:=b2.cells
     have c_b3:=b3.cells
     have c_b4:=b4.cells
     have c_b5:=b5.cells
     have c_b6:=b6.cells
     have c_b7:=b7.cells
     simp only [World.size_alloc] at b7 c_b7
     have hWW:W.heap.size<((W.alloc (.cells #[.int .i64 (k:Int)] 3)).alloc (.cells #[.int .i64 a] 3)).heap.size:=b6.lt
     generalize (W.alloc (.cells #[.int .i64 (k:Int)] 3)).alloc (.cells #[.int .i64 a] 3)=W0 at *
     have n6:¬ W.heap.size=bx:=by omega
     have n7:¬ W.heap.size+1=bx:=by omega
     generalize W.heap.size=q2 at *
     refine wpF_block ?_
     refine' tape_range (T:=fun i x=>(slotsR (base+16*tellsM k i a) (loc+(2+18*tellsM k i a))).bind fun y=>.ret (max x y)) (xs:=ranksFrom a k 0) (x:=y) (fin:=fun x=>(forP (fun i _=>slotsW (base+16*tellsM k a i) (loc+(2+18*tellsM k a i)) x) (ranksFrom a k 0) ()).bind fun _=>.ret (unLo x (clamp top 1048576))) Tryz.func83 rfl (enters_of Tryz.func143 (by kernel_rfl) rfl) rfl (ranks_gives k a q2 (q2+1) (by omega))
      (fun b=>b=bx) (fun x W=>HeldP W p bx (.cells #[.int .i64 x] 3)) (fun b hb=>⟨by rw [hb];exact b5.lt,by rw [hb];exact lw⟩) hP.le (fun W hX=>⟨(KeepX.held b6 hX n6).cells 0,(KeepX.held b7 hX n7).cells 0⟩) (fun _ _ o hp h=>h.alloc o hp) (fun _ _ l _ hl hn h=>h.put (by have:=b5.lt;omega) hn) hO hK hP b5
      _ ?assign ?body ?done ?pan
     case assign =>
      intro l y W K hK
      gi_wp2
      exact hK
     case body =>
      intro l i x S W hi hPl hX hJx
      have hib:=ranks_mem a k 0 i hi
      have htb:=tells_bd k i a (by omega) (by omega) (by omega) (by omega)
      have c1:=(KeepX.held b1 hX n1)
      have c2:=(KeepX.held b2 hX n2)
      have c3:=(KeepX.held b3 hX n3)
      have c4:=(KeepX.held b4 hX n4)
      have c5:HeldP W p bx (.cells #[.int .i64 x] 3):=hJx
      have hO:=owes encI B p W ((slotsR (base+16*tellsM k i a) (loc+(2+18*tellsM k i a))).run S)
      have hK:=Keep.refl [2,3,4] B p W
      have hP:=hPl
      have hK8:=Lib.hid hX.below.size
      clear hPl hX hJx b1 b2 b3 b4 b5 b6 b7 c_b1 c_b2 c_b3 c_b4 c_b5 c_b6 c_b7
      have c_c1:=c1.cells
      have c_c2:=c2.cells
      have c_c3:=c3.cells
      have c_c4:=c4.cells
      have c_c5:=c5.cells
      refine wpIn_block ?_
      replace hP:=hP.drew
      replace hK:=hK.drew
      replace c1:=c1.drew
      replace c2:=c2.drew
      replace c3:=c3.drew
      replace c4:=c4.drew
      replace c5:=c5.drew
      refine wpIn_region_held (S:=fun W'=>(∀ i:Nat,W'.cell? ⟨w.heap.size,i,none⟩=(#[.pointer (some ⟨p,0,none⟩)]:Array Value)[i]?)/\(∀ i:Nat,W'.cell? ⟨w.heap.size+1,i,none⟩=(#[.int .i64 kind,.int .i64 base,.int .i64 loc,.int .i64 n,.int .i64 wr,.int .i64 rd,.int .i64 top]:Array Value)[i]?)/\(∀ i:Nat,W'.cell? ⟨q,i,none⟩=(#[.int .i64 a]:Array Value)[i]?)/\(∀ i:Nat,W'.cell? ⟨q+1,i,none⟩=(#[.int .i64 (k:Int)]:Array Value)[i]?)) (by kernel_rfl) (by kernel_rfl) (fun _ _ h=>h) ⟨c_c1,c_c2,c_c3,c_c4⟩ (fun hHeld=>?_)
      refine tkb 1 ?_
      iterate 5
       refine tkn (v:=?_) rfl (by kernel_rfl) (fun _ _ _ h=>h) (by assumption) ?_ ?_
       rotate_left
       · (intro w hSw;(try dsimp only at hSw);go_simp;try with_reducible rfl)
       try simp only [put_pack]
      refine tke ?_
      refine wpAnyH_ready (rs:=[0,6]) (by kernel_rfl) (by simp) ?_
      refine AllReadyH.cons rfl (fun K hKK=>?_) (AllReadyH.cons rfl (fun K hKK=>?_) AllReadyH.nil)
      · go_simp
        refine hKK.out _ _ ⟨c_c1,c_c2,c_c3,c_c4⟩ (fun hHeld=>?_)
        clear hKK K
        try simp only [put_pack]
        refine wpAnyH_ready (rs:=[6]) (by kernel_rfl) (by simp) ?_
        refine AllReadyH.cons rfl (fun K hKK=>?_) (AllReadyH.nil)
        go_simp
        refine (tells_p ⟨kind,base,loc,n,wr,rd,top⟩ k i a _ (by omega) (by omega) (by omega) (by omega) hb1 (by simp only;omega) hl1 (by simp only;omega)).mono ?_
        rintro e w2 ⟨rfl,hx⟩
        clear c_c1 c_c2 c_c3 c_c4 c_c5
        replace hK:=hK.trans (Keep.of_ext hx hP.lt hP.le)
        replace c1:=c1.ext hx hP.lt
        have c_c1:=c1.cells
        replace c2:=c2.ext hx hP.lt
        have c_c2:=c2.cells
        replace c3:=c3.ext hx hP.lt
        have c_c3:=c3.cells
        replace c4:=c4.ext hx hP.lt
        have c_c4:=c4.cells
        replace c5:=c5.ext hx hP.lt
        have c_c5:=c5.cells
        replace hP:=hP.ext hx
        clear hx
        refine hKK.out _ _ ⟨c_c1,c_c2,c_c3,c_c4⟩ (fun hHeld=>?_)
        clear hKK K
        try dsimp only
        refine wpAnyH_ready (rs:=[7]) (by kernel_rfl) (by simp) ?_
        refine AllReadyH.cons rfl (fun K hKK=>?_) (AllReadyH.nil)
        go_simp
        refine tlast hO hK (slots_read_p B p S ⟨5,base+16*tellsM k i a,loc+(2+18*tellsM k i a),n,wr,rd,1099511627776⟩ _ hP (by simp only;omega) (by simp only;omega) (by simp only;omega) (by simp only;omega)) (fun w' h=>⟨rfl,rfl,(round_stop h).imp fun S hS=>⟨by rw [Prog.run_bind_none hS.1],hS.2.1,hS.2.2.x _⟩⟩) ?_
        intro y S1 w5 hr hP1 hk1 hK1 hO1
        replace c1:=c1.keep hk1
        replace c2:=c2.keep hk1
        replace c3:=c3.keep hk1
        replace c4:=c4.keep hk1
        replace c5:=c5.keep hk1
        clear c_c1 c_c2 c_c3 c_c4 c_c5
        have c_c1:=c1.cells
        have c_c2:=c2.cells
        have c_c3:=c3.cells
        have c_c4:=c4.cells
        have c_c5:=c5.cells
        refine hKK.out _ _ ⟨c_c1,c_c2,c_c3,c_c4⟩ (fun hHeld=>?_)
        clear hKK K
        try simp only [put_pack]
        refine wpAnyH_ready (rs:=[8]) (by kernel_rfl) (by simp) ?_
        refine AllReadyH.cons rfl (fun K hKK=>?_) (AllReadyH.nil)
        go_simp
        refine hKK.out _ _ ⟨c_c1,c_c2,c_c3,c_c4⟩ (fun hHeld=>?_)
        clear hKK K
        try simp only [put_pack]
        refine wpAnyH_ready (rs:=[9]) (by kernel_rfl) (by simp) ?_
        refine AllReadyH.cons rfl (fun K hKK=>?_) (AllReadyH.nil)
        have f_c5:=frozen_of_heap c5.1
        go_simp
        have o5:=OneB.setCell w5 bx 0 (.int .i64 (max x y))
        have n5:=c5.2
        have d1:=c1.one o5 (fun e=>n1 e) n5
        have d2:=c2.one o5 (fun e=>n2 e) n5
        have d3:=c3.one o5 (fun e=>n3 e) n5
        have d4:=c4.one o5 (fun e=>n4 e) n5
        refine hKK.out _ _ ⟨d1.cells,d2.cells,d3.cells,d4.cells⟩ (fun hHeld=>?_)
        refine wpAnyH_done (by kernel_rfl) ?_ _
        exact⟨max x y,S1,by rw [Prog.run_bind_some hr];rfl,hP1.one o5 n5 (by have:=hBw.out;omega),(hK1.x _).oneX o5 rfl n5 (by have:=hBw.out;omega),c5.set1 _⟩
      · go_simp
        refine (tells_p ⟨kind,base,loc,n,wr,rd,top⟩ k i a _ (by omega) (by omega) (by omega) (by omega) hb1 (by simp only;omega) hl1 (by simp only;omega)).mono ?_
        rintro e w2 ⟨rfl,hx⟩
        clear c_c1 c_c2 c_c3 c_c4 c_c5
        replace hK:=hK.trans (Keep.of_ext hx hP.lt hP.le)
        replace c1:=c1.ext hx hP.lt
        have c_c1:=c1.cells
        replace c2:=c2.ext hx hP.lt
        have c_c2:=c2.cells
        replace c3:=c3.ext hx hP.lt
        have c_c3:=c3.cells
        replace c4:=c4.ext hx hP.lt
        have c_c4:=c4.cells
        replace c5:=c5.ext hx hP.lt
        have c_c5:=c5.cells
        replace hP:=hP.ext hx
        clear hx
        refine hKK.out _ _ ⟨c_c1,c_c2,c_c3,c_c4⟩ (fun hHeld=>?_)
        clear hKK K
        try dsimp only
        refine wpAnyH_ready (rs:=[0,7]) (by kernel_rfl) (by simp) ?_
        refine AllReadyH.cons rfl (fun K hKK=>?_) (AllReadyH.cons rfl (fun K hKK=>?_) AllReadyH.nil)
        · go_simp
          refine hKK.out _ _ ⟨c_c1,c_c2,c_c3,c_c4⟩ (fun hHeld=>?_)
          clear hKK K
          try simp only [put_pack]
          refine wpAnyH_ready (rs:=[7]) (by kernel_rfl) (by simp) ?_
          refine AllReadyH.cons rfl (fun K hKK=>?_) (AllReadyH.nil)
          go_simp
          refine tlast hO hK (slots_read_p B p S ⟨5,base+16*tellsM k i a,loc+(2+18*tellsM k i a),n,wr,rd,1099511627776⟩ _ hP (by simp only;omega) (by simp only;omega) (by simp only;omega) (by simp only;omega)) (fun w' h=>⟨rfl,rfl,(round_stop h).imp fun S hS=>⟨by rw [Prog.run_bind_none hS.1],hS.2.1,hS.2.2.x _⟩⟩) ?_
          intro y S1 w5 hr hP1 hk1 hK1 hO1
          replace c1:=c1.keep hk1
          replace c2:=c2.keep hk1
          replace c3:=c3.keep hk1
          replace c4:=c4.keep hk1
          replace c5:=c5.keep hk1
          clear c_c1 c_c2 c_c3 c_c4 c_c5
          have c_c1:=c1.cells
          have c_c2:=c2.cells
          have c_c3:=c3.cells
          have c_c4:=c4.cells
          have c_c5:=c5.cells
          refine hKK.out _ _ ⟨c_c1,c_c2,c_c3,c_c4⟩ (fun hHeld=>?_)
          clear hKK K
          try simp only [put_pack]
          refine wpAnyH_ready (rs:=[8]) (by kernel_rfl) (by simp) ?_
          refine AllReadyH.cons rfl (fun K hKK=>?_) (AllReadyH.nil)
          go_simp
          refine hKK.out _ _ ⟨c_c1,c_c2,c_c3,c_c4⟩ (fun hHeld=>?_)
          clear hKK K
          try simp only [put_pack]
          refine wpAnyH_ready (rs:=[9]) (by kernel_rfl) (by simp) ?_
          refine AllReadyH.cons rfl (fun K hKK=>?_) (AllReadyH.nil)
          have f_c5:=frozen_of_heap c5.1
          go_simp
          have o5:=OneB.setCell w5 bx 0 (.int .i64 (max x y))
          have n5:=c5.2
          have d1:=c1.one o5 (fun e=>n1 e) n5
          have d2:=c2.one o5 (fun e=>n2 e) n5
          have d3:=c3.one o5 (fun e=>n3 e) n5
          have d4:=c4.one o5 (fun e=>n4 e) n5
          refine hKK.out _ _ ⟨d1.cells,d2.cells,d3.cells,d4.cells⟩ (fun hHeld=>?_)
          refine wpAnyH_done (by kernel_rfl) ?_ _
          exact⟨max x y,S1,by rw [Prog.run_bind_some hr];rfl,hP1.one o5 n5 (by have:=hBw.out;omega),(hK1.x _).oneX o5 rfl n5 (by have:=hBw.out;omega),c5.set1 _⟩
        · go_simp
          refine tlast hO hK (slots_read_p B p S ⟨5,base+16*tellsM k i a,loc+(2+18*tellsM k i a),n,wr,rd,1099511627776⟩ _ hP (by simp only;omega) (by simp only;omega) (by simp only;omega) (by simp only;omega)) (fun w' h=>⟨rfl,rfl,(round_stop h).imp fun S hS=>⟨by rw [Prog.run_bind_none hS.1],hS.2.1,hS.2.2.x _⟩⟩) ?_
          intro y S1 w5 hr hP1 hk1 hK1 hO1
          replace c1:=c1.keep hk1
          replace c2:=c2.keep hk1
          replace c3:=c3.keep hk1
          replace c4:=c4.keep hk1
          replace c5:=c5.keep hk1
          clear c_c1 c_c2 c_c3 c_c4 c_c5
          have c_c1:=c1.cells
          have c_c2:=c2.cells
          have c_c3:=c3.cells
          have c_c4:=c4.cells
          have c_c5:=c5.cells
          refine hKK.out _ _ ⟨c_c1,c_c2,c_c3,c_c4⟩ (fun hHeld=>?_)
          clear hKK K
          try simp only [put_pack]
          refine wpAnyH_ready (rs:=[0]) (by kernel_rfl) (by simp) ?_
          refine AllReadyH.cons rfl (fun K hKK=>?_) (AllReadyH.nil)
          go_simp
          refine hKK.out _ _ ⟨c_c1,c_c2,c_c3,c_c4⟩ (fun hHeld=>?_)
          clear hKK K
          try simp only [put_pack]
          refine wpAnyH_ready (rs:=[8]) (by kernel_rfl) (by simp) ?_
          refine AllReadyH.cons rfl (fun K hKK=>?_) (AllReadyH.nil)
          go_simp
          refine hKK.out _ _ ⟨c_c1,c_c2,c_c3,c_c4⟩ (fun hHeld=>?_)
          clear hKK K
          try simp only [put_pack]
          refine wpAnyH_ready (rs:=[9]) (by kernel_rfl) (by simp) ?_
          refine AllReadyH.cons rfl (fun K hKK=>?_) (AllReadyH.nil)
          have f_c5:=frozen_of_heap c5.1
          go_simp
          have o5:=OneB.setCell w5 bx 0 (.int .i64 (max x y))
          have n5:=c5.2
          have d1:=c1.one o5 (fun e=>n1 e) n5
          have d2:=c2.one o5 (fun e=>n2 e) n5
          have d3:=c3.one o5 (fun e=>n3 e) n5
          have d4:=c4.one o5 (fun e=>n4 e) n5
          refine hKK.out _ _ ⟨d1.cells,d2.cells,d3.cells,d4.cells⟩ (fun hHeld=>?_)
          refine wpAnyH_done (by kernel_rfl) ?_ _
          exact⟨max x y,S1,by rw [Prog.run_bind_some hr];rfl,hP1.one o5 n5 (by have:=hBw.out;omega),(hK1.x _).oneX o5 rfl n5 (by have:=hBw.out;omega),c5.set1 _⟩
     case done =>
      intro x S W1 hO1 hX hP1 hJx hD
      have d1:=(KeepX.held b1 hX n1)
      have d2:=(KeepX.held b2 hX n2)
      have d3:=(KeepX.held b3 hX n3)
      have d4:=(KeepX.held b4 hX n4)
      have hK1:KeepP B p w W1:=KeepX.after hK hX (fun b hb=>by rw [hb];exact lw)
      have hO2:=owes_shut hO1 hK1 hD hK.size hBw.out
      have hBW:B<=W1.heap.size:=hP1.le
      clear hO1 hX hK1 hD b1 b2 b3 b4 b5 b6 b7 c_b1 c_b2 c_b3 c_b4 c_b5 c_b6 c_b7 hK hP hO hWW n6 n7
      generalize W0.heap.size=D1 at *
      clear W0
      have b1:=d1
      have b2:=d2
      have b3:=d3
      have b4:=d4
      have b5:HeldP W1 p bx (.cells #[.int .i64 x] 3):=hJx
      clear d1 d2 d3 d4 hJx
      have hO:=hO2
      have hK:=Keep.refl [2,3,4] B p W1
      have hP:=hP1
      clear hO2
      have c_b1:=b1.cells
      have c_b2:=b2.cells
      have c_b3:=b3.cells
      have c_b4:=b4.cells
      have c_b5:=b5.cells
      show WpF _ _ _ _ _ _
      refine wpF_seq (wpF_step fun K hK2=>?_)
      go_wp2_with fail
      refine (ranks_p _ _ _).mono ?_
      rintro e w3 ⟨rfl,rfl⟩
      go_wp2_with fail
      have b6:=hP.held (.cells #[.int .i64 (k:Int)] 3)
      clear c_b1 c_b2 c_b3 c_b4 c_b5
      replace b1:=b1.alloc (.cells #[.int .i64 (k:Int)] 3) hP.lt
      replace b2:=b2.alloc (.cells #[.int .i64 (k:Int)] 3) hP.lt
      replace b3:=b3.alloc (.cells #[.int .i64 (k:Int)] 3) hP.lt
      replace b4:=b4.alloc (.cells #[.int .i64 (k:Int)] 3) hP.lt
      replace b5:=b5.alloc (.cells #[.int .i64 (k:Int)] 3) hP.lt
      replace hK:=hK.trans (Keep.alloc (.cells #[.int .i64 (k:Int)] 3) hP.lt hP.le)
      replace hP:=hP.alloc (.cells #[.int .i64 (k:Int)] 3)
      have c_b1:=b1.cells
      have c_b2:=b2.cells
      have c_b3:=b3.cells
      have c_b4:=b4.cells
      have c_b5:=b5.cells
      have c_b6:=b6.cells
      have b7:=hP.held (.cells #[.int .i64 a] 3)
      clear c_b1 c_b2 c_b3 c_b4 c_b5 c_b6
      replace b1:=b1.alloc (.cells #[.int .i64 a] 3) hP.lt
      replace b2:=b2.alloc (.cells #[.int .i64 a] 3) hP.lt
      replace b3:=b3.alloc (.cells #[.int .i64 a] 3) hP.lt
      replace b4:=b4.alloc (.cells #[.int .i64 a] 3) hP.lt
      replace b5:=b5.alloc (.cells #[.int .i64 a] 3) hP.lt
      replace b6:=b6.alloc (.cells #[.int .i64 a] 3) hP.lt
      replace hK:=hK.trans (Keep.alloc (.cells #[.int .i64 a] 3) hP.lt hP.le)
      replace hP:=hP.alloc (.cells #[.int .i64 a] 3)
      have c_b1:=b1.cells
      have c_b2:=b2.cells
      have c_b3:=b3.cells
      have c_b4:=b4.cells
      have c_b5:=b5.cells
      have c_b6:=b6.cells
      have c_b7:=b7.cells
      simp only [World.size_alloc] at b7 c_b7
      generalize (W1.alloc (.cells #[.int .i64 (k:Int)] 3)).alloc (.cells #[.int .i64 a] 3)=W0 at *
      refine wpF_block ?_
      refine' tape_range (T:=fun i _=>slotsW (base+16*tellsM k a i) (loc+(2+18*tellsM k a i)) x) (xs:=ranksFrom a k 0) (x:=()) (fin:=fun _=>.ret (unLo x (clamp top 1048576))) Tryz.func83 rfl (enters_of Tryz.func143 (by kernel_rfl) rfl) rfl (ranks_gives k a W1.heap.size (W1.heap.size+1) (by omega))
       (fun _=>False) (fun _ _=>True) (fun _ h=>h.elim) hP.le (fun W hX=>⟨(KeepX.held b6 hX id).cells 0,(KeepX.held b7 hX id).cells 0⟩) (fun _ _ _ _ h=>h) (fun _ _ _ _ _ _ h=>h) hO hK hP trivial
       _ ?assign2 ?body2 ?done2 ?pan2
      case assign2 =>
       intro l y W K hK
       gi_wp2
       exact hK
      case body2 =>
       intro l i u S W hi hPl hX _
       have hib:=ranks_mem a k 0 i hi
       have htb:=tells_bd k a i (by omega) (by omega) (by omega) (by omega)
       have c1:=(KeepX.held b1 hX id)
       have c2:=(KeepX.held b2 hX id)
       have c3:=(KeepX.held b3 hX id)
       have c4:=(KeepX.held b4 hX id)
       have c5:=(KeepX.held b5 hX id)
       have hO:=owes encU B p W ((slotsW (base+16*tellsM k a i) (loc+(2+18*tellsM k a i)) x).run S)
       have hK:=Keep.refl [2,3,4] B p W
       have hP:=hPl
       clear hPl hX b1 b2 b3 b4 b5 b6 b7 c_b1 c_b2 c_b3 c_b4 c_b5 c_b6 c_b7
       have c_c1:=c1.cells
       have c_c2:=c2.cells
       have c_c3:=c3.cells
       have c_c4:=c4.cells
       have c_c5:=c5.cells
       refine wpIn_block ?_
       replace hP:=hP.drew
       replace hK:=hK.drew
       replace c1:=c1.drew
       replace c2:=c2.drew
       replace c3:=c3.drew
       replace c4:=c4.drew
       replace c5:=c5.drew
       refine wpIn_region_held (S:=fun W'=>(∀ i:Nat,W'.cell? ⟨w.heap.size,i,none⟩=(#[.pointer (some ⟨p,0,none⟩)]:Array Value)[i]?)/\(∀ i:Nat,W'.cell? ⟨w.heap.size+1,i,none⟩=(#[.int .i64 kind,.int .i64 base,.int .i64 loc,.int .i64 n,.int .i64 wr,.int .i64 rd,.int .i64 top]:Array Value)[i]?)/\(∀ i:Nat,W'.cell? ⟨q,i,none⟩=(#[.int .i64 a]:Array Value)[i]?)/\(∀ i:Nat,W'.cell? ⟨q+1,i,none⟩=(#[.int .i64 (k:Int)]:Array Value)[i]?)/\(∀ i:Nat,W'.cell? ⟨bx,i,none⟩=(#[.int .i64 x]:Array Value)[i]?)) (by kernel_rfl) (by kernel_rfl) (fun _ _ h=>h) ⟨c_c1,c_c2,c_c3,c_c4,c_c5⟩ (fun hHeld=>?_)
       refine tkb 0 ?_
       iterate 5
        refine tkn (v:=?_) rfl (by kernel_rfl) (fun _ _ _ h=>h) (by assumption) ?_ ?_
        rotate_left
        · (intro w hSw;(try dsimp only at hSw);go_simp;try with_reducible rfl)
        try simp only [put_pack]
       refine tke ?_
       refine tk 6 (v:=?_) rfl (by kernel_rfl) (fun _ _ _ h=>h) (by assumption) ?_ ?_
       rotate_left
       · (intro w hSw;(try dsimp only at hSw);go_simp;try with_reducible rfl)
       try simp only [put_pack]
       refine wpAnyH_ready (rs:=[5]) (by kernel_rfl) (by simp) ?_
       refine AllReadyH.cons rfl (fun K hKK=>?_) (AllReadyH.nil)
       go_simp
       refine (tells_p ⟨kind,base,loc,n,wr,rd,top⟩ k a i _ (by omega) (by omega) (by omega) (by omega) hb1 (by simp only;omega) hl1 (by simp only;omega)).mono ?_
       rintro e w2 ⟨rfl,hx⟩
       clear c_c1 c_c2 c_c3 c_c4 c_c5
       replace hK:=hK.trans (Keep.of_ext hx hP.lt hP.le)
       replace c1:=c1.ext hx hP.lt
       have c_c1:=c1.cells
       replace c2:=c2.ext hx hP.lt
       have c_c2:=c2.cells
       replace c3:=c3.ext hx hP.lt
       have c_c3:=c3.cells
       replace c4:=c4.ext hx hP.lt
       have c_c4:=c4.cells
       replace c5:=c5.ext hx hP.lt
       have c_c5:=c5.cells
       replace hP:=hP.ext hx
       clear hx
       refine hKK.out _ _ ⟨c_c1,c_c2,c_c3,c_c4,c_c5⟩ (fun hHeld=>?_)
       clear hKK K
       try dsimp only
       refine wpAnyH_ready (rs:=[7]) (by kernel_rfl) (by simp) ?_
       refine AllReadyH.cons rfl (fun K hKK=>?_) (AllReadyH.nil)
       go_simp
       refine tlast hO hK (slots_write_p B p S ⟨5,base+16*tellsM k a i,loc+(2+18*tellsM k a i),n,wr,rd,1099511627776⟩ x _ hP (by simp only;omega) (by simp only;omega) (by simp only;omega) (by simp only;omega)) (fun w' h=>⟨rfl,rfl,(round_stop h).imp fun S hS=>⟨hS.1,hS.2.1,hS.2.2.x _⟩⟩) ?_
       intro u2 S1 w5 hr hP1 hk1 hK1 hO1
       refine hKK.out _ _ ⟨(c1.keep hk1).cells,(c2.keep hk1).cells,(c3.keep hk1).cells,(c4.keep hk1).cells,(c5.keep hk1).cells⟩ (fun hHeld=>?_)
       refine wpAnyH_done (by kernel_rfl) ?_ _
       exact⟨u2,S1,hr,hP1,hK1.x _,trivial⟩
      case done2 =>
       intro u S W hO1 hX hP _ hD
       have c2:=(KeepX.held b2 hX id)
       have c5:=(KeepX.held b5 hX id)
       have hK1:KeepP B p W1 W:=KeepX.after hK hX (fun _ h=>h.elim)
       have hO:=owes_shut hO1 hK1 hD hK.size hBW
       have hK:=Keep.refl [2,3,4] B p W
       clear hO1 hX hK1 hD b1 b2 b3 b4 b5 b6 b7 c_b1 c_b2 c_b3 c_b4 c_b5 c_b6 c_b7
       have c_c2:=c2.cells
       have c_c5:=c5.cells
       generalize W0.heap.size=D2 at *
       show WpF _ _ _ _ _ _
       refine wpF_cut (fun a0 a' W'=>a'={ tmps:=(((((((((a0.tmps.setIfInBounds 67 (.int .i64 x)).setIfInBounds 68 (.pointer (some ⟨w.heap.size+1,6,none⟩))).setIfInBounds 69 (.int .i64 top)).setIfInBounds 70 (.int .i64 (clamp top 1048576))).setIfInBounds 71 (.tuple #[.int .i64 (unHi x (clamp top 1048576)),.int .i64 (unLo x (clamp top 1048576))])).setIfInBounds 66 (.tuple #[.int .i64 (unHi x (clamp top 1048576)),.int .i64 (unLo x (clamp top 1048576))])).setIfInBounds 72 (.int .i64 (unHi x (clamp top 1048576)))).setIfInBounds 73 (.int .i64 (unLo x (clamp top 1048576)))).setIfInBounds 13 (.int .i64 (unHi x (clamp top 1048576)))).setIfInBounds 14 (.int .i64 (unLo x (clamp top 1048576))),defers:=a0.defers }/\Plays B W' p S/\KeepP B p W W') ?_ ?_
       · replace hP:=hP.drew
         replace hK:=hK.drew
         replace c2:=c2.drew
         replace c5:=c5.drew
         refine wp_region_held_drew (S:=fun W'=>(∀ i:Nat,W'.cell? ⟨w.heap.size+1,i,none⟩=(#[.int .i64 kind,.int .i64 base,.int .i64 loc,.int .i64 n,.int .i64 wr,.int .i64 rd,.int .i64 top]:Array Value)[i]?)/\(∀ i:Nat,W'.cell? ⟨bx,i,none⟩=(#[.int .i64 x]:Array Value)[i]?)) (by kernel_rfl) ⟨c_c2,c_c5⟩ (fun hHeld=>?_)
         refine tkb 0 ?_
         iterate 3
          refine tkn (v:=?_) rfl (by kernel_rfl) (fun _ _ _ h=>h) (by assumption) ?_ ?_
          rotate_left
          · (intro w hSw;(try dsimp only at hSw);go_simp;try with_reducible rfl)
          try simp only [put_pack]
         refine tke ?_
         refine wpAnyH_ready (rs:=[3]) (by kernel_rfl) (by simp) ?_
         refine AllReadyH.cons rfl (fun K hKK=>?_) (AllReadyH.nil)
         go_simp
         refine (clamp_p _ _ _).mono ?_
         rintro e w' ⟨rfl,rfl⟩
         refine hKK.out _ _ ⟨c_c2,c_c5⟩ (fun hHeld=>?_)
         clear hKK K
         try simp only [put_pack]
         refine wpAnyH_ready (rs:=[4]) (by kernel_rfl) (by simp) ?_
         refine AllReadyH.cons rfl (fun K hKK=>?_) (AllReadyH.nil)
         go_simp
         refine (unpack_x _ _ _).mono ?_
         rintro e w2 ⟨rfl,hx⟩
         clear c_c2 c_c5
         replace hK:=hK.trans (Keep.of_ext hx hP.lt hP.le)
         replace c2:=c2.ext hx hP.lt
         have c_c2:=c2.cells
         replace c5:=c5.ext hx hP.lt
         have c_c5:=c5.cells
         replace hP:=hP.ext hx
         clear hx
         refine hKK.out _ _ ⟨c_c2,c_c5⟩ (fun hHeld=>?_)
         clear hKK K
         try simp only [put_pack]
         refine tkb 5 ?_
         iterate 5
          refine tkn (v:=?_) rfl (by kernel_rfl) (fun _ _ _ h=>h) (by assumption) ?_ ?_
          rotate_left
          · (intro w hSw;(try dsimp only at hSw);go_simp;try with_reducible rfl)
          try simp only [put_pack]
         refine tke ?_
         refine wpAnyH_done (by kernel_rfl) ?_ _
         exact⟨rfl,hP,hK⟩
       · rintro a' W' ⟨rfl,hP,hK⟩
         simp only [List.setIfInBounds_toArray,List.set_cons_zero,List.set_cons_succ]
         have hf:=hO.done hP hK
         refine wpF_of_wp ?_
         go_wp2_with fail
         exact leavesM_cons (fun hx=>nomatch hx) hf.1 (leavesM_cons (fun hx=>nomatch hx) hf.2.1 (leavesM_ret0 (v:=.int .i64 (unLo x (clamp top 1048576))) (by simp [results,Tryz.results83,go_sem]) hf.2.2))
      case pan2 =>
       intro S W c hc hO1 hX hS hD
       have hK1:KeepP B p W1 W:=KeepX.after hK hX (fun _ h=>h.elim)
       have hf:=hO1.stop (hS.put (.deferred none) hD.2 (by have:=hP.le;omega)) (hK1.put (o:=.deferred none) hK.size hD.2 hBW)
       rw [hc] at hf
       exact leavesM_cons (fun hx=>nomatch hx) hD.1 (leavesM_cons (fun hx=>nomatch hx) hf.1 (leavesM_panic0 hf.2))
     case pan =>
      intro S W c hc hO1 hX hS hD
      have hK1:KeepP B p w W:=KeepX.after hK hX (fun b hb=>by rw [hb];exact lw)
      refine leavesM_cons (fun hx=>nomatch hx) hD.1 (leavesM_panic0 ?_)
      rw [<- hc]
      exact hO1.stop (hS.put _ hD.2 (by have:=hP.le;omega)) (hK1.put hK.size hD.2 hBw.out)
end Go.Proofs.YtbphlkaihfbgeaaGreat
namespace Go.Proofs.YtbphlkaihfbgeaaGreat
open Go.RowKit Kv
theorem mthreads_p (n:Int)(w:World)(h1:1<=n)(h2:n<=8):Calls Tryz.prog 120 #[.int .i64 n] w fun e w'=>e=.returned (.int .i64 n)/\w=w':=by
 go_enter Tryz.func120,Tryz.ntmps120
 go_wp2_with fail
 go_ret
 exact⟨ret_int (by show _=_;omega),rfl⟩
theorem mmost_p (t:Int)(w:World):Calls Tryz.prog 123 #[.int .i64 t] w fun e w'=>e=.returned (.int .i64 (clamp t 255))/\w=w':=by
 go_enter Tryz.func123,Tryz.ntmps123
 go_wp2_with fail
 refine (clamp_p _ _ _).mono ?_
 rintro e w' ⟨rfl,rfl⟩
 go_wp2_with fail
 go_ret
 exact⟨rfl,rfl⟩
theorem trlocals_p (w:World):Calls Tryz.prog 146 #[] w fun e w'=>e=.returned (.int .i64 4)/\w=w':=by
 go_enter Tryz.func146,Tryz.ntmps146
 go_wp2_with fail
 go_ret
 exact⟨rfl,rfl⟩
theorem slocals_p (w:World):Calls Tryz.prog 145 #[] w fun e w'=>e=.returned (.int .i64 18)/\w=w':=by
 go_enter Tryz.func145,Tryz.ntmps145
 go_wp2_with fail
 refine (trlocals_p _).mono ?_
 rintro e w' ⟨rfl,rfl⟩
 go_wp2_with fail
 go_ret
 exact⟨rfl,rfl⟩
theorem sq_bd (n:Int)(h1:1<=n)(h2:n<=8):0<=18*(n-1)/\18*(n-1)<=126/\0<=18*(n-1)*(n-1)/\18*(n-1)*(n-1)<=882:=by
 have h4:0<=18*(n-1)*(n-1):=Int.mul_nonneg (by omega) (by omega)
 have h5:18*(n-1)*(n-1)<=126*7:=Int.mul_le_mul (by omega) (by omega) (by omega) (by omega)
 omega
theorem tlocals_p (n:Int)(w:World)(h1:1<=n)(h2:n<=8):Calls Tryz.prog 144 #[.int .i64 n] w fun e w'=>e=.returned (.int .i64 (2+18*(n-1)*(n-1)))/\w=w':=by
 have hs:=sq_bd n h1 h2
 go_enter Tryz.func144,Tryz.ntmps144
 go_wp2_with fail
 refine (threads_p n _ h1 h2).mono ?_
 rintro e w' ⟨rfl,rfl⟩
 go_wp2_with fail
 refine (slocals_p _).mono ?_
 rintro e w' ⟨rfl,rfl⟩
 go_wp2_with fail
 go_ret
 exact⟨rfl,rfl⟩
theorem many_bd (n j:Int)(h1:1<=n)(h2:n<=8)(h3:0<=j/\j<n):(0<=16*j*(n-1)/\16*j*(n-1)<=784)/\(0<=16*j*(n-1)*(n-1)/\16*j*(n-1)*(n-1)<=5488)/\(0<=j*(2+18*(n-1)*(n-1))/\j*(2+18*(n-1)*(n-1))<=6188):=by
 have hs:=sq_bd n h1 h2
 have a1:0<=16*j*(n-1):=Int.mul_nonneg (by omega) (by omega)
 have a2:16*j*(n-1)<=112*7:=Int.mul_le_mul (by omega) (by omega) (by omega) (by omega)
 have a3:0<=16*j*(n-1)*(n-1):=Int.mul_nonneg a1 (by omega)
 have a4:16*j*(n-1)*(n-1)<=784*7:=Int.mul_le_mul (by omega) (by omega) (by omega) (by omega)
 have a5:0<=j*(2+18*(n-1)*(n-1)):=Int.mul_nonneg (by omega) (by omega)
 have a6:j*(2+18*(n-1)*(n-1))<=7*884:=Int.mul_le_mul (by omega) (by omega) (by omega) (by omega)
 omega
set_option maxHeartbeats 1000000 in
theorem of_p (r:Reg)(j:Int)(w:World)(h1:1<=r.n)(h2:r.n<=8)(h3:0<=j/\j<r.n)(hb1:0<=r.base)(hb2:r.base<=50000)(hl1:0<=r.loc)(hl2:r.loc<=49000) :
  Calls Tryz.prog 122 #[encR r,.int .i64 j] w fun e w'=>e=.returned (encR ⟨6,manyB r.base r.n j,manyL r.loc r.n j,r.n,j,-1,manyTop r.top⟩)/\Ext w w':=by
 obtain⟨kind,base,loc,n,wr,rd,top⟩:=r
 simp only at h1 h2 h3 hb1 hb2 hl1 hl2
 have hm:=many_bd n j h1 h2 h3
 have hs:=sq_bd n h1 h2
 unfold encR manyB manyL manyTop
 have c1:=cell_of_heap (heap_alloc_new w (.cells #[.int .i64 kind,.int .i64 base,.int .i64 loc,.int .i64 n,.int .i64 wr,.int .i64 rd,.int .i64 top] 87))
 have w1:=IntWalk.i64_in (16*j) (by omega)
 have w2:=IntWalk.i64_in (n-1) (by omega)
 have w3:=IntWalk.i64_in (16*j*(n-1)) (by omega)
 have w4:=IntWalk.i64_in (16*j*(n-1)*(n-1)) (by omega)
 have w5:=IntWalk.i64_in (base+16*j*(n-1)*(n-1)) (by omega)
 have w6:=IntWalk.i64_in (j*(2+18*(n-1)*(n-1))) (by omega)
 have w7:=IntWalk.i64_in (loc+j*(2+18*(n-1)*(n-1))) (by omega)
 have hmh:=Lib.hid hm
 have hsh:=Lib.hid hs
 clear hm hs
 go_enter Tryz.func122,Tryz.ntmps122
 go_wp2_with fail
 refine (mthreads_p n _ h1 h2).mono ?_
 rintro e w' ⟨rfl,rfl⟩
 go_wp2_with fail
 go_region_held2 (fun w'=>∀ i:Nat,w'.cell? ⟨w.heap.size,i,none⟩=(#[.int .i64 kind,.int .i64 base,.int .i64 loc,.int .i64 n,.int .i64 wr,.int .i64 rd,.int .i64 top]:Array Value)[i]?) (first | assumption | go_keep | (intro i;simp [*]))
  (first
    | (go_at_call 144
       refine (tlocals_p n _ h1 h2).mono ?_
       rintro e w' ⟨rfl,rfl⟩)
    | (go_at_call 123
       refine (mmost_p top _).mono ?_
       rintro e w' ⟨rfl,rfl⟩)
    | (go_at_call 116
       refine (pack_p _ _ _ _).mono ?_
       rintro e w' ⟨rfl,rfl⟩))
 go_wp2_with fail
 refine bodyPost_ret (v:=.agg #[.int .i64 6,.int .i64 (base+16*j*(n-1)*(n-1)),.int .i64 (loc+j*(2+18*(n-1)*(n-1))),.int .i64 n,.int .i64 j,.int .i64 (-1),.int .i64 (packI 4095 (clamp top 255) (clamp top 255))]) (by simp [results,Tryz.results122,go_sem]) rfl ?_
 exact⟨rfl,(((Ext.refl _).alloc _).alloc _).drewN 1⟩
def encP (q:Int × Int):Value:=.agg #[.int .i64 q.1,.int .i64 q.2]
@[go_sem] theorem encP_eq (q:Int × Int):encP q=.agg #[.int .i64 q.1,.int .i64 q.2]:=rfl
theorem Held.set2 {ix:List Nat}{w:World}{p b:Nat}{u v:Value}{t:TypeId}(h:Held ix w p b (.cells #[u,v] t (0,0)))(u' v':Value):Held ix ((w.setCell ⟨b,0,none⟩ u').setCell ⟨b,1,none⟩ v') p b (.cells #[u',v'] t (0,0)):=by
 have h1:Held ix (w.setCell ⟨b,0,none⟩ u') p b (.cells #[u',v] t (0,0)):=⟨heap_setCell h.1 u',fun h'=>h.2 ((ownR_same ((OneB.setCell w b 0 u').block p (fun e=>h.2 (.inl e.symm))) b).1 h')⟩
 exact⟨heap_setCell h1.1 v',fun h'=>h1.2 ((ownR_same ((OneB.setCell _ b 1 v').block p (fun e=>h1.2 (.inl e.symm))) b).1 h')⟩
theorem OneB.set2 (w:World)(b:Nat)(u v:Value):OneB b w ((w.setCell ⟨b,0,none⟩ u).setCell ⟨b,1,none⟩ v) :=
 ⟨rfl,rfl,rfl,by simp,fun k hk=>(heap_setCell_ne _ v hk).trans (heap_setCell_ne w u hk)⟩
theorem manyRs_step (b l n top me:Int)(k:Nat)(j s v:Int):manyRs b l n top me (k+1) j s v=(tableR (manyB b n j) (manyL l n j) n j (manyTop top) me).bind fun y =>
   if s<=unHi y (clamp top 255) then manyRs b l n top me k (j+1) (unHi y (clamp top 255)) (unLo y (clamp top 255)) else manyRs b l n top me k (j+1) s v:=rfl
set_option maxHeartbeats 2000000 in
theorem greatest_p (B p:Nat)(S:TS)(r:Reg)(me:Int)(w:World)(h:Plays B w p S)(hn1:1<=r.n)(hn2:r.n<=8)(hm:0<=me/\me<r.n)(hb1:0<=r.base)(hb2:r.base<=50000)(hl1:0<=r.loc)(hl2:r.loc<=49000) :
  Calls Tryz.prog 121 #[.pointer (some ⟨p,0,none⟩),encR r,.int .i64 me] w (Post encP B p w ((manyRs r.base r.loc r.n r.top me r.n.toNat 0 0 0).run S)):=by
 generalize hR:Post encP B p w ((manyRs r.base r.loc r.n r.top me r.n.toNat 0 0 0).run S)=R
 have hO:Owes R encP B p w ((manyRs r.base r.loc r.n r.top me r.n.toNat 0 0 0).run S):=hR▸owes _ _ _ _ _
 clear hR
 obtain⟨kind,base,loc,n,wr',rd,top⟩:=r
 simp only at hn1 hn2 hm hb1 hb2 hl1 hl2 hO
 unfold encR
 have hK:=Keep.refl [2,3,4] B p w
 have hP:=h
 have b1:=hP.held (.cells #[.int .i64 kind,.int .i64 base,.int .i64 loc,.int .i64 n,.int .i64 wr',.int .i64 rd,.int .i64 top] 87)
 replace hK:=hK.trans (Keep.alloc (.cells #[.int .i64 kind,.int .i64 base,.int .i64 loc,.int .i64 n,.int .i64 wr',.int .i64 rd,.int .i64 top] 87) hP.lt hP.le)
 replace hP:=hP.alloc (.cells #[.int .i64 kind,.int .i64 base,.int .i64 loc,.int .i64 n,.int .i64 wr',.int .i64 rd,.int .i64 top] 87)
 have b2:=hP.held (.cells #[.int .i64 0,.int .i64 0] 123)
 simp only [World.size_alloc] at b2
 replace b1:=b1.alloc (.cells #[.int .i64 0,.int .i64 0] 123) hP.lt
 replace hK:=hK.trans (Keep.alloc (.cells #[.int .i64 0,.int .i64 0] 123) hP.lt hP.le)
 replace hP:=hP.alloc (.cells #[.int .i64 0,.int .i64 0] 123)
 have b3:=hP.held (.cells #[.int .i64 0,.int .i64 0] 123)
 simp only [World.size_alloc] at b3
 replace b1:=b1.alloc (.cells #[.int .i64 0,.int .i64 0] 123) hP.lt
 replace b2:=b2.alloc (.cells #[.int .i64 0,.int .i64 0] 123) hP.lt
 replace hK:=hK.trans (Keep.alloc (.cells #[.int .i64 0,.int .i64 0] 123) hP.lt hP.le)
 replace hP:=hP.alloc (.cells #[.int .i64 0,.int .i64 0] 123)
 have c_b1:=b1.cells
 have c_b2:=b2.cells
 have c_b3:=b3.cells
 have hBw:=Lib.hid h.le
 clear h
 go_enter Tryz.func121,Tryz.ntmps121
 go_wp2_with fail
 refine (mthreads_p n _ hn1 hn2).mono ?_
 rintro e w' ⟨rfl,rfl⟩
 go_wp2_with fail
 obtain⟨N,rfl⟩:∃ N:Nat,n=(N:Int):=⟨n.toNat,by omega⟩
 rw [Int.toNat_natCast] at hO
 go_loopw [14] (fun z wr=>∃ (j:Nat) (s v:Int) (S:TS),z=.int .i64 j/\j<=N/\HeldP wr p w.heap.size (.cells #[.int .i64 kind,.int .i64 base,.int .i64 loc,.int .i64 (N:Int),.int .i64 wr',.int .i64 rd,.int .i64 top] 87)/\HeldP wr p (w.heap.size+1) (.cells #[.int .i64 0,.int .i64 0] 123)/\HeldP wr p (w.heap.size+1+1) (.cells #[.int .i64 s,.int .i64 v] 123)/\Plays B wr p S/\KeepP B p w wr/\Owes R encP B p w ((manyRs base loc N top me (N-j) j s v).run S)) (fun z _=>N-(intOf z).toNat)
 case atStart=>exact⟨0,0,0,S,rfl,by omega,b1,b2,b3,hP,hK,hO⟩
 case round =>
  clear b1 b2 b3 c_b1 c_b2 c_b3 hO hP hK
  obtain⟨j,s,v,S,rfl,hj,b1,b2,b3,hP,hK,hO⟩:=hrel
  have c_b1:=b1.cells
  have c_b2:=b2.cells
  have c_b3:=b3.cells
  by_cases hlt:j<N
  · obtain⟨k,hk⟩:∃ k,N-j=k+1:=⟨N-j-1,by omega⟩
    have hkh:=Lib.hid hk
    rw [hk,manyRs_step] at hO
    clear hk
    have hm2:=many_bd N j hn1 hn2 (by omega)
    go_wp2_with fail
    replace hP:=hP.drew
    replace hK:=hK.drew
    replace b1:=b1.drew
    replace b2:=b2.drew
    replace b3:=b3.drew
    go_region_held2 (fun w'=>∀ i:Nat,w'.cell? ⟨w.heap.size,i,none⟩=(#[.int .i64 kind,.int .i64 base,.int .i64 loc,.int .i64 (N:Int),.int .i64 wr',.int .i64 rd,.int .i64 top]:Array Value)[i]?) (first | exact c_b1 | go_keep)
     (first
       | (go_at_call 122
          refine (of_p ⟨kind,base,loc,N,wr',rd,top⟩ j _ hn1 hn2 (by simp only;omega) hb1 hb2 hl1 hl2).mono ?_
          rintro e w2 ⟨rfl,hx⟩
          clear c_b1 c_b2 c_b3
          replace hK:=hK.trans (Keep.of_ext hx hP.lt hP.le)
          replace b1:=b1.ext hx hP.lt
          have c_b1:=b1.cells
          replace b2:=b2.ext hx hP.lt
          have c_b2:=b2.cells
          replace b3:=b3.ext hx hP.lt
          have c_b3:=b3.cells
          replace hP:=hP.ext hx
          clear hx)
       | (go_at_call 83
          refine tstep hO hK (table_read_p B p S ⟨6,manyB base N j,manyL loc N j,N,j,-1,manyTop top⟩ me _ hP hn1 hn2 (by simp only;omega) (by simp only;omega) hm (by simp only [manyB];omega) (by simp only [manyB];omega) (by simp only [manyL];omega) (by simp only [manyL];omega)) (fun _ h=>⟨rfl,h⟩) ?_
          clear hO hK hP c_b1 c_b2 c_b3
          intro y S w1 hr hP hk hK hO
          replace b1:=b1.keep hk
          have c_b1:=b1.cells
          replace b2:=b2.keep hk
          have c_b2:=b2.cells
          replace b3:=b3.keep hk
          have c_b3:=b3.cells
          clear hk hr)
       | (go_at_call 123
          refine (mmost_p top _).mono ?_
          rintro e w' ⟨rfl,rfl⟩)
       | (go_at_call 128
          refine (unpack_x _ _ _).mono ?_
          rintro e w2 ⟨rfl,hx⟩
          clear c_b1 c_b2 c_b3
          replace hK:=hK.trans (Keep.of_ext hx hP.lt hP.le)
          replace b1:=b1.ext hx hP.lt
          have c_b1:=b1.cells
          replace b2:=b2.ext hx hP.lt
          have c_b2:=b2.cells
          replace b3:=b3.ext hx hP.lt
          have c_b3:=b3.cells
          replace hP:=hP.ext hx
          clear hx))
    clear hm2
    generalize unHi y (clamp top 255)=hi at *
    generalize unLo y (clamp top 255)=lo at *
    have hks:=Lib.hid hK.size
    by_cases hs:s<=hi
    · rw [if_pos hs] at hO
      have f_b3:=frozen_of_heap b3.1
      have hOh:=Lib.hid hO
      have hPh:=Lib.hid hP
      have hKh:=Lib.hid hK
      clear hO hP hK
      have n3:=b3.2
      go_wp2_with fail
      have o3:=OneB.set2 w2 (w.heap.size+1+1) (.int .i64 hi) (.int .i64 lo)
      refine⟨⟨j+1,hi,lo,S,by go_num,by omega,b1.one o3 (by omega) n3,b2.one o3 (by omega) n3,b3.set2 _ _,hPh.out.one o3 n3 (by have:=hBw.out;omega),hKh.out.one o3 (by omega) n3 hBw.out,?_⟩,by simp [intOf];omega⟩
      rw [show N-(j+1)=k from by have:=hkh.out;omega,show ((j+1:Nat):Int)=(j:Int)+1 from by omega]
      exact hOh.out
    · rw [if_neg hs] at hO
      have hOh:=Lib.hid hO
      have hPh:=Lib.hid hP
      have hKh:=Lib.hid hK
      clear hO hP hK
      go_wp2_with fail
      refine⟨⟨j+1,s,v,S,by go_num,by omega,b1,b2,b3,hPh.out,hKh.out,?_⟩,by simp [intOf];omega⟩
      rw [show N-(j+1)=k from by have:=hkh.out;omega,show ((j+1:Nat):Int)=(j:Int)+1 from by omega]
      exact hOh.out
  · obtain rfl:j=N:=by omega
    rw [Nat.sub_self] at hO
    have f_b2:=frozen_of_heap b2.1
    have o2:=OneB.set2 wr (w.heap.size+1) (.int .i64 s) (.int .i64 v)
    have hf:R (.returned (encP (s,v))) _:=hO.done (hP.one o2 b2.2 (by have:=hBw.out;omega)) (hK.one o2 (by omega) b2.2 hBw.out)
    have hr:=(b2.set2 (.int .i64 s) (.int .i64 v)).cells
    clear hO o2
    go_wp2_with fail
    exact bodyPost_ret (v:=.agg #[.int .i64 s,.int .i64 v]) (by simp [results,Tryz.results121,go_sem,hr]) rfl hf
theorem unHi_bd (y t:Int):0<=unHi y t/\unHi y t<=4398046511104:=by
 have h1:=unX_bd y
 have h2:=room_bd t
 unfold unHi
 exact⟨Int.ediv_nonneg h1.1 (by omega),Int.le_trans (Int.ediv_le_self _ h1.1) h1.2⟩
theorem manyRs_le (b l n top me:Int):∀ (k:Nat) (j s v:Int) (S:TS) (q:Int × Int) (S1:TS),(manyRs b l n top me k j s v).run S=(some q,S1)->0<=s/\s<=4398046511104->0<=q.1/\q.1<=4398046511104
 | 0,j,s,v,S,q,S1,h,hs=>by
   cases h
   exact hs
 | k+1,j,s,v,S,q,S1,h,hs=>by
   rw [manyRs_step,Prog.run_bind] at h
   generalize (tableR (manyB b n j) (manyL l n j) n j (manyTop top) me).run S=r at h
   obtain⟨o,S2⟩:=r
   cases o with
   | none=>cases h
   | some y =>
     simp only [thenR] at h
     split at h
     · exact manyRs_le b l n top me k _ _ _ _ _ _ h (unHi_bd _ _)
     · exact manyRs_le b l n top me k _ _ _ _ _ _ h hs
set_option maxRecDepth 100000 in
theorem many_write_p (B p:Nat)(S:TS)(r:Reg)(me v:Int)(w:World)(h:Plays B w p S)(hn1:1<=r.n)(hn2:r.n<=8)(hm:0<=me/\me<r.n)(hb1:0<=r.base)(hb2:r.base<=50000)(hl1:0<=r.loc)(hl2:r.loc<=49000) :
  Calls Tryz.prog 77 #[.pointer (some ⟨p,0,none⟩),encR r,.int .i64 me,.int .i64 v] w (Post encU B p w ((manyW r.base r.loc r.n r.top me v).run S)):=by
 generalize hR:Post encU B p w ((manyW r.base r.loc r.n r.top me v).run S)=R
 have hO:Owes R encU B p w ((manyW r.base r.loc r.n r.top me v).run S):=hR▸owes _ _ _ _ _
 clear hR
 obtain⟨kind,base,loc,n,wr,rd,top⟩:=r
 simp only at hn1 hn2 hm hb1 hb2 hl1 hl2 hO
 unfold encR
 obtain⟨b1,hK,hP⟩:=h.entry (.cells #[.int .i64 kind,.int .i64 base,.int .i64 loc,.int .i64 n,.int .i64 wr,.int .i64 rd,.int .i64 top] 87)
 have c_b1:=b1.cells
 clear h
 unfold manyW at hO
 have hd1:decide (me<0)=false:=by simpa using hm.1
 have hd2:decide (n<=me)=false:=by simpa using hm.2
 go_enter Tryz.func77,Tryz.ntmps77
 go_wp2_with fail
 refine (mthreads_p n _ hn1 hn2).mono ?_
 rintro e w' ⟨rfl,rfl⟩
 go_wp2_with fail
 refine tstep hO hK (greatest_p B p S ⟨kind,base,loc,n,wr,rd,top⟩ me _ hP hn1 hn2 hm hb1 hb2 hl1 hl2) (fun _ h=>⟨rfl,h⟩) ?_
 clear hO hK hP c_b1
 intro q S w1 hr hP hk hK hO
 replace b1:=b1.keep hk
 have c_b1:=b1.cells
 have hq:=manyRs_le _ _ _ _ _ _ _ _ _ _ _ _ hr (by omega)
 obtain⟨q1,q2⟩:=q
 simp only at hq hO
 have hq1:=IntWalk.i64_in (q1+1) (by omega)
 have hm2:=many_bd n me hn1 hn2 hm
 clear hk hr
 have hfd:∀ w:World,(Instr.field 123 (.agg #[.int .i64 q1,.int .i64 q2]) 0).run Tryz.prog w=.ok (.int .i64 q1) w:=fun _=>by kernel_rfl
 rw [encP_eq]
 go_wp2_with fail
 replace hP:=hP.drew
 replace hK:=hK.drew
 replace b1:=b1.drew
 go_region_held2 (fun w'=>∀ i:Nat,w'.cell? ⟨w.heap.size,i,none⟩=(#[.int .i64 kind,.int .i64 base,.int .i64 loc,.int .i64 n,.int .i64 wr,.int .i64 rd,.int .i64 top]:Array Value)[i]?) (first | exact c_b1 | go_keep)
  (first
    | (go_at_call 122
       refine (of_p ⟨kind,base,loc,n,wr,rd,top⟩ me _ hn1 hn2 (by simp only;omega) hb1 hb2 hl1 hl2).mono ?_
       rintro e w2 ⟨rfl,hx⟩
       clear c_b1
       replace hK:=hK.trans (Keep.of_ext hx hP.lt hP.le)
       replace b1:=b1.ext hx hP.lt
       have c_b1:=b1.cells
       replace hP:=hP.ext hx
       clear hx)
    | (go_at_call 123
       refine (mmost_p top _).mono ?_
       rintro e w' ⟨rfl,rfl⟩)
    | (go_at_call 85
       refine (clamp_p _ _ _).mono ?_
       rintro e w' ⟨rfl,rfl⟩)
    | (go_at_call 116
       refine (pack_p _ _ _ _).mono ?_
       rintro e w' ⟨rfl,rfl⟩)
    | (go_at_call 76
       refine tlast hO hK (table_write_p B p S ⟨6,manyB base n me,manyL loc n me,n,me,-1,manyTop top⟩ me _ _ hP hn1 hn2 (by simp only;omega) (by simp only;omega) (by simp only [manyB];omega) (by simp only [manyB];omega) (by simp only [manyL];omega) (by simp only [manyL];omega)) (fun _ h=>⟨rfl,h⟩) ?_
       clear hO hK hP c_b1
       intro y S w1 hr hP hk hK hO
       replace b1:=b1.keep hk
       have c_b1:=b1.cells
       clear hk hr))
 go_wp2_with fail
 first | go_end0 | refine bodyPost_ret (results_none rfl _ _ _) rfl ?_
 exact hO.done hP hK
set_option maxRecDepth 100000 in
theorem many_read_p (B p:Nat)(S:TS)(r:Reg)(me:Int)(w:World)(h:Plays B w p S)(hn1:1<=r.n)(hn2:r.n<=8)(hm:0<=me/\me<r.n)(hb1:0<=r.base)(hb2:r.base<=50000)(hl1:0<=r.loc)(hl2:r.loc<=49000) :
  Calls Tryz.prog 84 #[.pointer (some ⟨p,0,none⟩),encR r,.int .i64 me] w (Post encI B p w ((manyR r.base r.loc r.n r.top me).run S)):=by
 generalize hR:Post encI B p w ((manyR r.base r.loc r.n r.top me).run S)=R
 have hO:Owes R encI B p w ((manyR r.base r.loc r.n r.top me).run S):=hR▸owes _ _ _ _ _
 clear hR
 obtain⟨kind,base,loc,n,wr,rd,top⟩:=r
 simp only at hn1 hn2 hm hb1 hb2 hl1 hl2 hO
 unfold encR
 obtain⟨b1,hK,hP⟩:=h.entry (.cells #[.int .i64 kind,.int .i64 base,.int .i64 loc,.int .i64 n,.int .i64 wr,.int .i64 rd,.int .i64 top] 87)
 have c_b1:=b1.cells
 clear h
 unfold manyR at hO
 have hd1:decide (me<0)=false:=by simpa using hm.1
 have hd2:decide (n<=me)=false:=by simpa using hm.2
 go_enter Tryz.func84,Tryz.ntmps84
 go_wp2_with fail
 refine (mthreads_p n _ hn1 hn2).mono ?_
 rintro e w' ⟨rfl,rfl⟩
 go_wp2_with fail
 refine tstep hO hK (greatest_p B p S ⟨kind,base,loc,n,wr,rd,top⟩ me _ hP hn1 hn2 hm hb1 hb2 hl1 hl2) (fun _ h=>⟨rfl,h⟩) ?_
 clear hO hK hP c_b1
 intro q S w1 hr hP hk hK hO
 replace b1:=b1.keep hk
 have c_b1:=b1.cells
 clear hk hr
 obtain⟨q1,q2⟩:=q
 simp only at hO
 have hfd:∀ w:World,(Instr.field 123 (.agg #[.int .i64 q1,.int .i64 q2]) 1).run Tryz.prog w=.ok (.int .i64 q2) w:=fun _=>by kernel_rfl
 rw [encP_eq]
 go_wp2_with fail
 exact hO.done hP hK
set_option maxRecDepth 100000 in
set_option maxHeartbeats 2000000 in
theorem reg_write_p (B p:Nat)(S:TS)(r:Reg)(me v:Int)(w:World)(h:Plays B w p S)(hr:r.ok)(hm:0<=me/\me<r.n) :
  Calls Tryz.prog 62 #[.pointer (some ⟨p,0,none⟩),encR r,.int .i64 me,.int .i64 v] w (Post encU B p w ((regW r me v).run S)):=by
 generalize hR:Post encU B p w ((regW r me v).run S)=R
 have hO:Owes R encU B p w ((regW r me v).run S):=hR▸owes _ _ _ _ _
 clear hR
 obtain⟨hk,hb,hl,hn,hw⟩:=hr
 obtain⟨kind,base,loc,n,wr,rd,top⟩:=r
 simp only at hk hb hl hn hw hm hO
 unfold encR
 obtain⟨b1,hK,hP⟩:=h.entry (.cells #[.int .i64 kind,.int .i64 base,.int .i64 loc,.int .i64 n,.int .i64 wr,.int .i64 rd,.int .i64 top] 87)
 have c_b1:=b1.cells
 clear h
 unfold regW at hO
 simp only at hO
 rcases hk with rfl | rfl | rfl
 · simp at hO
   go_enter Tryz.func62,Tryz.ntmps62
   go_wp2_with fail
   refine tlast hO hK (write_p B p S _ _ _ hP) (fun _ h=>⟨rfl,h⟩) ?_
   clear hO hK hP c_b1
   intro u S w1 hr hP hk hK hO
   replace b1:=b1.keep hk
   have c_b1:=b1.cells
   clear hk hr
   go_wp2_with fail
   first | go_end0 | refine bodyPost_ret (results_none rfl _ _ _) rfl ?_
   exact hO.done hP hK
 · simp at hO
   obtain⟨hw1,hw2⟩:=hw rfl
   clear hw
   go_enter Tryz.func62,Tryz.ntmps62
   go_wp2_with fail
   refine tlast hO hK (table_write_p B p S ⟨6,base,loc,n,wr,rd,top⟩ me v _ hP hn.1 hn.2 hw1 hw2 hb.1 (by simp only;omega) hl.1 (by simp only;omega)) (fun _ h=>⟨rfl,h⟩) ?_
   clear hO hK hP c_b1
   intro u S w1 hr hP hk hK hO
   replace b1:=b1.keep hk
   have c_b1:=b1.cells
   clear hk hr
   go_wp2_with fail
   first | go_end0 | refine bodyPost_ret (results_none rfl _ _ _) rfl ?_
   exact hO.done hP hK
 · simp at hO
   go_enter Tryz.func62,Tryz.ntmps62
   go_wp2_with fail
   refine tlast hO hK (many_write_p B p S ⟨7,base,loc,n,wr,rd,top⟩ me v _ hP hn.1 hn.2 hm hb.1 (by simp only;omega) hl.1 (by simp only;omega)) (fun _ h=>⟨rfl,h⟩) ?_
   clear hO hK hP c_b1
   intro u S w1 hr hP hk hK hO
   replace b1:=b1.keep hk
   have c_b1:=b1.cells
   clear hk hr
   go_wp2_with fail
   first | go_end0 | refine bodyPost_ret (results_none rfl _ _ _) rfl ?_
   exact hO.done hP hK
set_option maxRecDepth 100000 in
set_option maxHeartbeats 2000000 in
theorem reg_read_p (B p:Nat)(S:TS)(r:Reg)(me:Int)(w:World)(h:Plays B w p S)(hr:r.ok)(hm:0<=me/\me<r.n) :
  Calls Tryz.prog 63 #[.pointer (some ⟨p,0,none⟩),encR r,.int .i64 me] w (Post encI B p w ((regR r me).run S)):=by
 generalize hR:Post encI B p w ((regR r me).run S)=R
 have hO:Owes R encI B p w ((regR r me).run S):=hR▸owes _ _ _ _ _
 clear hR
 obtain⟨hk,hb,hl,hn,hw⟩:=hr
 obtain⟨kind,base,loc,n,wr,rd,top⟩:=r
 simp only at hk hb hl hn hw hm hO
 unfold encR
 obtain⟨b1,hK,hP⟩:=h.entry (.cells #[.int .i64 kind,.int .i64 base,.int .i64 loc,.int .i64 n,.int .i64 wr,.int .i64 rd,.int .i64 top] 87)
 have c_b1:=b1.cells
 clear h
 unfold regR at hO
 simp only at hO
 rcases hk with rfl | rfl | rfl
 · simp at hO
   go_enter Tryz.func63,Tryz.ntmps63
   go_wp2_with fail
   refine tlast hO hK (read_p B p S _ _ hP) (fun _ h=>⟨rfl,h⟩) ?_
   clear hO hK hP c_b1
   intro x S w1 hr hP hk hK hO
   replace b1:=b1.keep hk
   have c_b1:=b1.cells
   clear hk hr
   go_wp2_with fail
   exact hO.done hP hK
 · simp at hO
   obtain⟨hw1,hw2⟩:=hw rfl
   clear hw
   go_enter Tryz.func63,Tryz.ntmps63
   go_wp2_with fail
   refine tlast hO hK (table_read_p B p S ⟨6,base,loc,n,wr,rd,top⟩ me _ hP hn.1 hn.2 hw1 hw2 hm hb.1 (by simp only;omega) hl.1 (by simp only;omega)) (fun _ h=>⟨rfl,h⟩) ?_
   clear hO hK hP c_b1
   intro x S w1 hr hP hk hK hO
   replace b1:=b1.keep hk
   have c_b1:=b1.cells
   clear hk hr
   go_wp2_with fail
   exact hO.done hP hK
 · simp at hO
   go_enter Tryz.func63,Tryz.ntmps63
   go_wp2_with fail
   refine tlast hO hK (many_read_p B p S ⟨7,base,loc,n,wr,rd,top⟩ me _ hP hn.1 hn.2 hm hb.1 (by simp only;omega) hl.1 (by simp only;omega)) (fun _ h=>⟨rfl,h⟩) ?_
   clear hO hK hP c_b1
   intro x S w1 hr hP hk hK hO
   replace b1:=b1.keep hk
   have c_b1:=b1.cells
   clear hk hr
   go_wp2_with fail
   exact hO.done hP hK
end Go.Proofs.YtbphlkaihfbgeaaGreat
namespace Kv
inductive Prog.Asks {α:Type}:Prog α->Prop
 | read (c:Int) (k:Int->Prog α):Asks (.read c k)
 | write (c v:Int) (k:Unit->Prog α):Asks (.write c v k)
 | get (i:Int) {k:Int->Prog α}:(∀ x,Asks (k x))->Asks (.get i k)
 | set (i v:Int) {k:Unit->Prog α}:Asks (k ())->Asks (.set i v k)
 | note (m:Int) {k:Unit->Prog α}:Asks (k ())->Asks (.note m k)
theorem Prog.Asks.bind {α β:Type}{p:Prog α}(h:p.Asks)(f:α->Prog β):(p.bind f).Asks:=by
 induction h with
 | read c k=>exact .read _ _
 | write c v k=>exact .write _ _ _
 | get i _ ih=>exact .get i fun x=>ih x
 | set i v _ ih=>exact .set i v ih
 | note m _ ih=>exact .note m ih
theorem Prog.Asks.then {α β:Type}{f:α->Prog β}(h:∀ a,(f a).Asks):∀ p:Prog α,(p.bind f).Asks
 | .ret a=>h a
 | .read _ _=>.read _ _
 | .write _ _ _=>.write _ _ _
 | .get i k=>.get i fun x=>Asks.then h (k x)
 | .set i v k=>.set i v (Asks.then h (k ()))
 | .note m k=>.note m (Asks.then h (k ()))
theorem Prog.run_len {α:Type}(p:Prog α)(S:TS):S.acc.length<=(p.run S).2.acc.length:=by
 obtain⟨l,h⟩:=Prog.run_acc p S
 rw [h];simp
theorem Prog.Asks.run {α:Type}{p:Prog α}(h:p.Asks):∀ S:TS,S.acc.length<(p.run S).2.acc.length:=by
 induction h with
 | read c k =>
   intro S
   simp only [Prog.run]
   cases S.next with
   | none=>simp [TS.put]
   | some v=>have:=Prog.run_len (k v) (S.put ⟨1,c,0⟩);simp [TS.put] at this ⊢;omega
 | write c v k =>
   intro S
   simp only [Prog.run]
   cases S.next with
   | none=>simp [TS.put]
   | some _=>have:=Prog.run_len (k ()) (S.put ⟨2,c,v⟩);simp [TS.put] at this ⊢;omega
 | get i _ ih=>intro S;exact ih _ _
 | set i v _ ih=>intro S;have:=ih (S.upd i v);rw [TS.upd_acc] at this;exact this
 | note m _ ih=>intro S;exact ih (S.noted m)
def TS.left (S:TS):Nat:=S.ans.length-S.acc.length
theorem Prog.run_left {α:Type}(p:Prog α)(S:TS):(p.run S).2.left<=S.left:=by
 have h1:=Prog.run_ans p S
 have h2:=Prog.run_len p S
 unfold TS.left
 rw [h1];omega
theorem Prog.Asks.left {α:Type}{p:Prog α}(h:p.Asks){S S1:TS}{a:α}(hr:p.run S=(some a,S1))(hl:S1.acc.length<=S1.ans.length):S1.left<S.left:=by
 have h1:=Prog.run_ans p S
 have h2:=h.run S
 rw [hr] at h1 h2
 simp only at h1 h2
 unfold TS.left
 rw [<- h1];omega
theorem asks_rd (c:Int):(rd c).Asks:=.read _ _
theorem asks_trompR (b l:Int):(trompR b l).Asks:=(asks_rd _).bind _
theorem asks_slotsR (b l:Int):(slotsR b l).Asks:=(asks_trompR _ _).bind _
theorem asks_tableR (b l n w top me:Int)(h:me≠w):(tableR b l n w top me).Asks:=by
 unfold tableR
 rw [if_neg h]
 exact (asks_slotsR _ _).bind _
theorem asks_manyRs (b l n top me:Int)(k:Nat)(j s v:Int):(manyRs b l n top me (k+2) j s v).Asks:=by
 by_cases h:me=j
 · unfold manyRs
   refine Prog.Asks.then (fun y=>?_) _
   split
   · exact (asks_tableR _ _ _ _ _ _ (by omega)).bind _
   · exact (asks_tableR _ _ _ _ _ _ (by omega)).bind _
 · exact (asks_tableR _ _ _ _ _ _ h).bind _
def Reg.told (r:Reg) (me:Int):Prop:=r.kind=1∨(r.kind=6/\me≠r.wr)∨(r.kind=7/\2<=r.n)
theorem asks_regR (r:Reg)(me:Int)(h:r.told me):(regR r me).Asks:=by
 unfold regR
 rcases h with h | ⟨h,h2⟩ | ⟨h,h2⟩
 · rw [if_pos h];exact asks_rd _
 · rw [if_neg (by omega),if_pos h];exact asks_tableR _ _ _ _ _ _ h2
 · rw [if_neg (by omega),if_neg (by omega)]
   unfold manyR
   obtain⟨k,hk⟩:∃ k:Nat,r.n.toNat=k+2:=⟨r.n.toNat-2,by omega⟩
   rw [hk]
   exact (asks_manyRs _ _ _ _ _ _ _ _ _).bind _
end Kv
namespace Go.Proofs.YtbphlkaihfbgeaaGreat
open Go.RowKit Kv
theorem bit_r (v:Int)(w:World):Calls Tryz.prog 52 #[.int .i64 v] w fun e w'=>e=.returned (.int .i64 (bitM v))/\w=w':=by
 unfold bitM
 by_cases hv:v=0
 · subst hv
   go_enter Tryz.func52,Tryz.ntmps52
   go_wp2_with fail
   go_ret
   exact⟨rfl,rfl⟩
 · rw [if_neg hv]
   have hv2:(v==0)=false:=by rw [beq_eq_false_iff_ne];exact hv
   go_enter Tryz.func52,Tryz.ntmps52
   go_wp2_with fail
   go_ret
   exact⟨rfl,rfl⟩
theorem tromp_write_r (B p:Nat)(o:Bool)(S:TS)(r:Reg)(v:Int)(w:World)(h:RAt B w p o S)(hb1:0<=r.base)(hb2:r.base<=60000)(hl1:0<=r.loc)(hl2:r.loc<=60000) :
  Calls Tryz.prog 95 #[.pointer (some ⟨p,0,none⟩),encR r,.int .i64 v] w (RPost encU B p w (trompW r.base r.loc v) o S):=by
 generalize hR:RPost encU B p w (trompW r.base r.loc v) o S=R
 have hO:ROwes R encU B p w (trompW r.base r.loc v) o S:=hR▸rowes _ _ _ _ _ _ _
 clear hR
 obtain⟨kind,base,loc,n,wr,rd,top⟩:=r
 simp only at hb1 hb2 hl1 hl2 hO
 unfold encR
 obtain⟨b1,hK,hP⟩:=h.entry (.cells #[.int .i64 kind,.int .i64 base,.int .i64 loc,.int .i64 n,.int .i64 wr,.int .i64 rd,.int .i64 top] 87)
 have c_b1:=b1.cells
 clear h
 unfold trompW at hO
 go_enter Tryz.func95,Tryz.ntmps95
 go_wp2_with fail
 refine (bit_r v _).mono ?_
 rintro e w' ⟨rfl,rfl⟩
 generalize bitM v=b at *
 go_wp2_with fail
 refine (get_r B p o S (loc) _ hP).mono ?_
 rintro e w' ⟨rfl,rfl⟩
 replace hO:=hO.get
 generalize S.got (loc)=x at hO ⊢
 by_cases hx:x=b
 · rw [if_pos hx] at hO
   subst hx
   go_wp2_with fail
   first | go_end0 | refine bodyPost_ret (results_none rfl _ _ _) rfl ?_
   exact hO.ret hP hK
 · rw [if_neg hx] at hO
   have hx2:(x==b)=false:=by rw [beq_eq_false_iff_ne];exact hx
   go_wp2_with fail
   refine rstep hO hK (write_r B p o S _ _ _ hP) ?_
   clear hO hK hP c_b1
   intro u o S w1 hP hk hK hO
   replace b1:=b1.keep hk
   have c_b1:=b1.cells
   clear hk
   go_wp2_with fail
   refine rstep hO hK (set_r B p o S _ _ _ hP) ?_
   clear hO hK hP c_b1
   intro u o S w1 hP hk hK hO
   replace b1:=b1.keep hk
   have c_b1:=b1.cells
   clear hk
   go_wp2_with fail
   refine (get_r B p o S (loc+1) _ hP).mono ?_
   rintro e w' ⟨rfl,rfl⟩
   replace hO:=hO.get
   generalize S.got (loc+1)=z at hO ⊢
   go_wp2_with fail
   refine rstep hO hK (read_r B p o S _ _ hP) ?_
   clear hO hK hP c_b1
   intro y o S w1 hP hk hK hO
   replace b1:=b1.keep hk
   have c_b1:=b1.cells
   clear hk
   by_cases hy:y=z
   · rw [if_pos hy] at hO
     subst hy
     obtain⟨_,_,_,_,_,hcc⟩:=hP.cell
     cases o with
     | true =>
       go_wp2_with fail
       first | go_end0 | refine bodyPost_ret (results_none rfl _ _ _) rfl ?_
       exact hO.over () hP hK
     | false =>
       go_wp2_with fail
       clear hcc
       refine rstep hO hK (write_r B p false S _ _ _ hP) ?_
       clear hO hK hP c_b1
       intro u o S w1 hP hk hK hO
       replace b1:=b1.keep hk
       have c_b1:=b1.cells
       clear hk
       go_wp2_with fail
       refine rlast hO hK (set_r B p o S _ _ _ hP) ?_
       clear hO hK hP c_b1
       intro u o S w1 hP hk hK hO
       replace b1:=b1.keep hk
       have c_b1:=b1.cells
       clear hk
       go_wp2_with fail
       first | go_end0 | refine bodyPost_ret (results_none rfl _ _ _) rfl ?_
       exact hO.ret hP hK
   · rw [if_neg hy] at hO
     have hy2:(y==z)=false:=by rw [beq_eq_false_iff_ne];exact hy
     go_wp2_with fail
     first | go_end0 | refine bodyPost_ret (results_none rfl _ _ _) rfl ?_
     exact hO.ret hP hK
set_option maxHeartbeats 2000000 in
theorem tromp_read_r (B p:Nat)(o:Bool)(S:TS)(r:Reg)(w:World)(h:RAt B w p o S)(hb1:0<=r.base)(hb2:r.base<=60000)(hl1:0<=r.loc)(hl2:r.loc<=60000) :
  Calls Tryz.prog 102 #[.pointer (some ⟨p,0,none⟩),encR r] w (RPost encI B p w (trompR r.base r.loc) o S):=by
 generalize hR:RPost encI B p w (trompR r.base r.loc) o S=R
 have hO:ROwes R encI B p w (trompR r.base r.loc) o S:=hR▸rowes _ _ _ _ _ _ _
 clear hR
 obtain⟨kind,base,loc,n,wr,rd,top⟩:=r
 simp only at hb1 hb2 hl1 hl2 hO
 unfold encR
 obtain⟨b1,hK,hP⟩:=h.entry (.cells #[.int .i64 kind,.int .i64 base,.int .i64 loc,.int .i64 n,.int .i64 wr,.int .i64 rd,.int .i64 top] 87)
 have c_b1:=b1.cells
 clear h
 unfold trompR at hO
 go_enter Tryz.func102,Tryz.ntmps102
 go_wp2_with fail
 have hwb:=IntWalk.i64_in (base+1) (by omega)
 have hwv:=IntWalk.i64_in (loc+3) (by omega)
 have hw0:=IntWalk.i64_in base (by omega)
 have hwl:=IntWalk.i64_in (loc+2) (by omega)
 replace hP:=hP.drew
 replace hK:=hK.drew
 replace b1:=b1.drew
 go_region_held2 (fun w'=>w'.cell? ⟨w.heap.size,1,none⟩=some (.int .i64 base)/\w'.cell? ⟨w.heap.size,2,none⟩=some (.int .i64 loc)) (first | go_keep | exact⟨c_b1 1,c_b1 2⟩)
  (first
    | (go_at_call 99
       refine rstep hO hK (read_r B p o S _ _ hP) ?_
       clear hO hK hP c_b1
       intro y o S w1 hP hk hK hO
       replace b1:=b1.keep hk
       have c_b1:=b1.cells
       clear hk)
    | (go_at_call 130
       refine (get_r B p o S (loc+2) _ hP).mono ?_
       rintro e w' ⟨rfl,rfl⟩
       replace hO:=hO.get
       generalize S.got (loc+2)=g at hO ⊢))
 by_cases hy:y=g
 · rw [if_pos hy] at hO
   subst hy
   go_wp2_with fail
   refine (get_r B p o S (loc+3) _ hP).mono ?_
   rintro e w' ⟨rfl,rfl⟩
   replace hO:=hO.get1
   generalize S.got (loc+3)=z at hO ⊢
   go_wp2_with fail
   exact hO.ret hP hK
 · rw [if_neg hy] at hO
   have hy2:(y==g)=false:=by rw [beq_eq_false_iff_ne];exact hy
   have hy3:(y != g)=true:=by rw [bne_iff_ne];exact hy
   go_wp2_with fail
   refine rstep hO hK (read_r B p o S _ _ hP) ?_
   clear hO hK hP c_b1
   intro x o S w1 hP hk hK hO
   replace b1:=b1.keep hk
   have c_b1:=b1.cells
   clear hk
   unfold trompR2 at hO
   clear hy2 hy3 hy
   go_wp2_with fail
   replace hP:=hP.drew
   replace hK:=hK.drew
   replace b1:=b1.drew
   go_region_held2 (fun w'=>w'.cell? ⟨w.heap.size,1,none⟩=some (.int .i64 base)/\w'.cell? ⟨w.heap.size,2,none⟩=some (.int .i64 loc)) (first | go_keep | exact⟨c_b1 1,c_b1 2⟩)
    (first
      | (go_at_call 99
         refine rstep hO hK (read_r B p o S _ _ hP) ?_
         clear hO hK hP c_b1
         intro y o S w1 hP hk hK hO
         replace b1:=b1.keep hk
         have c_b1:=b1.cells
         clear hk)
      | (go_at_call 130
         refine (get_r B p o S (loc+2) _ hP).mono ?_
         rintro e w' ⟨rfl,rfl⟩
         replace hO:=hO.get
         generalize S.got (loc+2)=g at hO ⊢))
   by_cases hy:y=g
   · rw [if_pos hy] at hO
     subst hy
     have hy:y=y:=rfl
     clear hy
     go_wp2_with fail
     unfold trompR3 at hO
     replace hP:=hP.drew
     replace hK:=hK.drew
     replace b1:=b1.drew
     go_region_held2 (fun w'=>w'.cell? ⟨w.heap.size,1,none⟩=some (.int .i64 base)/\w'.cell? ⟨w.heap.size,2,none⟩=some (.int .i64 loc)) (first | go_keep | exact⟨c_b1 1,c_b1 2⟩)
      (first
        | (go_at_call 99
           refine rstep hO hK (read_r B p o S _ _ hP) ?_
           clear hO hK hP c_b1
           intro y o S w1 hP hk hK hO
           replace b1:=b1.keep hk
           have c_b1:=b1.cells
           clear hk)
        | (go_at_call 131
           refine rstep hO hK (set_r B p o S _ _ _ hP) ?_
           clear hO hK hP c_b1
           intro u o S w1 hP hk hK hO
           replace b1:=b1.keep hk
           have c_b1:=b1.cells
           clear hk))
     go_wp2_with fail
     replace hP:=hP.drew
     replace hK:=hK.drew
     replace b1:=b1.drew
     go_region_held2 (fun w'=>w'.cell? ⟨w.heap.size,1,none⟩=some (.int .i64 base)/\w'.cell? ⟨w.heap.size,2,none⟩=some (.int .i64 loc)) (first | go_keep | exact⟨c_b1 1,c_b1 2⟩)
      (first
        | (go_at_call 99
           refine rstep hO hK (read_r B p o S _ _ hP) ?_
           clear hO hK hP c_b1
           intro y o S w1 hP hk hK hO
           replace b1:=b1.keep hk
           have c_b1:=b1.cells
           clear hk)
        | (go_at_call 130
           refine (get_r B p o S (loc+2) _ hP).mono ?_
           rintro e w' ⟨rfl,rfl⟩
           replace hO:=hO.get
           generalize S.got (loc+2)=g at hO ⊢))
     by_cases hy:y=g
     · rw [if_pos hy] at hO
       subst hy
       go_wp2_with fail
       refine (get_r B p o S (loc+3) _ hP).mono ?_
       rintro e w' ⟨rfl,rfl⟩
       replace hO:=hO.get1
       generalize S.got (loc+3)=z at hO ⊢
       go_wp2_with fail
       exact hO.ret hP hK
     · rw [if_neg hy] at hO
       have hy2:(y==g)=false:=by rw [beq_eq_false_iff_ne];exact hy
       have hy3:(y != g)=true:=by rw [bne_iff_ne];exact hy
       go_wp2_with fail
       replace hP:=hP.drew
       replace hK:=hK.drew
       replace b1:=b1.drew
       go_region_held2 (fun w'=>w'.cell? ⟨w.heap.size,1,none⟩=some (.int .i64 base)/\w'.cell? ⟨w.heap.size,2,none⟩=some (.int .i64 loc)) (first | go_keep | exact⟨c_b1 1,c_b1 2⟩)
        (first
          | (go_at_call 99
             refine rstep hO hK (read_r B p o S _ _ hP) ?_
             clear hO hK hP c_b1
             intro y o S w1 hP hk hK hO
             replace b1:=b1.keep hk
             have c_b1:=b1.cells
             clear hk)
          | (go_at_call 131
             refine rstep hO hK (set_r B p o S _ _ _ hP) ?_
             clear hO hK hP c_b1
             intro u o S w1 hP hk hK hO
             replace b1:=b1.keep hk
             have c_b1:=b1.cells
             clear hk))
       go_wp2_with fail
       exact hO.ret hP hK
   · rw [if_neg hy] at hO
     have hy2:(y==g)=false:=by rw [beq_eq_false_iff_ne];exact hy
     have hy3:(y != g)=true:=by rw [bne_iff_ne];exact hy
     go_wp2_with fail
     refine (get_r B p o S (loc+2) _ hP).mono ?_
     rintro e w' ⟨rfl,rfl⟩
     replace hO:=hO.get
     generalize S.got (loc+2)=t at hO ⊢
     go_wp2_with fail
     refine rstep hO hK (write_r B p o S _ _ _ hP) ?_
     clear hO hK hP c_b1
     intro u o S w1 hP hk hK hO
     replace b1:=b1.keep hk
     have c_b1:=b1.cells
     clear hk
     go_wp2_with fail
     refine rstep hO hK (set_r B p o S _ _ _ hP) ?_
     clear hO hK hP c_b1
     intro u o S w1 hP hk hK hO
     replace b1:=b1.keep hk
     have c_b1:=b1.cells
     clear hk
     clear hy2 hy3
     clear hy
     go_wp2_with fail
     unfold trompR3 at hO
     replace hP:=hP.drew
     replace hK:=hK.drew
     replace b1:=b1.drew
     go_region_held2 (fun w'=>w'.cell? ⟨w.heap.size,1,none⟩=some (.int .i64 base)/\w'.cell? ⟨w.heap.size,2,none⟩=some (.int .i64 loc)) (first | go_keep | exact⟨c_b1 1,c_b1 2⟩)
      (first
        | (go_at_call 99
           refine rstep hO hK (read_r B p o S _ _ hP) ?_
           clear hO hK hP c_b1
           intro y o S w1 hP hk hK hO
           replace b1:=b1.keep hk
           have c_b1:=b1.cells
           clear hk)
        | (go_at_call 131
           refine rstep hO hK (set_r B p o S _ _ _ hP) ?_
           clear hO hK hP c_b1
           intro u o S w1 hP hk hK hO
           replace b1:=b1.keep hk
           have c_b1:=b1.cells
           clear hk))
     go_wp2_with fail
     replace hP:=hP.drew
     replace hK:=hK.drew
     replace b1:=b1.drew
     go_region_held2 (fun w'=>w'.cell? ⟨w.heap.size,1,none⟩=some (.int .i64 base)/\w'.cell? ⟨w.heap.size,2,none⟩=some (.int .i64 loc)) (first | go_keep | exact⟨c_b1 1,c_b1 2⟩)
      (first
        | (go_at_call 99
           refine rstep hO hK (read_r B p o S _ _ hP) ?_
           clear hO hK hP c_b1
           intro y o S w1 hP hk hK hO
           replace b1:=b1.keep hk
           have c_b1:=b1.cells
           clear hk)
        | (go_at_call 130
           refine (get_r B p o S (loc+2) _ hP).mono ?_
           rintro e w' ⟨rfl,rfl⟩
           replace hO:=hO.get
           generalize S.got (loc+2)=g at hO ⊢))
     by_cases hy:y=g
     · rw [if_pos hy] at hO
       subst hy
       go_wp2_with fail
       refine (get_r B p o S (loc+3) _ hP).mono ?_
       rintro e w' ⟨rfl,rfl⟩
       replace hO:=hO.get1
       generalize S.got (loc+3)=z at hO ⊢
       go_wp2_with fail
       exact hO.ret hP hK
     · rw [if_neg hy] at hO
       have hy2:(y==g)=false:=by rw [beq_eq_false_iff_ne];exact hy
       have hy3:(y != g)=true:=by rw [bne_iff_ne];exact hy
       go_wp2_with fail
       replace hP:=hP.drew
       replace hK:=hK.drew
       replace b1:=b1.drew
       go_region_held2 (fun w'=>w'.cell? ⟨w.heap.size,1,none⟩=some (.int .i64 base)/\w'.cell? ⟨w.heap.size,2,none⟩=some (.int .i64 loc)) (first | go_keep | exact⟨c_b1 1,c_b1 2⟩)
        (first
          | (go_at_call 99
             refine rstep hO hK (read_r B p o S _ _ hP) ?_
             clear hO hK hP c_b1
             intro y o S w1 hP hk hK hO
             replace b1:=b1.keep hk
             have c_b1:=b1.cells
             clear hk)
          | (go_at_call 131
             refine rstep hO hK (set_r B p o S _ _ _ hP) ?_
             clear hO hK hP c_b1
             intro u o S w1 hP hk hK hO
             replace b1:=b1.keep hk
             have c_b1:=b1.cells
             clear hk))
       go_wp2_with fail
       exact hO.ret hP hK
theorem rbit_r (r:Reg)(n:Int)(w:World)(hn:0<=n/\n<=3)(hb1:0<=r.base)(hb2:r.base<=60000)(hl1:0<=r.loc)(hl2:r.loc<=60000) :
  Calls Tryz.prog 132 #[encR r,.int .i64 n] w fun e w'=>e=.returned (encR ⟨0,r.base+(4+3*n),r.loc+(2+4*n),0,0,0,0⟩)/\Ext w w':=by
 obtain⟨kind,base,loc,nn,wr,rd,top⟩:=r
 simp only at hb1 hb2 hl1 hl2
 unfold encR
 simp only [<- Int.add_assoc]
 go_enter Tryz.func132,Tryz.ntmps132
 go_wp2_with fail
 refine bodyPost_ret (v:=.agg #[.int .i64 0,.int .i64 (base+4+3*n),.int .i64 (loc+2+4*n),.int .i64 0,.int .i64 0,.int .i64 0,.int .i64 0]) (by simp [results,Tryz.results132,go_sem]) rfl ?_
 exact⟨rfl,((Ext.refl _).alloc _).alloc _⟩
theorem other_bit (y:Int):otherM y=1-bitM y:=by unfold otherM bitM;split <;> rfl
set_option maxHeartbeats 2000000 in
theorem slots_write_r (B p:Nat)(o:Bool)(S:TS)(r:Reg)(v:Int)(w:World)(h:RAt B w p o S)(hb1:0<=r.base)(hb2:r.base<=59000)(hl1:0<=r.loc)(hl2:r.loc<=59000) :
  Calls Tryz.prog 96 #[.pointer (some ⟨p,0,none⟩),encR r,.int .i64 v] w (RPost encU B p w (slotsW r.base r.loc v) o S):=by
 generalize hR:RPost encU B p w (slotsW r.base r.loc v) o S=R
 have hO:ROwes R encU B p w (slotsW r.base r.loc v) o S:=hR▸rowes _ _ _ _ _ _ _
 clear hR
 obtain⟨kind,base,loc,n,wr,rd,top⟩:=r
 simp only at hb1 hb2 hl1 hl2 hO
 unfold encR
 obtain⟨b1,hK,hP⟩:=h.entry (.cells #[.int .i64 kind,.int .i64 base,.int .i64 loc,.int .i64 n,.int .i64 wr,.int .i64 rd,.int .i64 top] 87)
 have c_b1:=b1.cells
 clear h
 unfold slotsW at hO
 go_enter Tryz.func96,Tryz.ntmps96
 go_wp2_with fail
 refine (rbit_r ⟨kind,base,loc,n,wr,rd,top⟩ 3 _ (by omega) hb1 (by simp only;omega) hl1 (by simp only;omega)).mono ?_
 rintro e w2 ⟨rfl,hx⟩
 clear c_b1
 replace hK:=hK.trans (Keep.of_ext hx hP.lt hP.le)
 replace b1:=b1.ext hx hP.lt
 have c_b1:=b1.cells
 replace hP:=hP.ext hx
 clear hx
 go_wp2_with fail
 refine rstep hO hK (tromp_read_r B p o S ⟨0,base+13,loc+14,0,0,0,0⟩ _ hP (by simp only;omega) (by simp only;omega) (by simp only;omega) (by simp only;omega)) ?_
 clear hO hK hP c_b1
 intro y o S w1 hP hk hK hO
 replace b1:=b1.keep hk
 have c_b1:=b1.cells
 clear hk
 simp only [other_bit] at hO
 have hq:=bit_01 y
 go_wp2_with fail
 refine (bit_r y _).mono ?_
 rintro e w' ⟨rfl,rfl⟩
 generalize bitM y=q' at *
 have hw:=IntWalk.i64_in (1-q') (by omega)
 go_wp2_with fail
 generalize hq2:1-q'=q at *
 have hq:0<=q/\q<=1:=by omega
 clear hq2
 refine (get_r B p o S (loc+q) _ hP).mono ?_
 rintro e w' ⟨rfl,rfl⟩
 replace hO:=hO.get
 generalize S.got (loc+q)=z at hO ⊢
 go_wp2_with fail
 have hi:=bit_01 z
 refine (bit_r z _).mono ?_
 rintro e w' ⟨rfl,rfl⟩
 generalize bitM z=i' at *
 have hw2:=IntWalk.i64_in (1-i') (by omega)
 go_wp2_with fail
 generalize hi2:1-i'=i at *
 have hi:0<=i/\i<=1:=by omega
 clear hi2
 rw [show base+(2*q+i)=base+2*q+i from by omega] at hO
 go_wp2_with fail
 refine rstep hO hK (write_r B p o S _ _ _ hP) ?_
 clear hO hK hP c_b1
 intro u o S w1 hP hk hK hO
 replace b1:=b1.keep hk
 have c_b1:=b1.cells
 clear hk
 go_wp2_with fail
 refine rstep hO hK (set_r B p o S _ _ _ hP) ?_
 clear hO hK hP c_b1
 intro u o S w1 hP hk hK hO
 replace b1:=b1.keep hk
 have c_b1:=b1.cells
 clear hk
 go_wp2_with fail
 refine (rbit_r ⟨kind,base,loc,n,wr,rd,top⟩ q _ (by omega) hb1 (by simp only;omega) hl1 (by simp only;omega)).mono ?_
 rintro e w2 ⟨rfl,hx⟩
 clear c_b1
 replace hK:=hK.trans (Keep.of_ext hx hP.lt hP.le)
 replace b1:=b1.ext hx hP.lt
 have c_b1:=b1.cells
 replace hP:=hP.ext hx
 clear hx
 go_wp2_with fail
 refine rstep hO hK (tromp_write_r B p o S ⟨0,base+(4+3*q),loc+(2+4*q),0,0,0,0⟩ i _ hP (by simp only;omega) (by simp only;omega) (by simp only;omega) (by simp only;omega)) ?_
 clear hO hK hP c_b1
 intro u o S w1 hP hk hK hO
 replace b1:=b1.keep hk
 have c_b1:=b1.cells
 clear hk
 go_wp2_with fail
 refine (rbit_r ⟨kind,base,loc,n,wr,rd,top⟩ 2 _ (by omega) hb1 (by simp only;omega) hl1 (by simp only;omega)).mono ?_
 rintro e w2 ⟨rfl,hx⟩
 clear c_b1
 replace hK:=hK.trans (Keep.of_ext hx hP.lt hP.le)
 replace b1:=b1.ext hx hP.lt
 have c_b1:=b1.cells
 replace hP:=hP.ext hx
 clear hx
 go_wp2_with fail
 refine rlast hO hK (tromp_write_r B p o S ⟨0,base+10,loc+10,0,0,0,0⟩ q _ hP (by simp only;omega) (by simp only;omega) (by simp only;omega) (by simp only;omega)) ?_
 clear hO hK hP c_b1
 intro u o S w1 hP hk hK hO
 replace b1:=b1.keep hk
 have c_b1:=b1.cells
 clear hk
 go_wp2_with fail
 first | go_end0 | refine bodyPost_ret (results_none rfl _ _ _) rfl ?_
 exact hO.ret hP hK
set_option maxHeartbeats 2000000 in
theorem slots_read_r (B p:Nat)(o:Bool)(S:TS)(r:Reg)(w:World)(h:RAt B w p o S)(hb1:0<=r.base)(hb2:r.base<=59000)(hl1:0<=r.loc)(hl2:r.loc<=59000) :
  Calls Tryz.prog 103 #[.pointer (some ⟨p,0,none⟩),encR r] w (RPost encI B p w (slotsR r.base r.loc) o S):=by
 generalize hR:RPost encI B p w (slotsR r.base r.loc) o S=R
 have hO:ROwes R encI B p w (slotsR r.base r.loc) o S:=hR▸rowes _ _ _ _ _ _ _
 clear hR
 obtain⟨kind,base,loc,n,wr,rd,top⟩:=r
 simp only at hb1 hb2 hl1 hl2 hO
 unfold encR
 obtain⟨b1,hK,hP⟩:=h.entry (.cells #[.int .i64 kind,.int .i64 base,.int .i64 loc,.int .i64 n,.int .i64 wr,.int .i64 rd,.int .i64 top] 87)
 have c_b1:=b1.cells
 clear h
 unfold slotsR at hO
 go_enter Tryz.func103,Tryz.ntmps103
 go_wp2_with fail
 refine (rbit_r ⟨kind,base,loc,n,wr,rd,top⟩ 2 _ (by omega) hb1 (by simp only;omega) hl1 (by simp only;omega)).mono ?_
 rintro e w2 ⟨rfl,hx⟩
 clear c_b1
 replace hK:=hK.trans (Keep.of_ext hx hP.lt hP.le)
 replace b1:=b1.ext hx hP.lt
 have c_b1:=b1.cells
 replace hP:=hP.ext hx
 clear hx
 go_wp2_with fail
 refine rstep hO hK (tromp_read_r B p o S ⟨0,base+10,loc+10,0,0,0,0⟩ _ hP (by simp only;omega) (by simp only;omega) (by simp only;omega) (by simp only;omega)) ?_
 clear hO hK hP c_b1
 intro y o S w1 hP hk hK hO
 replace b1:=b1.keep hk
 have c_b1:=b1.cells
 clear hk
 have hq:=bit_01 y
 go_wp2_with fail
 refine (bit_r y _).mono ?_
 rintro e w' ⟨rfl,rfl⟩
 generalize bitM y=q at *
 go_wp2_with fail
 refine (rbit_r ⟨kind,base,loc,n,wr,rd,top⟩ 3 _ (by omega) hb1 (by simp only;omega) hl1 (by simp only;omega)).mono ?_
 rintro e w2 ⟨rfl,hx⟩
 clear c_b1
 replace hK:=hK.trans (Keep.of_ext hx hP.lt hP.le)
 replace b1:=b1.ext hx hP.lt
 have c_b1:=b1.cells
 replace hP:=hP.ext hx
 clear hx
 go_wp2_with fail
 refine rstep hO hK (tromp_write_r B p o S ⟨0,base+13,loc+14,0,0,0,0⟩ q _ hP (by simp only;omega) (by simp only;omega) (by simp only;omega) (by simp only;omega)) ?_
 clear hO hK hP c_b1
 intro u o S w1 hP hk hK hO
 replace b1:=b1.keep hk
 have c_b1:=b1.cells
 clear hk
 go_wp2_with fail
 refine (rbit_r ⟨kind,base,loc,n,wr,rd,top⟩ q _ (by omega) hb1 (by simp only;omega) hl1 (by simp only;omega)).mono ?_
 rintro e w2 ⟨rfl,hx⟩
 clear c_b1
 replace hK:=hK.trans (Keep.of_ext hx hP.lt hP.le)
 replace b1:=b1.ext hx hP.lt
 have c_b1:=b1.cells
 replace hP:=hP.ext hx
 clear hx
 go_wp2_with fail
 refine rstep hO hK (tromp_read_r B p o S ⟨0,base+(4+3*q),loc+(2+4*q),0,0,0,0⟩ _ hP (by simp only;omega) (by simp only;omega) (by simp only;omega) (by simp only;omega)) ?_
 clear hO hK hP c_b1
 intro z o S w1 hP hk hK hO
 replace b1:=b1.keep hk
 have c_b1:=b1.cells
 clear hk
 have hi:=bit_01 z
 go_wp2_with fail
 refine (bit_r z _).mono ?_
 rintro e w' ⟨rfl,rfl⟩
 generalize bitM z=i at *
 rw [show base+(2*q+i)=base+2*q+i from by omega] at hO
 have hq0:0<=q/\q<=1:=by omega
 have hi0:0<=i/\i<=1:=by omega
 go_wp2_with fail
 refine rlast hO hK (read_r B p o S _ _ hP) ?_
 clear hO hK hP c_b1
 intro x o S w1 hP hk hK hO
 replace b1:=b1.keep hk
 have c_b1:=b1.cells
 clear hk
 go_wp2_with fail
 exact hO.ret hP hK
end Go.Proofs.YtbphlkaihfbgeaaGreat
namespace Kv
def rdrs (wr:Int):Nat->List Int
 | 0=>[]
 | j+1=>if (j:Int)=wr then rdrs wr j else rdrs wr j++[(j:Int)]
theorem rdrs_len (wr:Nat):∀ j:Nat,(rdrs wr j).length=if wr<j then j-1 else j
 | 0=>by simp [rdrs]
 | j+1=>by
   have h:=rdrs_len wr j
   unfold rdrs
   by_cases e:j=wr
   · rw [if_pos (by omega),h,if_neg (by omega),if_pos (by omega)];omega
   · rw [if_neg (by omega),List.length_append,h]
     simp only [List.length_singleton]
     by_cases e2:wr<j
     · rw [if_pos e2,if_pos (by omega)];omega
     · rw [if_neg e2,if_neg (by omega)]
theorem rdrs_at (wr:Nat):∀ j i:Nat,i<(rdrs wr j).length->(rdrs wr j).getD i 0=if i<wr then (i:Int) else i+1
 | 0,i,h=>by simp [rdrs] at h
 | j+1,i,h=>by
   have hl:=rdrs_len wr j
   unfold rdrs at h ⊢
   by_cases e:j=wr
   · rw [if_pos (by omega)] at h ⊢
     exact rdrs_at wr j i h
   · rw [if_neg (by omega)] at h ⊢
     rw [List.length_append,List.length_singleton] at h
     by_cases e2:i<(rdrs wr j).length
     · rw [<- rdrs_at wr j i e2]
       simp [List.getD,List.getElem?_append,e2]
     · obtain rfl:i=(rdrs wr j).length:=by omega
       simp only [List.getD_eq_getElem?_getD,List.getElem?_append,Nat.lt_irrefl,if_false,Nat.sub_self]
       show (j:Int)=_
       rw [hl]
       by_cases e3:wr<j
       · rw [if_pos e3,if_neg (by omega)];omega
       · rw [if_neg e3,if_pos (by omega)]
end Kv
namespace Go.Proofs.YtbphlkaihfbgeaaGreat
open Go.RowKit Kv
def Blk (w:World) (b:Nat) (o:Obj):Prop:=w.heap[b]?=some o
theorem Blk.lt {w:World}{b:Nat}{o:Obj}(h:Blk w b o):b<w.heap.size:=(Array.getElem?_eq_some_iff.1 h).1
theorem Blk.new (w:World)(o:Obj):Blk (w.alloc o) w.heap.size o:=heap_alloc_new w o
theorem Blk.ext {w w':World}{b:Nat}{o:Obj}(h:Blk w b o)(hx:Ext w w'):Blk w' b o:=(Below.block hx b (Array.getElem?_eq_some_iff.1 h).1).trans h
theorem Blk.alloc {w:World}{b:Nat}{o:Obj}(h:Blk w b o)(o':Obj):Blk (w.alloc o') b o:=h.ext ((Ext.refl w).alloc o')
theorem Blk.drew {w:World}{b:Nat}{o:Obj}(h:Blk w b o):Blk w.drew b o:=h
theorem Blk.cells {w:World}{b:Nat}{cs:Array Value}{t:TypeId}{fz:Nat × Nat}(h:Blk w b (.cells cs t fz))(i:Nat):w.cell? ⟨b,i,none⟩=cs[i]?:=cell_of_heap h i
theorem rn_r (r:Reg)(w:World)(h1:1<=r.n)(h2:r.n<=8):Calls Tryz.prog 70 #[encR r] w fun e w'=>e=.returned (.int .i64 r.n)/\Ext w w':=by
 obtain⟨kind,base,loc,n,wr,rd,top⟩:=r
 simp only at h1 h2
 have hc:clamp n 8=n:=by unfold clamp within;omega
 have hx:=Lib.hid ((Ext.refl w).alloc (.cells #[.int .i64 kind,.int .i64 base,.int .i64 loc,.int .i64 n,.int .i64 wr,.int .i64 rd,.int .i64 top] 87))
 unfold encR
 go_enter Tryz.func70,Tryz.ntmps70
 go_wp2_with fail
 refine (clamp_r _ _ _).mono ?_
 rintro e w' ⟨rfl,rfl⟩
 rw [hc]
 go_wp2_with fail
 go_ret
 exact⟨rfl,hx.out⟩
theorem rwriter_r (r:Reg)(w:World)(h1:1<=r.n)(h2:r.n<=8)(h3:0<=r.wr)(h4:r.wr<r.n):Calls Tryz.prog 133 #[encR r] w fun e w'=>e=.returned (.int .i64 r.wr)/\Ext w w':=by
 obtain⟨kind,base,loc,n,wr,rd,top⟩:=r
 simp only at h1 h2 h3 h4
 unfold encR
 have hX:=Ext.refl w
 have b1:=Blk.new w (.cells #[.int .i64 kind,.int .i64 base,.int .i64 loc,.int .i64 n,.int .i64 wr,.int .i64 rd,.int .i64 top] 87)
 replace hX:=hX.alloc (.cells #[.int .i64 kind,.int .i64 base,.int .i64 loc,.int .i64 n,.int .i64 wr,.int .i64 rd,.int .i64 top] 87)
 have c_b1:=b1.cells
 go_enter Tryz.func133,Tryz.ntmps133
 go_wp2_with fail
 replace hX:=hX.drew
 replace b1:=b1.drew
 go_region_held2 (fun w'=>∀ i:Nat,w'.cell? ⟨w.heap.size,i,none⟩=(#[.int .i64 kind,.int .i64 base,.int .i64 loc,.int .i64 n,.int .i64 wr,.int .i64 rd,.int .i64 top]:Array Value)[i]?) (first | exact c_b1 | go_keep)
  (first
    | (go_at_call 70
       refine (rn_r ⟨kind,base,loc,n,wr,rd,top⟩ _ h1 h2).mono ?_
       rintro e w2 ⟨rfl,hx⟩
       clear c_b1
       replace b1:=b1.ext hx
       have c_b1:=b1.cells
       replace hX:=hX.trans hx
       clear hx))
 go_wp2_with fail
 go_ret
 exact⟨rfl,hX⟩
theorem rnumber_r (r:Reg)(k:Int)(w:World)(h1:0<=k/\k<=60)(hb1:0<=r.base)(hb2:r.base<=56000)(hl1:0<=r.loc)(hl2:r.loc<=56000) :
  Calls Tryz.prog 136 #[encR r,.int .i64 k] w fun e w'=>e=.returned (encR ⟨0,r.base+16*k,r.loc+(2+18*k),0,0,0,0⟩)/\Ext w w':=by
 obtain⟨kind,base,loc,n,wr,rd,top⟩:=r
 simp only at hb1 hb2 hl1 hl2
 unfold encR
 simp only [<- Int.add_assoc]
 go_enter Tryz.func136,Tryz.ntmps136
 go_wp2_with fail
 refine bodyPost_ret (v:=.agg #[.int .i64 0,.int .i64 (base+16*k),.int .i64 (loc+2+18*k),.int .i64 0,.int .i64 0,.int .i64 0,.int .i64 0]) (by simp [results,Tryz.results136,go_sem]) rfl ?_
 exact⟨rfl,((Ext.refl _).alloc _).alloc _⟩
end Go.Proofs.YtbphlkaihfbgeaaGreat
namespace Kv
theorem shortN_zero (L:List Int):∀ n i,shortN L n<=i->i<n->L.getD i 0=0
 | 0,i,_,h=>absurd h (Nat.not_lt_zero i)
 | n+1,i,h1,h2=>by
   unfold shortN at h1
   split at h1
   · rename_i e
     by_cases hi:i=n
     · rw [hi];exact e
     · exact shortN_zero L n i h1 (by omega)
   · omega
theorem shortN_last (L:List Int):∀ n,shortN L n=0∨L.getD (shortN L n-1) 0≠0
 | 0=>.inl rfl
 | n+1=>by
   unfold shortN
   split
   · exact shortN_last L n
   · rename_i e;exact .inr e
theorem shortL_zero (L:List Int)(i:Nat)(h:shortN L L.length<=i):L.getD i 0=0:=by
 by_cases hi:i<L.length
 · exact shortN_zero L _ i h hi
 · simp [List.getD,List.getElem?_eq_none (show L.length<=i by omega)]
theorem shortN_eq {L L':List Int}(h:∀ i,L.getD i 0=L'.getD i 0):shortN L L.length=shortN L' L'.length:=by
 have a:=shortN_last L L.length
 have b:=shortN_last L' L'.length
 have a2:=shortL_zero L
 have b2:=shortL_zero L'
 generalize shortN L L.length=N at *
 generalize shortN L' L'.length=N' at *
 rcases Nat.lt_trichotomy N N' with e | e | e
 · rcases b with b | b
   · omega
   · exact absurd ((h _).symm.trans (a2 (N'-1) (by omega))) b
 · exact e
 · rcases a with a | a
   · omega
   · exact absurd ((h _).trans (b2 (N-1) (by omega))) a
theorem shortL_eq {L L':List Int}(h:∀ i,L.getD i 0=L'.getD i 0):shortL L=shortL L':=by
 have e:=shortN_eq h
 have l1:=shortN_le L L.length
 have l2:=shortN_le L' L'.length
 unfold shortL
 apply List.ext_getElem?
 intro i
 rw [List.getElem?_take,List.getElem?_take,e]
 split
 · rename_i hi
   have hh:=h i
   rw [List.getD_eq_getElem?_getD,List.getD_eq_getElem?_getD] at hh
   rw [List.getElem?_eq_getElem (show i<L.length by omega),List.getElem?_eq_getElem (show i<L'.length by omega)] at hh ⊢
   simpa using hh
 · rfl
theorem Ref.outcome {α:Type}{p:Prog α}{S S':TS}{a:α}{o:Bool}(h:Ref p false S a o S'):p.run S=(if o then none else some a,S'):=by
 cases h with
 | done h=>exact h
 | stop _ h=>exact h
end Kv
namespace Go.Proofs.YtbphlkaihfbgeaaGreat
open Go.RowKit Kv
theorem out_r (B p:Nat)(o:Bool)(S:TS)(w:World)(h:RAt B w p o S) :
  Calls Tryz.prog 22 #[.pointer (some ⟨p,0,none⟩)] w fun e w'=>∃ vC vN vs L,e=.returned (.agg #[.bool (!o),vC,vN,vs])/\w'.ownsRow B 56 3 vC S.acc.length (accVals S.acc)/\w'.ownsRow B 77 2 vN S.nts.length (ntVals S.nts)/\Ints w' vs (shortL L)/\LocIs L S.loc/\L.length<=32768/\Ext w w':=by
 obtain⟨n,vA,vC,vN,vL,L,h,-⟩:=h
 have hc:=cell_of_heap h.heap
 have hI:Ints w vL L:=IntRow.ints h.rowL
 obtain⟨Ac,cc,hvC⟩:∃ A c,vC=.slice A S.acc.length c:=by
  rcases h.rowC.2 with⟨rfl,h0⟩ | ⟨g,cap,cur,rfl,_⟩
  · exact⟨none,0,by rw [h0]⟩
  · exact⟨_,_,rfl⟩
 obtain⟨An,cn,hvN⟩:∃ A c,vN=.slice A S.nts.length c:=by
  rcases h.rowN.2 with⟨rfl,h0⟩ | ⟨g,cap,cur,rfl,_⟩
  · exact⟨none,0,by rw [h0]⟩
  · exact⟨_,_,rfl⟩
 subst hvC hvN
 obtain⟨As,cs,rfl,hs1,hs2⟩:=hI.slice
 have hlt:=h.lt
 have hh:=Lib.hid h
 clear h
 have hX:=Ext.refl w
 have b1:=Blk.new w (.cells #[.bool false,.slice none 0 0,.slice none 0 0,.slice none 0 0] 36)
 replace hX:=hX.alloc (.cells #[.bool false,.slice none 0 0,.slice none 0 0,.slice none 0 0] 36)
 have c_b1:=b1.cells
 have hc1:∀ i,(w.alloc (.cells #[.bool false,.slice none 0 0,.slice none 0 0,.slice none 0 0] 36)).cell? ⟨p,i,none⟩=(#[vA,.int .i64 n,.bool o,.slice Ac S.acc.length cc,.slice An S.nts.length cn,.slice As L.length cs]:Array Value)[i]?:=fun i=>(hX.cell (p:=⟨p,i,none⟩) hlt).trans (hc i)
 have f_b1:=frozen_of_heap b1
 have hc2:Hid (∀ (O':Obj) (i:Nat),(w.alloc O').drew.cell? ⟨p,i,none⟩=(#[vA,.int .i64 n,.bool o,.slice Ac S.acc.length cc,.slice An S.nts.length cn,.slice As L.length cs]:Array Value)[i]?):=Lib.hid fun O' i=>(((Ext.refl w).alloc O').drew.cell (p:=⟨p,i,none⟩) hlt).trans (hc i)
 clear hc
 go_enter Tryz.func22,Tryz.ntmps22
 go_wp2_with fail
 replace hX:=hX.drew
 replace b1:=b1.drew
 have hIh:Hid (∀ w',Ext w w'->Ints w' (.slice As L.length cs) L):=Lib.hid (fun w' hx=>hI.ext hx)
 clear hI
 go_region_held2 (fun w'=>∀ i,w'.cell? ⟨p,i,none⟩=(#[vA,.int .i64 n,.bool o,.slice Ac S.acc.length cc,.slice An S.nts.length cn,.slice As L.length cs]:Array Value)[i]?) (first | with_reducible exact hc1 | with_reducible exact hc2.out _ | go_keep)
  (first
    | (go_at_call 45
       refine (short_at As cs L _ (hIh.out _ hX) hs1 hs2).mono ?_
       rintro e w' ⟨rfl,rfl⟩))
 go_wp2_with fail
 have hX':∀ O',Ext w (w.alloc O').drew:=fun O'=>((Ext.refl w).alloc O').drew
 refine bodyPost_ret (v:=.agg #[.bool (!o),.slice Ac S.acc.length cc,.slice An S.nts.length cn,.slice As (shortN L L.length) cs]) (by simp [results,Tryz.results22,go_sem]) rfl ?_
 exact⟨_,_,_,L,rfl,row_ext hh.out.rowC (hX' _),row_ext hh.out.rowN (hX' _),shortL_ints (hIh.out _ (hX' _)),hh.out.loc,hh.out.locN,hX' _⟩
end Go.Proofs.YtbphlkaihfbgeaaGreat
