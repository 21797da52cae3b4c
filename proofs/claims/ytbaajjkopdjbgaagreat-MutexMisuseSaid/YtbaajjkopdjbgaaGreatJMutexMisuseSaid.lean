/-
  MutexMisuse holds: what is answered ErrHeld or ErrOwner touches no cell, and changes no local; without conditions.
-/
import Derived.Test.YtbaajjkopdjbgaaGreatJMutexMisuseSaid8
import Derived.Deep.MidRow
import Derived.Laws.MakeOwn
import Derived.Deep.DeepCutAuto
import Derived.Deep.RegionHeld2
namespace Go.Proofs.YtbaajjkopdjbgaaGreat
open Go.RowKit Kv
theorem results_cell1 {fn:Func}{p:Tmp}{ty:TypeId}(h:fn.results=#[.cell p ty])(tmps:Array Value)(P:Program)(w:World) :
  (results fn tmps).run P w=((asAddr (tmps.getD p undef)).run P w).andThen fun a w1=>(loadVar ty a).run P w1:=by
 simp only [results,h]
 simp [Sem.run_bind,Result.andThen]
theorem there_blk {w:World}{b:Nat}{cs:Array Value}{t:TypeId}(h:w.heap[b]?=some (.cells cs t (0,0))):w.there b 0 cs.size:=fun j hj=>by
 rw [Nat.zero_add]
 exact⟨by rw [cell_of_heap h];simp [hj],by simp [World.frozen?,h]⟩
@[go_sem] theorem build_thing4 (x:Int) (w:World):(Instr.build 65 #[(4,.int .i64 x)]).run Tryz.prog w=.ok (.agg #[.int .i64 0,.int .i64 0,.int .i64 0,.int .i64 0,.int .i64 x,.int .i64 0,.int .i64 0,.int .i64 0]) w:=run_build w 65 _ _ (by kernel_rfl)
@[go_sem] theorem build_obj35 (x a b c d e f g h:Int) (w:World):(Instr.build 69 #[(0,.agg #[.int .i64 0,.int .i64 0,.int .i64 0,.int .i64 0,.int .i64 x,.int .i64 0,.int .i64 0,.int .i64 0]),(1,.agg #[.int .i64 a,.int .i64 b,.int .i64 c,.int .i64 d,.int .i64 e,.int .i64 f]),(3,.int .i64 g),(4,.int .i64 h)]).run Tryz.prog w=.ok (.agg #[.int .i64 0,.int .i64 0,.int .i64 0,.int .i64 0,.int .i64 x,.int .i64 0,.int .i64 0,.int .i64 0,.int .i64 a,.int .i64 b,.int .i64 c,.int .i64 d,.int .i64 e,.int .i64 f,.int .i64 0,.int .i64 0,.int .i64 0,.int .i64 0,.int .i64 0,.int .i64 0,.int .i64 0,.int .i64 g,.int .i64 h]) w:=run_build w 69 _ _ (by kernel_rfl)
set_option maxRecDepth 100000 in
theorem put_r (arg alg:Int)(N:Nat)(mode base loc room:Int)(rs:List Reg)(w:World)(hk:LkOk alg N mode 0 0 room rs) :
  Calls Tryz.prog 42 #[.agg #[.int .i64 alg,.int .i64 N,.int .i64 mode,.int .i64 base,.int .i64 loc,.int .i64 room],.int .i64 arg] w fun e w'=>e=.returned (.agg #[.int .i64 0,.int .i64 0,.int .i64 0,.int .i64 0,.int .i64 arg,.int .i64 0,.int .i64 0,.int .i64 0,.int .i64 alg,.int .i64 N,.int .i64 mode,.int .i64 0,.int .i64 0,.int .i64 room,.int .i64 0,.int .i64 0,.int .i64 0,.int .i64 0,.int .i64 0,.int .i64 0,.int .i64 0,.int .i64 (lkC alg N rs),.int .i64 (lkL alg rs)])/\Ext w w':=by
 have hsz:=fun w=>lksize_r alg N mode 0 0 room rs w hk.halg hk.hn.1 hk.hn.2 hk.hlay
 have b1:=Blk.new w (.cells #[.int .i64 alg,.int .i64 N,.int .i64 mode,.int .i64 0,.int .i64 0,.int .i64 room] 23)
 have hX:=(Ext.refl w).alloc (.cells #[.int .i64 alg,.int .i64 N,.int .i64 mode,.int .i64 0,.int .i64 0,.int .i64 room] 23)
 replace b1:=b1.alloc (.cells #[.int .i64 0,.int .i64 0,.int .i64 0,.int .i64 0,.int .i64 0,.int .i64 0,.int .i64 0,.int .i64 0,.int .i64 0,.int .i64 0,.int .i64 0,.int .i64 0,.int .i64 0,.int .i64 0,.int .i64 0,.int .i64 0,.int .i64 0,.int .i64 0,.int .i64 0,.int .i64 0,.int .i64 0,.int .i64 0,.int .i64 0] 69)
 have b2:=Blk.new (w.alloc (.cells #[.int .i64 alg,.int .i64 N,.int .i64 mode,.int .i64 0,.int .i64 0,.int .i64 room] 23)) (.cells #[.int .i64 0,.int .i64 0,.int .i64 0,.int .i64 0,.int .i64 0,.int .i64 0,.int .i64 0,.int .i64 0,.int .i64 0,.int .i64 0,.int .i64 0,.int .i64 0,.int .i64 0,.int .i64 0,.int .i64 0,.int .i64 0,.int .i64 0,.int .i64 0,.int .i64 0,.int .i64 0,.int .i64 0,.int .i64 0,.int .i64 0] 69)
 replace hX:=hX.alloc (.cells #[.int .i64 0,.int .i64 0,.int .i64 0,.int .i64 0,.int .i64 0,.int .i64 0,.int .i64 0,.int .i64 0,.int .i64 0,.int .i64 0,.int .i64 0,.int .i64 0,.int .i64 0,.int .i64 0,.int .i64 0,.int .i64 0,.int .i64 0,.int .i64 0,.int .i64 0,.int .i64 0,.int .i64 0,.int .i64 0,.int .i64 0] 69)
 simp only [World.size_alloc] at b2
 clear hk
 generalize lkC alg N rs=C at *
 generalize lkL alg rs=L at *
 go_enter Tryz.func42,Tryz.ntmps42
 go_wp2_with fail
 generalize (World.alloc w (.cells #[.int .i64 alg,.int .i64 N,.int .i64 mode,.int .i64 0,.int .i64 0,.int .i64 room] 23)).alloc (.cells #[.int .i64 0,.int .i64 0,.int .i64 0,.int .i64 0,.int .i64 0,.int .i64 0,.int .i64 0,.int .i64 0,.int .i64 0,.int .i64 0,.int .i64 0,.int .i64 0,.int .i64 0,.int .i64 0,.int .i64 0,.int .i64 0,.int .i64 0,.int .i64 0,.int .i64 0,.int .i64 0,.int .i64 0,.int .i64 0,.int .i64 0] 69)=W at *
 refine (hsz _).mono ?_
 rintro e w1 ⟨rfl,hx⟩
 have c_b1:=(b1.ext hx).cells
 replace b2:=b2.ext hx
 replace hX:=hX.trans hx
 clear hx b1 hsz
 go_upto_region 4 with fail
 refine wp_region_lit ?_
 refine wpList_plain rfl fun K hK=>?_
 unfold Oper.wp execOp
 go_simp
 refine hK _ _ ?_
 clear hK K
 refine wpList_plain rfl fun K hK=>?_
 unfold Oper.wp execOp
 go_simp
 refine hK _ _ ?_
 clear hK K
 refine wpList_plain rfl fun K hK=>?_
 unfold Oper.wp execOp
 go_simp
 refine hK _ _ ?_
 clear hK K
 refine wpList_plain rfl fun K hK=>?_
 unfold Oper.wp execOp
 go_simp
 refine hK _ _ ?_
 clear hK K
 refine wpList_plain rfl fun K hK=>?_
 unfold Oper.wp execOp
 go_simp
 refine hK _ _ ?_
 clear hK K
 refine wpList_plain rfl fun K hK=>?_
 unfold Oper.wp execOp
 go_simp
 refine hK _ _ ?_
 clear hK K
 obtain⟨OL,hOL⟩:∃ OL:List Value,OL=[.int .i64 0,.int .i64 0,.int .i64 0,.int .i64 0,.int .i64 arg,.int .i64 0,.int .i64 0,.int .i64 0,.int .i64 alg,.int .i64 N,.int .i64 mode,.int .i64 0,.int .i64 0,.int .i64 room,.int .i64 0,.int .i64 0,.int .i64 0,.int .i64 0,.int .i64 0,.int .i64 0,.int .i64 0,.int .i64 C,.int .i64 L]:=⟨_,rfl⟩
 have hst:=there_blk b2
 refine wpList_store_mid rfl _ _ _ rfl (w.heap.size+1) 0 OL.toArray rfl (by rw [hOL];rfl) (by rw [hOL];exact hst) (by rw [hOL];kernel_rfl) (by rw [hOL];kernel_rfl) ?_
 have hz:=heap_setCells_all b2 OL (by rw [hOL];rfl)
 have hXs:=hX.setCells (Nat.le_succ w.heap.size) OL 0
 clear hst b2 hX c_b1
 generalize w1.setCells _ _ _=W6 at *
 refine wpList_nil ?_
 have hld:(loadVar 69 ⟨w.heap.size+1,0,none⟩).run Tryz.prog W6=.ok (.agg OL.toArray) W6:=run_loadVar_row _ _ _ _ _ _ _ hz Tryz.underlying69 rfl (by rw [hOL];kernel_rfl)
 rename_i hKK
 refine hKK _ _ ?_
 clear hKK
 refine wp_ret ?_
 refine bodyPost_ret (v:=.agg OL.toArray) ?_ rfl ⟨by rw [hOL],hXs⟩
 rw [results_cell1 (p:=4) (ty:=69) rfl]
 simp [asAddr,Result.andThen,hld,Act.put]
set_option maxRecDepth 100000 in
theorem may35_r (alg N0 mode base loc room:Int)(w:World):Calls Tryz.prog 40 #[.agg #[.int .i64 alg,.int .i64 N0,.int .i64 mode,.int .i64 base,.int .i64 loc,.int .i64 room]] w fun e w'=>(∃ b,e=.returned (.bool b)/\(b=true->∃ (N:Nat) (rs:List Reg),N0=N/\LkOk alg N mode 0 0 room rs/\N<=4/\¬ (N=1/\mode=2)/\(mode=1∨N<=2)))/\Ext w w':=by
 generalize hR:(fun (e:Ending) (w':World)=>(∃ b,e=.returned (.bool b)/\(b=true->∃ (N:Nat) (rs:List Reg),N0=N/\LkOk alg N mode 0 0 room rs/\N<=4/\¬ (N=1/\mode=2)/\(mode=1∨N<=2)))/\Ext w w')=R
 have hno:∀ w',Ext w w'->R (.returned (.bool false)) w':=fun w' h=>hR▸⟨⟨false,rfl,fun h=>by cases h⟩,h⟩
 have hyes:∀ w',Ext w w'->(∃ (N:Nat) (rs:List Reg),N0=N/\LkOk alg N mode 0 0 room rs/\N<=4/\¬ (N=1/\mode=2)/\(mode=1∨N<=2))->R (.returned (.bool true)) w':=fun w' h k=>hR▸⟨⟨true,rfl,fun _=>k⟩,h⟩
 clear hR
 have hf:=fun w=>lkfine_r alg N0 mode 0 0 room w
 have b1:=Blk.new w (.cells #[.int .i64 alg,.int .i64 N0,.int .i64 mode,.int .i64 0,.int .i64 0,.int .i64 room] 23)
 have hX:=(Ext.refl w).alloc (.cells #[.int .i64 alg,.int .i64 N0,.int .i64 mode,.int .i64 0,.int .i64 0,.int .i64 room] 23)
 go_enter Tryz.func40,Tryz.ntmps40
 go_wp2_with fail
 generalize World.alloc w _=W at *
 refine (hf _).mono ?_
 rintro e w1 ⟨⟨b,rfl,hb⟩,hx⟩
 have c_b1:=(b1.ext hx).cells
 replace hX:=hX.trans hx
 clear hx b1 hf
 cases b with
 | false =>
   have hf:=hno _ hX
   clear hno hyes hb
   go_wp2_with fail
   first | exact hf | (go_ret;exact hf)
 | true =>
   obtain⟨N,rs,rfl,hk⟩:=hb rfl
   clear hb
   by_cases n4:N<=4
   rotate_left
   · have d4:decide ((N:Int)<=4)=false:=by rw [decide_eq_false_iff_not];omega
     have hf:=hno _ hX
     clear hno hyes hk n4
     go_wp2_with fail
     first | exact hf | (go_ret;exact hf)
   have d4:decide ((N:Int)<=4)=true:=by rw [decide_eq_true_eq];omega
   have hm:=hk.hmode
   by_cases m1:mode=1
   · have dm:(mode==1)=true:=by rw [beq_iff_eq];exact m1
     have hf:=hyes _ hX ⟨N,rs,rfl,hk,n4,fun h=>by omega,.inl m1⟩
     clear hno hyes n4 m1 hm
     have hn:=hk.hn.1
     clear hk
     have d1:decide ((1:Int)<(N:Int))=true∨decide ((1:Int)<(N:Int))=false:=by cases decide ((1:Int)<(N:Int)) <;> simp
     have d3:decide ((N:Int)<3)=true∨decide ((N:Int)<3)=false:=by cases decide ((N:Int)<3) <;> simp
     rcases d1 with d1 | d1 <;> rcases d3 with d3 | d3
     all_goals
      go_wp2_with fail
      first | exact hf | (go_ret;exact hf)
   · have dm:(mode==1)=false:=by rw [beq_eq_false_iff_ne];exact m1
     by_cases n1:1<N
     rotate_left
     · have d1:decide ((1:Int)<(N:Int))=false:=by rw [decide_eq_false_iff_not];omega
       have hf:=hno _ hX
       clear hno hyes hk n4 m1 hm n1
       go_wp2_with fail
       first | exact hf | (go_ret;exact hf)
     have d1:decide ((1:Int)<(N:Int))=true:=by rw [decide_eq_true_eq];omega
     by_cases n3:N<3
     · have d3:decide ((N:Int)<3)=true:=by rw [decide_eq_true_eq];omega
       have hf:=hyes _ hX ⟨N,rs,rfl,hk,n4,fun h=>by omega,.inr (by omega)⟩
       clear hno hyes hk n4 m1 hm n1 n3
       go_wp2_with fail
       first | exact hf | (go_ret;exact hf)
     · have d3:decide ((N:Int)<3)=false:=by rw [decide_eq_false_iff_not];omega
       have hf:=hno _ hX
       clear hno hyes hk n4 m1 hm n1 n3
       go_wp2_with fail
       first | exact hf | (go_ret;exact hf)
end Go.Proofs.YtbaajjkopdjbgaaGreat
namespace Kv
def zeros (n:Nat):List Int:=List.replicate n 0
end Kv
namespace Go.Proofs.YtbaajjkopdjbgaaGreat
open Go.RowKit Kv
theorem make_ints (l:Int)(k:Nat)(hl:l=k)(hk:k<=100000)(w:World) :
  (Instr.makeSlice 25 (.int .i64 l) (.int .i64 l)).run Tryz.prog w=.ok (.slice (some ⟨w.heap.size,0,none⟩) k k) (w.alloc (.cells ((zeros k).map (Value.int .i64)).toArray 3)):=by
 subst hl
 obtain⟨i0,hi,hz0,hz1,hz2⟩:=info_parts info_int
 have hr:=run_makeSlice (P:=Tryz.prog) w 25 3 i0 (.int .i64 0) Tryz.underlying25 hi hz0 .i64 .i64 k k (by omega) (by omega) (by rw [hz1];simp;omega) (by rw [hz2];omega) (by omega)
 rw [Int.toNat_natCast,hz1,Nat.mul_one] at hr
 have he:madeCells (Value.int .i64 0).cells k=((zeros k).map (Value.int .i64)).toArray:=by
  unfold zeros madeCells
  apply Array.ext'
  rw [List.map_replicate]
  apply List.ext_getElem?
  intro j
  by_cases hj:j<k
  · simp [hj,Nat.mod_one,Value.cells]
  · simp [hj]
 rw [hr,he]
theorem use35:LkUse 2 1 1 0 0 1 [] 0:=⟨⟨by decide,by decide,by decide,by decide,by decide,by decide,fun h=>absurd h (by decide),by decide,by decide⟩,by decide,by decide⟩
theorem shortL_at (L:List Int)(i:Nat):(shortL L).getD i 0=L.getD i 0:=by
 unfold shortL
 by_cases h:i<shortN L L.length
 · simp [List.getD,List.getElem?_take,h]
 · rw [shortL_zero L i (by omega)]
   simp [List.getD,List.getElem?_take,h]
theorem lockA_held {I U:Prog Unit}{c l:Int}{n:Nat}{S:TS}(h:S.got l=1):(lockA I U c l n).run S=(some 10,S):=by
 unfold lockA
 rw [run_gt,if_pos h]
 rfl
theorem tryA_held {I U:Prog Unit}{c l:Int}{S:TS}(h:S.got l=1):(tryA I U c l).run S=(some 10,S):=by
 unfold tryA
 rw [run_gt,if_pos h]
 rfl
theorem unlockA_not {I U:Prog Unit}{c l:Int}{S:TS}(h:S.got l≠1):(unlockA I U c l).run S=(some 9,S):=by
 unfold unlockA
 rw [run_gt,if_neg h]
 rfl
theorem strips35 (w:World):Calls Tryz.prog 128 #[] w fun e w'=>∃ A,e=.returned (.slice A 1 1)/\Ext w w':=by
 have hX:=(Ext.refl w).alloc (.cells #[.int .i64 1,.int .i64 1,.int .i64 1] 176)
 go_enter Tryz.func128,Tryz.ntmps128
 go_wp2_with fail
 go_ret
 exact⟨_,rfl,hX⟩
theorem locals35 (w:World):Calls Tryz.prog 129 #[] w fun e w'=>e=.returned (.int .i64 1)/\Ext w w':=by
 have hX:=Ext.refl w
 go_enter Tryz.func129,Tryz.ntmps129
 go_wp2_with fail
 go_ret
 exact⟨rfl,hX⟩
theorem mxal1 (B p:Nat)(S:TS)(bk:Nat)(w:World)(h:Plays B w p S)(hta:TameA S)(hD:S.left<6)(hn0:S.nts.length+10*S.left<=90000)(g1:Blk w bk (.cells #[.int .i64 0,.int .i64 0,.int .i64 0,.int .i64 0,.int .i64 0,.int .i64 0,.int .i64 0,.int .i64 0,.int .i64 2,.int .i64 1,.int .i64 1,.int .i64 0,.int .i64 0,.int .i64 1,.int .i64 0,.int .i64 0,.int .i64 0,.int .i64 0,.int .i64 0,.int .i64 0,.int .i64 0,.int .i64 1,.int .i64 0] 69)) :
  Calls Tryz.prog 124 #[.pointer (some ⟨p,0,none⟩),.pointer (some ⟨bk,0,none⟩)] w (Post encI B p w ((lockA (inA (lkA 6 2 1 0 0 1 [] 0) 6) (lkR 2 1 0 0 [] 0) 1 0 6).run S)):=by
 have hq:Calls Tryz.prog 45 #[.pointer (some ⟨p,0,none⟩),.agg #[.int .i64 0,.int .i64 0,.int .i64 0,.int .i64 0,.int .i64 0,.int .i64 0,.int .i64 0,.int .i64 0,.int .i64 2,.int .i64 1,.int .i64 1,.int .i64 0,.int .i64 0,.int .i64 1,.int .i64 0,.int .i64 0,.int .i64 0,.int .i64 0,.int .i64 0,.int .i64 0,.int .i64 0,.int .i64 1,.int .i64 0],.int .i64 0] w (Post encI B p w ((lockA (inA (lkA 6 2 1 0 0 1 [] 0) 6) (lkR 2 1 0 0 [] 0) 1 0 6).run S)) :=
  lock_p B p 1 6 S 0 2 1 0 0 1 1 0 0 [] w h use35 hta hD hn0
 generalize lockA (inA (lkA 6 2 1 0 0 1 [] 0) 6) (lkR 2 1 0 0 [] 0) 1 0 6=T at *
 generalize hR:Post encI B p w ((T).run S)=R
 have hO:Owes R encI B p w ((T).run S):=hR▸owes _ _ _ _ _
 clear hR
 have hK:=Keep.refl [2,3,4] B p w
 go_enter Tryz.func124,Tryz.ntmps124
 go_upto_region 1 with fail
 refine wp_region_lit ?_
 refine load_obj rfl _ rfl rfl _ rfl bk rfl g1 rfl ?_
 try simp only [put_pack]
 go_wp2_with fail
 clear g1
 refine tlast hO hK hq (fun _ h=>⟨rfl,h⟩) ?_
 intro v S1 w1 hr hP1 hk1 hK1 hO1
 have hf:=hO1.done hP1 hK1
 clear hO1 hP1 hK1 hr hk1 hO h hK hq
 go_wp2_with fail
 first | exact hf | (go_ret;exact hf)
theorem mxal2 (B p:Nat)(S:TS)(bk:Nat)(w:World)(h:Plays B w p S)(hta:TameA S)(hD:S.left<6)(hn0:S.nts.length+10*S.left<=90000)(g1:Blk w bk (.cells #[.int .i64 0,.int .i64 0,.int .i64 0,.int .i64 0,.int .i64 0,.int .i64 0,.int .i64 0,.int .i64 0,.int .i64 2,.int .i64 1,.int .i64 1,.int .i64 0,.int .i64 0,.int .i64 1,.int .i64 0,.int .i64 0,.int .i64 0,.int .i64 0,.int .i64 0,.int .i64 0,.int .i64 0,.int .i64 1,.int .i64 0] 69)) :
  Calls Tryz.prog 125 #[.pointer (some ⟨p,0,none⟩),.pointer (some ⟨bk,0,none⟩)] w (Post encI B p w ((unlockA (inA (lkA 6 2 1 0 0 1 [] 0) 6) (lkR 2 1 0 0 [] 0) 1 0).run S)):=by
 have hq:Calls Tryz.prog 56 #[.pointer (some ⟨p,0,none⟩),.agg #[.int .i64 0,.int .i64 0,.int .i64 0,.int .i64 0,.int .i64 0,.int .i64 0,.int .i64 0,.int .i64 0,.int .i64 2,.int .i64 1,.int .i64 1,.int .i64 0,.int .i64 0,.int .i64 1,.int .i64 0,.int .i64 0,.int .i64 0,.int .i64 0,.int .i64 0,.int .i64 0,.int .i64 0,.int .i64 1,.int .i64 0],.int .i64 0] w (Post encI B p w ((unlockA (inA (lkA 6 2 1 0 0 1 [] 0) 6) (lkR 2 1 0 0 [] 0) 1 0).run S)) :=
  unlock_p B p 1 6 S 0 2 1 0 0 1 1 0 0 [] w h use35 hta hD hn0
 generalize unlockA (inA (lkA 6 2 1 0 0 1 [] 0) 6) (lkR 2 1 0 0 [] 0) 1 0=T at *
 generalize hR:Post encI B p w ((T).run S)=R
 have hO:Owes R encI B p w ((T).run S):=hR▸owes _ _ _ _ _
 clear hR
 have hK:=Keep.refl [2,3,4] B p w
 go_enter Tryz.func125,Tryz.ntmps125
 go_upto_region 1 with fail
 refine wp_region_lit ?_
 refine load_obj rfl _ rfl rfl _ rfl bk rfl g1 rfl ?_
 try simp only [put_pack]
 go_wp2_with fail
 clear g1
 refine tlast hO hK hq (fun _ h=>⟨rfl,h⟩) ?_
 intro v S1 w1 hr hP1 hk1 hK1 hO1
 have hf:=hO1.done hP1 hK1
 clear hO1 hP1 hK1 hr hk1 hO h hK hq
 go_wp2_with fail
 first | exact hf | (go_ret;exact hf)
theorem mxal3 (B p:Nat)(S:TS)(bk:Nat)(w:World)(h:Plays B w p S)(hta:TameA S)(hD:S.left<6)(hn0:S.nts.length+10*S.left<=90000)(g1:Blk w bk (.cells #[.int .i64 0,.int .i64 0,.int .i64 0,.int .i64 0,.int .i64 0,.int .i64 0,.int .i64 0,.int .i64 0,.int .i64 2,.int .i64 1,.int .i64 1,.int .i64 0,.int .i64 0,.int .i64 1,.int .i64 0,.int .i64 0,.int .i64 0,.int .i64 0,.int .i64 0,.int .i64 0,.int .i64 0,.int .i64 1,.int .i64 0] 69)) :
  Calls Tryz.prog 126 #[.pointer (some ⟨p,0,none⟩),.pointer (some ⟨bk,0,none⟩)] w (Post encI B p w ((tryA (inA (lkA 6 2 1 0 0 1 [] 0) 6) (lkR 2 1 0 0 [] 0) 1 0).run S)):=by
 have hq:Calls Tryz.prog 53 #[.pointer (some ⟨p,0,none⟩),.agg #[.int .i64 0,.int .i64 0,.int .i64 0,.int .i64 0,.int .i64 0,.int .i64 0,.int .i64 0,.int .i64 0,.int .i64 2,.int .i64 1,.int .i64 1,.int .i64 0,.int .i64 0,.int .i64 1,.int .i64 0,.int .i64 0,.int .i64 0,.int .i64 0,.int .i64 0,.int .i64 0,.int .i64 0,.int .i64 1,.int .i64 0],.int .i64 0] w (Post encI B p w ((tryA (inA (lkA 6 2 1 0 0 1 [] 0) 6) (lkR 2 1 0 0 [] 0) 1 0).run S)) :=
  try_p B p 1 6 S 0 2 1 0 0 1 1 0 0 [] w h use35 hta hD hn0
 generalize tryA (inA (lkA 6 2 1 0 0 1 [] 0) 6) (lkR 2 1 0 0 [] 0) 1 0=T at *
 generalize hR:Post encI B p w ((T).run S)=R
 have hO:Owes R encI B p w ((T).run S):=hR▸owes _ _ _ _ _
 clear hR
 have hK:=Keep.refl [2,3,4] B p w
 go_enter Tryz.func126,Tryz.ntmps126
 go_upto_region 1 with fail
 refine wp_region_lit ?_
 refine load_obj rfl _ rfl rfl _ rfl bk rfl g1 rfl ?_
 try simp only [put_pack]
 go_wp2_with fail
 clear g1
 refine tlast hO hK hq (fun _ h=>⟨rfl,h⟩) ?_
 intro v S1 w1 hr hP1 hk1 hK1 hO1
 have hf:=hO1.done hP1 hK1
 clear hO1 hP1 hK1 hr hk1 hO h hK hq
 go_wp2_with fail
 first | exact hf | (go_ret;exact hf)
theorem mxal4 (B p:Nat)(S:TS)(bk:Nat)(w:World)(h:Plays B w p S)(hta:TameA S)(hD:S.left<6)(hn0:S.nts.length+10*S.left<=90000)(g1:Blk w bk (.cells #[.int .i64 0,.int .i64 0,.int .i64 0,.int .i64 0,.int .i64 0,.int .i64 0,.int .i64 0,.int .i64 0,.int .i64 2,.int .i64 1,.int .i64 1,.int .i64 0,.int .i64 0,.int .i64 1,.int .i64 0,.int .i64 0,.int .i64 0,.int .i64 0,.int .i64 0,.int .i64 0,.int .i64 0,.int .i64 1,.int .i64 0] 69)) :
  Calls Tryz.prog 127 #[.pointer (some ⟨p,0,none⟩),.pointer (some ⟨bk,0,none⟩)] w (Post encI B p w ((lockA (inA (lkA 6 2 1 0 0 1 [] 0) 6) (lkR 2 1 0 0 [] 0) 1 0 6).run S)):=by
 have hq:Calls Tryz.prog 45 #[.pointer (some ⟨p,0,none⟩),.agg #[.int .i64 0,.int .i64 0,.int .i64 0,.int .i64 0,.int .i64 0,.int .i64 0,.int .i64 0,.int .i64 0,.int .i64 2,.int .i64 1,.int .i64 1,.int .i64 0,.int .i64 0,.int .i64 1,.int .i64 0,.int .i64 0,.int .i64 0,.int .i64 0,.int .i64 0,.int .i64 0,.int .i64 0,.int .i64 1,.int .i64 0],.int .i64 0] w (Post encI B p w ((lockA (inA (lkA 6 2 1 0 0 1 [] 0) 6) (lkR 2 1 0 0 [] 0) 1 0 6).run S)) :=
  lock_p B p 1 6 S 0 2 1 0 0 1 1 0 0 [] w h use35 hta hD hn0
 generalize lockA (inA (lkA 6 2 1 0 0 1 [] 0) 6) (lkR 2 1 0 0 [] 0) 1 0 6=T at *
 generalize hR:Post encI B p w ((T).run S)=R
 have hO:Owes R encI B p w ((T).run S):=hR▸owes _ _ _ _ _
 clear hR
 have hK:=Keep.refl [2,3,4] B p w
 go_enter Tryz.func127,Tryz.ntmps127
 go_upto_region 1 with fail
 refine wp_region_lit ?_
 refine load_obj rfl _ rfl rfl _ rfl bk rfl g1 rfl ?_
 try simp only [put_pack]
 go_wp2_with fail
 clear g1
 refine tlast hO hK hq (fun _ h=>⟨rfl,h⟩) ?_
 intro v S1 w1 hr hP1 hk1 hK1 hO1
 have hf:=hO1.done hP1 hK1
 clear hO1 hP1 hK1 hr hk1 hO h hK hq
 go_wp2_with fail
 first | exact hf | (go_ret;exact hf)
set_option maxRecDepth 100000 in
set_option maxHeartbeats 1000000 in
theorem alive35 (w:World):Calls Tryz.prog 41 #[] w fun e w'=>e=.returned (.bool true)/\Ext w w':=by
 have hmf:∀ (fn:Fn) (first cap:Array Value) (w:World),(Instr.makeFunc fn first cap).run Tryz.prog w=.ok (.func fn first cap) w:=fun _ _ _ _=>rfl
 have hmk:∀ w,(Instr.makeSlice 25 (.int .i64 4) (.int .i64 4)).run Tryz.prog w=.ok (.slice (some ⟨w.heap.size,0,none⟩) 4 4) (w.alloc (.cells ((zeros 4).map (Value.int .i64)).toArray 3)):=fun w=>make_ints 4 4 rfl (by decide) w
 have hput:=fun w=>put_r 0 2 1 1 0 0 1 [] w use35.ok
 rw [show lkC 2 1 []=1 from rfl,show lkL 2 []=0 from rfl] at hput
 go_enter Tryz.func41,Tryz.ntmps41
 go_wp2_with fail
 refine (hput _).mono ?_
 rintro e w0 ⟨rfl,hX⟩
 clear hput
 rename_i hKK
 refine hKK _ _ ?_
 clear hKK
 refine new_obj rfl rfl rfl _ _ rfl _ rfl rfl rfl (by kernel_rfl) ?_
 refine wpList_nil ?_
 have b1:=Blk.new w0 (.cells #[.int .i64 0,.int .i64 0,.int .i64 0,.int .i64 0,.int .i64 0,.int .i64 0,.int .i64 0,.int .i64 0,.int .i64 2,.int .i64 1,.int .i64 1,.int .i64 0,.int .i64 0,.int .i64 1,.int .i64 0,.int .i64 0,.int .i64 0,.int .i64 0,.int .i64 0,.int .i64 0,.int .i64 0,.int .i64 1,.int .i64 0] 69)
 replace hX:=hX.alloc (.cells #[.int .i64 0,.int .i64 0,.int .i64 0,.int .i64 0,.int .i64 0,.int .i64 0,.int .i64 0,.int .i64 0,.int .i64 2,.int .i64 1,.int .i64 1,.int .i64 0,.int .i64 0,.int .i64 1,.int .i64 0,.int .i64 0,.int .i64 0,.int .i64 0,.int .i64 0,.int .i64 0,.int .i64 0,.int .i64 1,.int .i64 0] 69)
 generalize hbk:w0.heap.size=bk at *
 generalize World.alloc w0 _=V0 at *
 clear hbk
 go_wp2_with fail
 have hA:=ints_new V0 (zeros 4) (by simp [zeros])
 simp only [show (zeros 4).length=4 from by simp [zeros]] at hA
 replace b1:=b1.alloc (.cells ((zeros 4).map (Value.int .i64)).toArray 3)
 replace hX:=hX.alloc (.cells ((zeros 4).map (Value.int .i64)).toArray 3)
 have hsz:V0.heap.size<(World.alloc V0 (.cells ((zeros 4).map (Value.int .i64)).toArray 3)).heap.size:=by simp
 generalize World.alloc V0 _=V0a at *
 have hPl:=play_err 124 #[.pointer (some ⟨bk,0,none⟩)] (lockA (inA (lkA 6 2 1 0 0 1 [] 0) 6) (lkR 2 1 0 0 [] 0) 1 0 6) none 0 [] (some ⟨V0.heap.size,0,none⟩) 4 (zeros 4) V0a (Ints.nil _) (by simp) hA (by simp [zeros,maxAns]) (fun k hk=>by simp only [Value.ownBlock,Option.some.injEq] at hk;omega) (fun _ _=>rfl) (fun W p hxW hP=>mxal1 _ p _ bk W hP (fun v hv=>by
  obtain rfl:=List.eq_of_mem_replicate (show v∈List.replicate 4 (0:Int) from hv)
  omega) (show (zeros 4).length-0<6 by simp [zeros]) (by simp [TS0,TS.left,zeros]) (b1.ext hxW))
 have e1:((lockA (inA (lkA 6 2 1 0 0 1 [] 0) 6) (lkR 2 1 0 0 [] 0) 1 0 6).run (TS0 [] (zeros 4))).1=some 0:=by decide +kernel
 have e2:((lockA (inA (lkA 6 2 1 0 0 1 [] 0) 6) (lkR 2 1 0 0 [] 0) 1 0 6).run (TS0 [] (zeros 4))).2.acc.length=4:=by decide +kernel
 have e3:((lockA (inA (lkA 6 2 1 0 0 1 [] 0) 6) (lkR 2 1 0 0 [] 0) 1 0 6).run (TS0 [] (zeros 4))).2.loc 0=1:=by decide +kernel
 rw [e1,show (zeros 4).length=4 from by simp [zeros]] at hPl
 generalize ((lockA (inA (lkA 6 2 1 0 0 1 [] 0) 6) (lkR 2 1 0 0 [] 0) 1 0 6).run (TS0 [] (zeros 4))).2=S1 at *
 simp only [Option.getD_some,Option.isSome_some] at hPl
 refine hPl.mono ?_
 clear hPl e1 hA hsz
 rintro e y1 ⟨v1,rfl,hO,hx1⟩
 obtain⟨A1,c1,D1,d1,vs1,L1,rfl,hO1⟩:=hO
 obtain⟨E1,k1,hvs1,_,_⟩:=hO1.locs.slice
 subst hvs1
 unfold outV
 rw [e2]
 replace e3:=Lib.hid e3
 clear e2
 replace hX:=(hX.trans hx1).alloc (.cells #[.bool true,.slice A1 4 c1,.slice D1 S1.nts.length d1,.slice E1 (shortL L1).length k1] 30)
 replace b1:=(b1.ext hx1).alloc (.cells #[.bool true,.slice A1 4 c1,.slice D1 S1.nts.length d1,.slice E1 (shortL L1).length k1] 30)
 have n1:=Blk.new y1 (.cells #[.bool true,.slice A1 4 c1,.slice D1 S1.nts.length d1,.slice E1 (shortL L1).length k1] 30)
 replace hO1:=hO1.ext ((Ext.refl y1).alloc (.cells #[.bool true,.slice A1 4 c1,.slice D1 S1.nts.length d1,.slice E1 (shortL L1).length k1] 30))
 clear hx1
 go_upto_region 3 with fail
 generalize World.alloc y1 _=V1 at *
 go_wp2_with fail
 have hPl:=play_err 125 #[.pointer (some ⟨bk,0,none⟩)] (unlockA (inA (lkA 6 2 1 0 0 1 [] 0) 6) (lkR 2 1 0 0 [] 0) 1 0) none 0 [] none 0 [] V1 (Ints.nil _) (by simp) (Ints.nil _) (by simp [maxAns]) (fun k hk=>by simp [Value.ownBlock] at hk) (fun _ _=>rfl) (fun W p hxW hP=>mxal2 _ p _ bk W hP (fun v hv=>by simp [TS0] at hv) (show ([]:List Int).length-0<6 by simp) (by simp [TS0,TS.left]) (b1.ext hxW))
 rw [unlockA_not (show (TS0 [] []).got 0≠1 from by decide)] at hPl
 simp only [Option.getD_some,Option.isSome_some,List.length_nil] at hPl
 refine hPl.mono ?_
 clear hPl
 rintro e y2 ⟨v2,rfl,hO,hx2⟩
 obtain⟨A2,c2,D2,d2,vs2,L2,rfl,hO2⟩:=hO
 obtain⟨E2,k2,hvs2,_,_⟩:=hO2.locs.slice
 subst hvs2
 unfold outV
 rw [show (TS0 [] []).acc.length=0 from rfl,show (TS0 [] []).nts.length=0 from rfl]
 have n2:=Blk.new y2 (.cells #[.bool true,.slice A2 0 c2,.slice D2 0 d2,.slice E2 (shortL L2).length k2] 30)
 replace hX:=(hX.trans hx2).alloc (.cells #[.bool true,.slice A2 0 c2,.slice D2 0 d2,.slice E2 (shortL L2).length k2] 30)
 replace b1:=(b1.ext hx2).alloc (.cells #[.bool true,.slice A2 0 c2,.slice D2 0 d2,.slice E2 (shortL L2).length k2] 30)
 replace n1:=(n1.ext hx2).alloc (.cells #[.bool true,.slice A2 0 c2,.slice D2 0 d2,.slice E2 (shortL L2).length k2] 30)
 replace hO1:=hO1.ext (hx2.alloc (.cells #[.bool true,.slice A2 0 c2,.slice D2 0 d2,.slice E2 (shortL L2).length k2] 30))
 clear hx2 hO2
 go_upto_region 4 with fail
 generalize hV1:V1.heap.size=z1 at *
 generalize World.alloc y2 _=V2 at *
 go_wp2_with fail
 have hA:=ints_new V2 [0,1,0] (by simp)
 simp only [List.length_cons,List.length_nil] at hA
 replace b1:=b1.alloc (.cells (([0,1,0]:List Int).map (Value.int .i64)).toArray 3)
 replace n1:=n1.alloc (.cells (([0,1,0]:List Int).map (Value.int .i64)).toArray 3)
 replace n2:=n2.alloc (.cells (([0,1,0]:List Int).map (Value.int .i64)).toArray 3)
 replace hX:=hX.alloc (.cells (([0,1,0]:List Int).map (Value.int .i64)).toArray 3)
 replace hO1:=hO1.ext ((Ext.refl V2).alloc (.cells (([0,1,0]:List Int).map (Value.int .i64)).toArray 3))
 have hsz:V2.heap.size<(World.alloc V2 (.cells (([0,1,0]:List Int).map (Value.int .i64)).toArray 3)).heap.size:=by simp
 rw [show (.cells (([0,1,0]:List Int).map (Value.int .i64)).toArray 3:Obj)=.cells #[.int .i64 0,.int .i64 1,.int .i64 0] 3 from rfl] at *
 generalize World.alloc V2 _=V2a at *
 have hPl:=play_err 126 #[.pointer (some ⟨bk,0,none⟩)] (tryA (inA (lkA 6 2 1 0 0 1 [] 0) 6) (lkR 2 1 0 0 [] 0) 1 0) none 0 [] (some ⟨V2.heap.size,0,none⟩) 3 [0,1,0] V2a (Ints.nil _) (by simp) hA (by simp [maxAns]) (fun k hk=>by simp only [Value.ownBlock,Option.some.injEq] at hk;omega) (fun _ _=>rfl) (fun W p hxW hP=>mxal3 _ p _ bk W hP (fun v hv=>by
  simp [TS0] at hv
  omega) (show ([0,1,0]:List Int).length-0<6 by simp) (by simp [TS0,TS.left]) (b1.ext hxW))
 have e1:((tryA (inA (lkA 6 2 1 0 0 1 [] 0) 6) (lkR 2 1 0 0 [] 0) 1 0).run (TS0 [] [0,1,0])).1=some 12:=by decide +kernel
 rw [e1] at hPl
 generalize ((tryA (inA (lkA 6 2 1 0 0 1 [] 0) 6) (lkR 2 1 0 0 [] 0) 1 0).run (TS0 [] [0,1,0])).2=S3 at *
 simp only [Option.getD_some,Option.isSome_some,List.length_cons,List.length_nil] at hPl
 refine hPl.mono ?_
 clear hPl e1 hA hsz
 rintro e y3 ⟨v3,rfl,hO,hx3⟩
 obtain⟨A3,c3,D3,d3,vs3,L3,rfl,hO3⟩:=hO
 obtain⟨E3,k3,hvs3,_,_⟩:=hO3.locs.slice
 subst hvs3
 unfold outV
 replace hX:=(hX.trans hx3).alloc (.cells #[.bool true,.slice A3 S3.acc.length c3,.slice D3 S3.nts.length d3,.slice E3 (shortL L3).length k3] 30)
 replace b1:=(b1.ext hx3).alloc (.cells #[.bool true,.slice A3 S3.acc.length c3,.slice D3 S3.nts.length d3,.slice E3 (shortL L3).length k3] 30)
 replace n1:=(n1.ext hx3).alloc (.cells #[.bool true,.slice A3 S3.acc.length c3,.slice D3 S3.nts.length d3,.slice E3 (shortL L3).length k3] 30)
 replace n2:=(n2.ext hx3).alloc (.cells #[.bool true,.slice A3 S3.acc.length c3,.slice D3 S3.nts.length d3,.slice E3 (shortL L3).length k3] 30)
 replace hO1:=hO1.ext (hx3.alloc (.cells #[.bool true,.slice A3 S3.acc.length c3,.slice D3 S3.nts.length d3,.slice E3 (shortL L3).length k3] 30))
 clear hx3 hO3
 generalize hV2:V2.heap.size=z2 at *
 go_upto_region 5 with fail
 generalize World.alloc y3 _=V3 at *
 have c_n1:=n1.cells
 have c_n2:=n2.cells
 go_wp2_with fail
 have hPl:=play_err 127 #[.pointer (some ⟨bk,0,none⟩)] (lockA (inA (lkA 6 2 1 0 0 1 [] 0) 6) (lkR 2 1 0 0 [] 0) 1 0 6) E1 k1 (shortL L1) none 0 [] V3 hO1.locs (by have:=hO1.len;unfold shortL;simp;omega) (Ints.nil _) (by simp [maxAns]) (fun k hk=>by simp [Value.ownBlock] at hk) (fun _ _=>rfl) (fun W p hxW hP=>mxal4 _ p _ bk W hP (fun v hv=>by simp [TS0] at hv) (show ([]:List Int).length-0<6 by simp) (by simp [TS0,TS.left]) (b1.ext hxW))
 rw [lockA_held (show (TS0 (shortL L1) []).got 0=1 from by
  show (shortL L1).getD 0 0=1
  rw [shortL_at,<- hO1.is 0]
  exact e3.out)] at hPl
 simp only [Option.getD_some,Option.isSome_some,List.length_nil] at hPl
 refine hPl.mono ?_
 clear hPl
 rintro e y4 ⟨v4,rfl,hO,hx4⟩
 obtain⟨A4,c4,D4,d4,vs4,L4,rfl,hO4⟩:=hO
 obtain⟨E4,k4,hvs4,_,_⟩:=hO4.locs.slice
 subst hvs4
 unfold outV
 clear c_n1 c_n2 hO1
 replace n1:=n1.ext hx4
 replace n2:=n2.ext hx4
 replace hX:=hX.trans hx4
 clear hx4 hO4 b1
 generalize hV3:y3.heap.size=z3 at *
 generalize hV4:y2.heap.size=z4 at *
 generalize hV5:y1.heap.size=z5 at *
 clear hV3 hV4 hV5 hV1 hV2
 replace n1:=n1.alloc (.cells #[.bool true,.slice A4 (TS0 (shortL L1) []).acc.length c4,.slice D4 (TS0 (shortL L1) []).nts.length d4,.slice E4 (shortL L4).length k4] 30)
 replace n2:=n2.alloc (.cells #[.bool true,.slice A4 (TS0 (shortL L1) []).acc.length c4,.slice D4 (TS0 (shortL L1) []).nts.length d4,.slice E4 (shortL L4).length k4] 30)
 replace hX:=hX.alloc (.cells #[.bool true,.slice A4 (TS0 (shortL L1) []).acc.length c4,.slice D4 (TS0 (shortL L1) []).nts.length d4,.slice E4 (shortL L4).length k4] 30)
 go_upto_region 6 with fail
 generalize World.alloc y4 _=V4 at *
 have c_n1:=n1.cells
 have c_n2:=n2.cells
 go_wp2_with fail
 refine (strips35 _).mono ?_
 rintro e w5 ⟨A5,rfl,hx5⟩
 clear c_n1 c_n2 n1 n2
 replace hX:=hX.trans hx5
 clear hx5
 go_wp2_with fail
 refine (locals35 _).mono ?_
 rintro e w6 ⟨rfl,hx6⟩
 have hf:=Lib.hid (hX.trans hx6)
 clear hx6 hX
 go_wp2_with fail
 first | go_ret2 | go_ret
 exact⟨rfl,hf.out⟩
def fewL (alg:Int) (N:Nat) (mode:Int):Bool:=match layM (lkWants alg N) N mode 0 0 with
 | some rs=>decide (0<=lkL alg rs/\lkL alg rs<=30000)
 | none=>true
theorem few_all:∀ a∈[3,4,5,6,7,8],∀ p∈[((1:Nat),(1:Int)),(2,1),(3,1),(4,1),(1,2),(2,2)],fewL (a:Int) p.1 p.2=true:=by decide +kernel
theorem lkL_few {alg:Int}{N:Nat}{mode room:Int}{rs:List Reg}(h:LkOk alg N mode 0 0 room rs)(h4:N<=4)(hm:mode=1∨N<=2):0<=lkL alg rs/\lkL alg rs<=30000:=by
 have hn:=h.hn
 have ha:=h.halg
 have hmo:=h.hmode
 by_cases h3:3<=alg
 · have hl:=h.hlay h3
   have hf:fewL alg N mode=true:=by
    refine few_all alg ?_ (N,mode) ?_
    · simp only [List.mem_cons,List.not_mem_nil,or_false]
      omega
    · simp only [List.mem_cons,List.not_mem_nil,or_false,Prod.mk.injEq]
      omega
   unfold fewL at hf
   rw [hl] at hf
   simpa using hf
 · unfold lkL
   repeat' split
   all_goals omega
theorem ints_put {w:World}{b n:Nat}{l:List Int}(h:Ints w (.slice (some ⟨b,0,none⟩) n n) l)(i:Nat)(hi:i<n)(v:Int)(hb:w.heap[b]?=some (.cells (l.map (Value.int .i64)).toArray 3 (0,0))) :
  Ints (w.setCell ⟨b,i,none⟩ (.int .i64 v)) (.slice (some ⟨b,0,none⟩) n n) (l.set i v):=by
 obtain⟨A,c,he,h1,h2,h3⟩:=h
 injection he with e1 e2 e3
 subst e1 e2 e3
 refine⟨_,_,by rw [List.length_set],by rw [List.length_set];exact h1,h2,fun _=>?_⟩
 have hg:=heap_setCell (i:=i) hb (.int .i64 v)
 refine⟨b,0,rfl,(Array.getElem?_eq_some_iff.1 hg).1,fun j x hj=>?_⟩
 rw [Nat.zero_add,cell_of_heap hg,Array.getElem?_setIfInBounds]
 by_cases hij:i=j
 · subst hij
   rw [List.getElem?_set_self hi] at hj
   obtain rfl:v=x:=by simpa using hj
   simp [hi]
 · rw [List.getElem?_set_ne hij] at hj
   simp [hij,hj]
theorem mscl1 (B p N:Nat)(S:TS)(alg mode room:Int)(m:Nat)(rs:List Reg)(bo bt:Nat)(w:World)(h:Plays B w p S)(hk:LkUse alg N mode 0 0 room rs m)(hta:TameA S)(hD:S.left<1)(hn0:S.nts.length+10*S.left<=90000)
  (g1:Blk w bo (.cells #[.int .i64 0,.int .i64 0,.int .i64 0,.int .i64 0,.int .i64 0,.int .i64 0,.int .i64 0,.int .i64 0,.int .i64 alg,.int .i64 N,.int .i64 mode,.int .i64 0,.int .i64 0,.int .i64 room,.int .i64 0,.int .i64 0,.int .i64 0,.int .i64 0,.int .i64 0,.int .i64 0,.int .i64 0,.int .i64 (lkC alg N rs),.int .i64 (lkL alg rs)] 69))(c2:w.cell? ⟨bt,0,none⟩=some (.int .i64 m)) :
  Calls Tryz.prog 59 #[.pointer (some ⟨p,0,none⟩),.pointer (some ⟨bo,0,none⟩),.pointer (some ⟨bt,0,none⟩)] w (Post encI B p w ((unlockA (inA (lkA 1 alg N 0 0 room rs m) 1) (lkR alg N 0 0 rs m) (lkC alg N rs) (lkL alg rs)).run S)):=by
 have hq:=unlock_p B p N 1 S 0 alg mode 0 0 room (lkC alg N rs) (lkL alg rs) m rs w h hk hta hD hn0
 generalize unlockA (inA (lkA 1 alg N 0 0 room rs m) 1) (lkR alg N 0 0 rs m) (lkC alg N rs) (lkL alg rs)=T at *
 generalize lkC alg N rs=C at *
 generalize lkL alg rs=L at *
 generalize hR:Post encI B p w ((T).run S)=R
 have hO:Owes R encI B p w ((T).run S):=hR▸owes _ _ _ _ _
 clear hR
 have hK:=Keep.refl [2,3,4] B p w
 clear hk
 go_enter Tryz.func59,Tryz.ntmps59
 go_upto_region 1 with fail
 refine wp_region_lit ?_
 refine load_obj rfl _ rfl rfl _ rfl bo rfl g1 rfl ?_
 try simp only [put_pack]
 go_wp2_with fail
 clear g1 c2
 refine tlast hO hK hq (fun _ h=>⟨rfl,h⟩) ?_
 intro v S1 w1 hr hP1 hk1 hK1 hO1
 have hf:=hO1.done hP1 hK1
 clear hO1 hP1 hK1 hr hk1 hO h hK hq
 go_wp2_with fail
 first | exact hf | (go_ret;exact hf)
theorem mscl2 (B p N:Nat)(S:TS)(alg mode room:Int)(m:Nat)(rs:List Reg)(bo bt:Nat)(w:World)(h:Plays B w p S)(hk:LkUse alg N mode 0 0 room rs m)(hta:TameA S)(hD:S.left<1)(hn0:S.nts.length+10*S.left<=90000)(hg:S.got (lkL alg rs)=1)
  (g1:HeldP w p bo (.cells #[.int .i64 0,.int .i64 0,.int .i64 0,.int .i64 0,.int .i64 0,.int .i64 0,.int .i64 0,.int .i64 0,.int .i64 alg,.int .i64 N,.int .i64 mode,.int .i64 0,.int .i64 0,.int .i64 room,.int .i64 0,.int .i64 0,.int .i64 0,.int .i64 0,.int .i64 0,.int .i64 0,.int .i64 0,.int .i64 (lkC alg N rs),.int .i64 (lkL alg rs)] 69))(g2:HeldP w p bt (.cells #[.int .i64 m] 3)) :
  Calls Tryz.prog 60 #[.pointer (some ⟨p,0,none⟩),.pointer (some ⟨bo,0,none⟩),.pointer (some ⟨bt,0,none⟩)] w (Post encI B p w (some 10,S)):=by
 have hq:=try_p B p N 1 S 0 alg mode 0 0 room (lkC alg N rs) (lkL alg rs) m rs w h hk hta hD hn0
 rw [tryA_held hg] at hq
 have hq2:=fun w h=>lock_p B p N 1 S 0 alg mode 0 0 room (lkC alg N rs) (lkL alg rs) m rs w h hk hta hD hn0
 rw [lockA_held hg] at hq2
 have hq2:=Lib.hid hq2
 have hg1:=Lib.hid g1
 have hg2:=Lib.hid g2
 have c2:=g2.cells
 generalize lkC alg N rs=C at *
 generalize lkL alg rs=L at *
 clear hk
 go_enter Tryz.func60,Tryz.ntmps60
 go_upto_region 1 with fail
 refine wp_region_lit ?_
 refine load_obj rfl _ rfl rfl _ rfl bo rfl g1.1 rfl ?_
 try simp only [put_pack]
 clear g1 g2
 go_wp2_with fail
 clear c2
 refine hq.mono ?_
 rintro e w1 ⟨rfl,hP1,hk1⟩
 have g1:=hg1.out.keep hk1
 have g2:=hg2.out.keep hk1
 have c2:=g2.cells
 clear hq
 have hk1h:=Lib.hid hk1
 clear hk1
 rw [show encI 10=.int .i64 10 from rfl]
 go_upto_region 4 with fail
 refine wp_region_lit ?_
 refine load_obj rfl _ rfl rfl _ rfl bo rfl g1.1 rfl ?_
 try simp only [put_pack]
 go_wp2_with fail
 refine (hq2.out _ hP1).mono ?_
 rintro e w2 ⟨rfl,hP2,hk2⟩
 have hf:Post encI B p w (some 10,S) (.returned (encI 10)) w2:=⟨rfl,hP2,hk1h.out.trans hk2⟩
 clear hP1 hP2 hk2 c2 g1 g2 hq2
 rw [show encI 10=.int .i64 10 from rfl] at *
 go_wp2_with fail
 first | exact hf | (go_ret;exact hf)
-- walk
set_option maxRecDepth 100000 in
set_option maxHeartbeats 2000000 in
theorem misuse_walk (alg N0 mode base loc room me:Int)(mine:Bool)(w:World) :
  Calls Tryz.prog 7 #[.agg #[.int .i64 alg,.int .i64 N0,.int .i64 mode,.int .i64 base,.int .i64 loc,.int .i64 room],.int .i64 me,.bool mine] w fun e w'=>e=.returned (.bool true)/\Ext w w':=by
 have hmf:∀ (fn:Fn) (first cap:Array Value) (w:World),(Instr.makeFunc fn first cap).run Tryz.prog w=.ok (.func fn first cap) w:=fun _ _ _ _=>rfl
 have hMay:=fun w=>may35_r alg N0 mode base loc room w
 have hX:=Ext.refl w
 have b1:=Blk.new w (.cells #[.int .i64 alg,.int .i64 N0,.int .i64 mode,.int .i64 base,.int .i64 loc,.int .i64 room] 23)
 replace hX:=hX.alloc (.cells #[.int .i64 alg,.int .i64 N0,.int .i64 mode,.int .i64 base,.int .i64 loc,.int .i64 room] 23)
 have c_b1:=b1.cells
 go_enter Tryz.func7,Tryz.ntmps7
 go_wp2_with fail
 generalize w.heap.size=bk at *
 generalize World.alloc w _=W0 at *
 refine (hMay _).mono ?_
 rintro e w1 ⟨⟨b,rfl,hb⟩,hx⟩
 replace b1:=b1.ext hx
 replace hX:=hX.trans hx
 clear hx hMay c_b1
 cases b with
 | false =>
   clear hb
   go_wp2_with fail
   refine (alive35 _).mono ?_
   rintro e w7 ⟨rfl,hx7⟩
   have hf:=Lib.hid (hX.trans hx7)
   clear hX hx7
   go_wp2_with fail
   go_ret
   exact⟨rfl,hf.out⟩
 | true =>
 obtain⟨N,rs,rfl,hk,n4,hNm,hm2⟩:=hb rfl
 clear hb
 obtain⟨l0,l1⟩:=lkL_few hk n4 hm2
 have n1:=hk.hn.1
 obtain⟨m,hm1,hme⟩:=me_at me N n1 (by omega)
 have hmr:=fun w=>me_r alg mode 0 0 room me N w n1 (by omega)
 rw [hme] at hmr
 have hput:=fun w=>put_r 0 alg N mode base loc room rs w hk
 have hcl1:=Lib.hid fun B p S W bo bt h ht hD hn=>mscl1 B p N S alg mode room m rs bo bt W h ⟨hk,hm1,hNm⟩ ht hD hn
 have hcl2:=Lib.hid fun B p S W bo bt h ht hD hn hg=>mscl2 B p N S alg mode room m rs bo bt W h ⟨hk,hm1,hNm⟩ ht hD hn hg
 clear hme hk hNm hm2 n4 n1 hm1
 generalize lkC alg N rs=C at *
 obtain⟨l,hl⟩:∃ l:Nat,lkL alg rs=l:=⟨(lkL alg rs).toNat,by omega⟩
 rw [hl] at hput hcl1 hcl2 l1
 clear hl l0
 have hmk:∀ w,(Instr.makeSlice 25 (.int .i64 ((l:Int)+1)) (.int .i64 ((l:Int)+1))).run Tryz.prog w=.ok (.slice (some ⟨w.heap.size,0,none⟩) (l+1:Nat) (l+1:Nat)) (w.alloc (.cells ((zeros (l+1)).map (Value.int .i64)).toArray 3)):=fun w=>make_ints _ (l+1) (by omega) (by omega) w
 have hw1:IntKind.i64.wrap ((l:Int)+1)=(l:Int)+1:=IntWalk.i64_in _ (by omega)
 have c_b1:=b1.cells
 go_wp2_with fail
 refine (hput _).mono ?_
 rintro e w2 ⟨rfl,hx⟩
 replace hX:=hX.trans hx
 clear hx hput c_b1 b1
 rename_i hKK
 refine hKK _ _ ?_
 clear hKK
 refine new_obj rfl rfl rfl _ _ rfl _ rfl rfl rfl (by kernel_rfl) ?_
 refine wpList_nil ?_
 have b7:=Blk.new w2 (.cells #[.int .i64 0,.int .i64 0,.int .i64 0,.int .i64 0,.int .i64 0,.int .i64 0,.int .i64 0,.int .i64 0,.int .i64 alg,.int .i64 N,.int .i64 mode,.int .i64 0,.int .i64 0,.int .i64 room,.int .i64 0,.int .i64 0,.int .i64 0,.int .i64 0,.int .i64 0,.int .i64 0,.int .i64 0,.int .i64 C,.int .i64 l] 69)
 replace hX:=hX.alloc (.cells #[.int .i64 0,.int .i64 0,.int .i64 0,.int .i64 0,.int .i64 0,.int .i64 0,.int .i64 0,.int .i64 0,.int .i64 alg,.int .i64 N,.int .i64 mode,.int .i64 0,.int .i64 0,.int .i64 room,.int .i64 0,.int .i64 0,.int .i64 0,.int .i64 0,.int .i64 0,.int .i64 0,.int .i64 0,.int .i64 C,.int .i64 l] 69)
 generalize hbo:w2.heap.size=bo at *
 generalize World.alloc w2 _=W1 at *
 clear hbo
 have c_b7:=b7.cells
 go_wp2_with fail
 refine (hmr _).mono ?_
 rintro e w3 ⟨rfl,hx⟩
 replace hX:=(hX.trans hx).alloc (.cells #[.int .i64 m] 3)
 replace b7:=(b7.ext hx).alloc (.cells #[.int .i64 m] 3)
 have b8:=Blk.new w3 (.cells #[.int .i64 m] 3)
 clear hx hmr c_b7
 generalize hbt:w3.heap.size=bt at *
 go_upto_region 5 with fail
 generalize World.alloc w3 _=W2 at *
 clear hbt
 have c_b7:=b7.cells
 have hA:=ints_new W2 (zeros (l+1)) (by simp [zeros];omega)
 have hzl:(zeros (l+1)).length=l+1:=by simp [zeros]
 rw [hzl] at hA
 have hq:=hX.size
 have b9:=Blk.new W2 (.cells ((zeros (l+1)).map (Value.int .i64)).toArray 3)
 replace hX:=hX.alloc (.cells ((zeros (l+1)).map (Value.int .i64)).toArray 3)
 have n8:=b8.lt
 have n7:=b7.lt
 replace b7:=b7.alloc (.cells ((zeros (l+1)).map (Value.int .i64)).toArray 3)
 replace b8:=b8.alloc (.cells ((zeros (l+1)).map (Value.int .i64)).toArray 3)
 generalize hba:W2.heap.size=ba at *
 go_upto_region 6 with fail
 generalize World.alloc W2 _=W3 at *
 clear c_b7
 have c_b7:=b7.cells
 cases mine with
 | false =>
   have hL:=Lib.hid (show ∀ i,(TS0 (zeros (l+1)) []).loc i=(zeros (l+1)).getD i 0 from fun _=>rfl)
   have hgot:(TS0 (zeros (l+1)) []).got (l:Int)≠1:=by
    unfold TS.got
    rw [if_neg (by omega)]
    show (zeros (l+1)).getD l 0≠1
    simp [zeros,List.getD]
   generalize hLs:zeros (l+1)=Ls at *
   have hPl:=play_err 59 #[.pointer (some ⟨bo,0,none⟩),.pointer (some ⟨bt,0,none⟩)] _ (some ⟨ba,0,none⟩) (l+1) Ls none 0 [] W3 (by rw [hzl];exact hA) (by rw [hzl];omega) (Ints.nil _) (by simp [maxAns]) (fun k hk=>by simp [Value.ownBlock] at hk) (fun _ _=>rfl)
    (fun W p hxW hP=>hcl1.out _ p _ W bo bt hP (fun v hv=>by simp [TS0] at hv) (by simp [TS0,TS.left]) (by simp [TS0,TS.left]) (b7.ext hxW) ((b8.ext hxW).cells 0))
   rw [hzl,unlockA_not hgot] at hPl
   simp only [Option.getD_some,Option.isSome_some,List.length_nil] at hPl
   clear hgot hcl1 hcl2 hLs b7 b8 c_b7 hq n7 n8
   go_wp2_with fail
   refine hPl.mono ?_
   clear hPl
   rintro e w4 ⟨v,rfl,hO,hx⟩
   obtain⟨A1,c1,D1,d1,vs1,L1,rfl,hO⟩:=hO
   obtain⟨E1,k1,hvs1,_,_⟩:=hO.locs.slice
   subst hvs1
   have hsh:=Lib.hid (shortL_eq (L:=L1) (L':=Ls) fun i=>(hO.is i).symm)
   unfold outV
   rw [show (TS0 Ls []).acc.length=0 from rfl,show (TS0 Ls []).nts.length=0 from rfl]
   have b13:=Blk.new w4 (.cells #[.bool true,.slice A1 0 c1,.slice D1 0 d1,.slice E1 (shortL L1).length k1] 30)
   replace hX:=(hX.trans hx).alloc (.cells #[.bool true,.slice A1 0 c1,.slice D1 0 d1,.slice E1 (shortL L1).length k1] 30)
   replace hA:=hA.ext (hx.alloc (.cells #[.bool true,.slice A1 0 c1,.slice D1 0 d1,.slice E1 (shortL L1).length k1] 30))
   have hlo:=hO.locs.ext ((Ext.refl w4).alloc (.cells #[.bool true,.slice A1 0 c1,.slice D1 0 d1,.slice E1 (shortL L1).length k1] 30))
   clear hO hx
   generalize hb13:w4.heap.size=ob at *
   go_wp2_with fail
   generalize World.alloc w4 _=wc at *
   clear hb13
   have hAh:=Lib.hid hA
   have hloh:=Lib.hid hlo
   have hE:=(Ext.refl wc).drew
   have hS:∀ w',Ext wc w'->(∀ i,w'.cell? ⟨ob,i,none⟩=(#[.bool true,.slice A1 0 c1,.slice D1 0 d1,.slice E1 (shortL L1).length k1]:Array Value)[i]?):=fun w' hx=>(b13.ext hx).cells
   have hshort:Hid (∀ W,Ext wc W->Calls Tryz.prog 62 #[.slice (some ⟨ba,0,none⟩) (l+1) (l+1)] W fun e W'=>e=.returned (.slice (some ⟨ba,0,none⟩) (shortN Ls (l+1)) (l+1))/\W=W'):=fun W hxW=>by
    have h:=short_at (some ⟨ba,0,none⟩) (l+1) Ls W (by rw [hzl];exact hA.ext hxW) (by omega) (by omega)
    rw [hzl] at h
    exact h
   have hintc:Hid (∀ W,Ext wc W->Calls Tryz.prog 61 #[.slice E1 (shortL L1).length k1,.slice (some ⟨ba,0,none⟩) (shortN Ls (l+1)) (l+1)] W fun e W'=>e=.returned (.bool true)/\Ext W W'):=fun W hxW=>by
    have h:=ints_r (.slice E1 (shortL L1).length k1) (.slice (some ⟨ba,0,none⟩) (shortN Ls Ls.length) (l+1)) (shortL L1) (shortL Ls) W (hlo.ext hxW) (shortL_ints (by rw [hzl];exact hA.ext hxW))
    rw [hzl] at h
    refine h.mono ?_
    rintro e w' ⟨rfl,hdr⟩
    exact⟨by rw [hsh.out];simp,hdr.ext⟩
   clear hA hlo b13 hAh hloh hsh
   go_region_held2 (fun w'=>∀ i,w'.cell? ⟨ob,i,none⟩=(#[.bool true,.slice A1 0 c1,.slice D1 0 d1,.slice E1 (shortL L1).length k1]:Array Value)[i]?) (exact hS _ hE)
    (first
      | (go_at_call 62
         refine (hshort.out _ hE).mono ?_
         rintro e wd ⟨rfl,rfl⟩)
      | (go_at_call 61
         refine (hintc.out _ hE).mono ?_
         rintro e wf ⟨rfl,hdr⟩
         replace hE:=hE.trans hdr)
      | (go_at_call 41
         refine (alive35 _).mono ?_
         rintro e wg ⟨rfl,hxg⟩
         replace hE:=hE.trans hxg))
   have hf:=Lib.hid (hX.trans hE)
   clear hX hE hS hshort hintc
   go_wp2_with fail
   first | go_ret2 | go_ret
   exact⟨rfl,hf.out⟩
 | true =>
   have hst:=ints_put hA l (by omega) 1 b9
   have c_l:W3.cell? ⟨ba,l,none⟩=some (.int .i64 0):=by
    rw [b9.cells l]
    simp [zeros]
   have hfz:W3.frozen? ⟨ba,l,none⟩=false:=frozen_of_heap b9 l
   have hXs:=hX.setCell (p:=⟨ba,l,none⟩) (show w.heap.size<=ba by omega) (.int .i64 1)
   have hb7:ba≠bo:=by omega
   have hb8:ba≠bt:=by omega
   have b7s:Blk (W3.setCell ⟨ba,l,none⟩ (.int .i64 1)) bo _:=(heap_setCell_ne _ _ hb7.symm).trans b7
   have b8s:Blk (W3.setCell ⟨ba,l,none⟩ (.int .i64 1)) bt _:=(heap_setCell_ne _ _ hb8.symm).trans b8
   go_upto_region 12 with fail
   generalize World.setCell W3 _ _=W4 at *
   have hgot:(TS0 ((zeros (l+1)).set l 1) []).got (l:Int)=1:=by
    unfold TS.got
    rw [if_neg (by omega)]
    show ((zeros (l+1)).set l 1).getD l 0=1
    simp [zeros,List.getD]
   have hzl2:((zeros (l+1)).set l 1).length=l+1:=by simp [zeros]
   replace hX:=hXs
   replace b7:=b7s
   replace b8:=b8s
   replace hA:=hst
   replace hzl:=hzl2
   clear c_l hfz hb7 hb8 b9 hzl2 b7s b8s hst hXs
   generalize hLs:(zeros (l+1)).set l 1=Ls at *
   have hPl:=play_err 60 #[.pointer (some ⟨bo,0,none⟩),.pointer (some ⟨bt,0,none⟩)] (.ret 10) (some ⟨ba,0,none⟩) (l+1) Ls none 0 [] W4 (by rw [hzl];exact hA) (by rw [hzl];omega) (Ints.nil _) (by simp [maxAns]) (fun k hk=>by simp [Value.ownBlock] at hk) (fun _ _=>rfl)
    (fun W p hxW hP=>hcl2.out _ p _ W bo bt hP (fun v hv=>by simp [TS0] at hv) (by simp [TS0,TS.left]) (by simp [TS0,TS.left]) hgot ⟨b7.ext hxW,fun ho=>by
      obtain⟨_,_,_,_,_,_,h⟩:=hP
      have:=(h.own ho).1
      have:=b7.lt
      omega⟩ ⟨b8.ext hxW,fun ho=>by
      obtain⟨_,_,_,_,_,_,h⟩:=hP
      have:=(h.own ho).1
      have:=b8.lt
      omega⟩)
   rw [hzl] at hPl
   simp only [Prog.run] at hPl
   simp only [Option.getD_some,Option.isSome_some,List.length_nil] at hPl
   clear hgot hcl1 hcl2 hLs b7 b8 c_b7 hq n7 n8
   go_wp2_with fail
   refine hPl.mono ?_
   clear hPl
   rintro e w4 ⟨v,rfl,hO,hx⟩
   obtain⟨A1,c1,D1,d1,vs1,L1,rfl,hO⟩:=hO
   obtain⟨E1,k1,hvs1,_,_⟩:=hO.locs.slice
   subst hvs1
   have hsh:=Lib.hid (shortL_eq (L:=L1) (L':=Ls) fun i=>(hO.is i).symm)
   unfold outV
   rw [show (TS0 Ls []).acc.length=0 from rfl,show (TS0 Ls []).nts.length=0 from rfl]
   have b13:=Blk.new w4 (.cells #[.bool true,.slice A1 0 c1,.slice D1 0 d1,.slice E1 (shortL L1).length k1] 30)
   replace hX:=(hX.trans hx).alloc (.cells #[.bool true,.slice A1 0 c1,.slice D1 0 d1,.slice E1 (shortL L1).length k1] 30)
   replace hA:=hA.ext (hx.alloc (.cells #[.bool true,.slice A1 0 c1,.slice D1 0 d1,.slice E1 (shortL L1).length k1] 30))
   have hlo:=hO.locs.ext ((Ext.refl w4).alloc (.cells #[.bool true,.slice A1 0 c1,.slice D1 0 d1,.slice E1 (shortL L1).length k1] 30))
   clear hO hx
   generalize hb13:w4.heap.size=ob at *
   go_wp2_with fail
   generalize World.alloc w4 _=wc at *
   clear hb13
   have hAh:=Lib.hid hA
   have hloh:=Lib.hid hlo
   have hE:=(Ext.refl wc).drew
   have hS:∀ w',Ext wc w'->(∀ i,w'.cell? ⟨ob,i,none⟩=(#[.bool true,.slice A1 0 c1,.slice D1 0 d1,.slice E1 (shortL L1).length k1]:Array Value)[i]?):=fun w' hx=>(b13.ext hx).cells
   have hshort:Hid (∀ W,Ext wc W->Calls Tryz.prog 62 #[.slice (some ⟨ba,0,none⟩) (l+1) (l+1)] W fun e W'=>e=.returned (.slice (some ⟨ba,0,none⟩) (shortN Ls (l+1)) (l+1))/\W=W'):=fun W hxW=>by
    have h:=short_at (some ⟨ba,0,none⟩) (l+1) Ls W (by rw [hzl];exact hA.ext hxW) (by omega) (by omega)
    rw [hzl] at h
    exact h
   have hintc:Hid (∀ W,Ext wc W->Calls Tryz.prog 61 #[.slice E1 (shortL L1).length k1,.slice (some ⟨ba,0,none⟩) (shortN Ls (l+1)) (l+1)] W fun e W'=>e=.returned (.bool true)/\Ext W W'):=fun W hxW=>by
    have h:=ints_r (.slice E1 (shortL L1).length k1) (.slice (some ⟨ba,0,none⟩) (shortN Ls Ls.length) (l+1)) (shortL L1) (shortL Ls) W (hlo.ext hxW) (shortL_ints (by rw [hzl];exact hA.ext hxW))
    rw [hzl] at h
    refine h.mono ?_
    rintro e w' ⟨rfl,hdr⟩
    exact⟨by rw [hsh.out];simp,hdr.ext⟩
   clear hA hlo b13 hAh hloh hsh
   go_region_held2 (fun w'=>∀ i,w'.cell? ⟨ob,i,none⟩=(#[.bool true,.slice A1 0 c1,.slice D1 0 d1,.slice E1 (shortL L1).length k1]:Array Value)[i]?) (exact hS _ hE)
    (first
      | (go_at_call 62
         refine (hshort.out _ hE).mono ?_
         rintro e wd ⟨rfl,rfl⟩)
      | (go_at_call 61
         refine (hintc.out _ hE).mono ?_
         rintro e wf ⟨rfl,hdr⟩
         replace hE:=hE.trans hdr)
      | (go_at_call 41
         refine (alive35 _).mono ?_
         rintro e wg ⟨rfl,hxg⟩
         replace hE:=hE.trans hxg))
   have hf:=Lib.hid (hX.trans hE)
   clear hX hE hS hshort hintc
   go_wp2_with fail
   first | go_ret2 | go_ret
   exact⟨rfl,hf.out⟩
end Go.Proofs.YtbaajjkopdjbgaaGreat
namespace Go.Proofs.YtbaajjkopdjbgaaGreat.mutexMisuse
open Go.ChangeShapes Go.WideShapes Go.ChangeAt Go.RowKit Kv
set_option maxRecDepth 100000 in
theorem main (H:Type)(enc:TypeId × Value->H)(W:World)(base:Nat)(args:Array Value)(ds:List (DataW H))(p:List MemPlace)
  (hval:∀ (j:Nat) t v,Tryz.f7.params[j]?=some t->args[j]?=some v->Value.okWide Tryz.prog W .any base t v)
  (hA:DataW.TrodAll enc Tryz.prog W 0 (fun _=>true) true Tryz.f7.params.toList args.toList ds p)(_hL:laidMetH Tryz.prog Rows.mutexMisuseRow.laid W) :
  Calls Tryz.prog 7 args W fun e w'=>e=.returned (.bool true)/\Ext W w':=by
 rw [Tryz.params7] at hA hval
 obtain⟨v0,vs0,d0,ds0,p0,q0,hargs,rfl,rfl,h0,r0⟩:=trodAll_cons hA
 obtain⟨v1,vs1,d1,ds1,p1,q1,rfl,rfl,rfl,h1,r1⟩:=trodAll_cons r0
 obtain⟨v2,vs2,d2,ds2,p2,q2,rfl,rfl,rfl,h2,r2⟩:=trodAll_cons r1
 obtain⟨rfl,rfl,rfl⟩:=trodAll_nil r2
 obtain rfl:args=#[v0,v1,v2]:=by cases args;simp_all
 obtain⟨c0,c1,c2,c3,c4,c5,y0,y1,y2,y3,y4,y5,m,rfl,g0,g1,g2,g3,g4,g5⟩:=open_agg6 Tryz.underlying23 (by kernel_rfl) (by kernel_rfl) (hval 0 23 v0 rfl rfl) h0
 obtain⟨x0,e0,-,-⟩:=DataW.trod_int Tryz.underlying3 g0
 obtain⟨x1,e1,-,-⟩:=DataW.trod_int Tryz.underlying3 g1
 obtain⟨x2,e2,-,-⟩:=DataW.trod_int Tryz.underlying3 g2
 obtain⟨x3,e3,-,-⟩:=DataW.trod_int Tryz.underlying3 g3
 obtain⟨x4,e4,-,-⟩:=DataW.trod_int Tryz.underlying3 g4
 obtain⟨x5,e5,-,-⟩:=DataW.trod_int Tryz.underlying3 g5
 obtain⟨x6,rfl,rfl,rfl,-⟩:=open_int Tryz.underlying3 (hval 1 3 v1 rfl rfl) h1
 obtain⟨x7,rfl,rfl,rfl⟩:=open_bool Tryz.underlying4 (hval 2 4 v2 rfl rfl) h2
 simp at e0 e1 e2 e3 e4 e5
 subst e0 e1 e2 e3 e4 e5
 exact misuse_walk x0 x1 x2 x3 x4 x5 x6 x7 W
end Go.Proofs.YtbaajjkopdjbgaaGreat.mutexMisuse
namespace Go.Proofs.YtbaajjkopdjbgaaGreat.mutexMisuse
open Go.ChangeShapes Go.WideShapes Go.ChangeAt Go.RowKit
theorem laidOut:laidOutB Tryz.prog=true:=by kernel_rfl
set_option maxRecDepth 100000 in
theorem contract (H:Type)(enc:TypeId × Value->H)(W:World)(base:Nat)(args:Array Value)(ds gs:List (DataW H))(before:List MemPlace)
  (hval:∀ (j:Nat) t v,Tryz.f7.params[j]?=some t->args[j]?=some v->Value.okWide Tryz.prog W .any base t v)
  (hW:DataW.Whole enc Tryz.prog Tryz.f7.params.toList Rows.mutexMisuseSpec.vars false W args.toList ds gs before)(hL:laidMetH Tryz.prog Rows.mutexMisuseRow.laid W) :
  Calls Tryz.prog 7 args W fun e W'=>∃ v,e=.returned v/\Rows.mutexMisuseSpec.post enc Tryz.prog Tryz.f7 false true false false W args v W':=by
 refine (main H enc W base args ds before hval (by obtain⟨p,q,hA,hV,hpq,_,_⟩:=hW;obtain⟨_,rfl⟩:=trodVars_none hV;rw [List.append_nil] at hpq;subst hpq;exact hA) hL).mono fun e W' ⟨he,hg⟩=>⟨_,he,?_⟩
 refine law_post (tb:=4) laidOut ?_ (by kernel_rfl) Tryz.underlying4 rfl ?_ hW hg
 · rw [Tryz.params7]
   intro t ht
   simp only [List.mem_cons,List.not_mem_nil,or_false] at ht
   rcases ht with rfl | rfl | rfl <;> exact⟨by kernel_rfl,of_decide_eq_true (by kernel_rfl)⟩
 · intro ds hl
   rw [Tryz.params7] at hl
   match ds,hl with
   | [d0,d1,d2],_=>rfl
set_option maxRecDepth 100000 in
theorem laid_met (os:Os):laidMet Tryz.prog Rows.mutexMisuseRow.laid (((World.holding Tryz.prog os ⟨#[],#[],[]⟩)).forCall (fun _ _=>0) ⟨#[],#[.agg #[.int .i64 0,.int .i64 0,.int .i64 0,.int .i64 0,.int .i64 0,.int .i64 0],.int .i64 0,.bool false],[]⟩).memory :=
 laidMet_of_run' 8 (by kernel_rfl) (by kernel_rfl)
set_option maxRecDepth 100000 in
theorem reads (os:Os){H:Type}(enc:TypeId × Value->H):∃ places,DataW.whole enc Tryz.prog (((World.holding Tryz.prog os ⟨#[],#[],[]⟩)).forCall (fun _ _=>0) ⟨#[],#[.agg #[.int .i64 0,.int .i64 0,.int .i64 0,.int .i64 0,.int .i64 0,.int .i64 0],.int .i64 0,.bool false],[]⟩).memory Tryz.f7.params.toList Rows.mutexMisuseSpec.vars false (#[.agg #[.int .i64 0,.int .i64 0,.int .i64 0,.int .i64 0,.int .i64 0,.int .i64 0],.int .i64 0,.bool false]:Array Value).toList 8=some ([.agg [.lit (.int .i64 0),.lit (.int .i64 0),.lit (.int .i64 0),.lit (.int .i64 0),.lit (.int .i64 0),.lit (.int .i64 0)],.lit (.int .i64 0),.lit (.bool false)],[],places) :=
 ⟨[],by kernel_rfl⟩
set_option maxRecDepth 100000 in
theorem lifted (os:Os)(started:os.Started)(H:Type)(enc:TypeId × Value->H)(F:Stop.Interp) :
  ReturnsInHanded {} Tryz.checked os 7 .any ((OpenSpec.ofChange Rows.mutexMisuseSpec).preRow enc Tryz.prog Tryz.f7 Rows.mutexMisuseRow.domain false Rows.mutexMisuseRow.laid) (((OpenSpec.ofChange Rows.mutexMisuseSpec).at F).post enc Tryz.prog Tryz.f7 false true false false):=by
 obtain⟨places,hx⟩:=reads os enc
 refine returnsInHanded_of_row (C:=Tryz.checked) (s:=(OpenSpec.ofChange Rows.mutexMisuseSpec)) own started (by kernel_rfl) Tryz.func7
  (witness_row_at (enc:=enc) (C:=Tryz.checked) false (World.holding Tryz.prog os ⟨#[],#[],[]⟩) #[.agg #[.int .i64 0,.int .i64 0,.int .i64 0,.int .i64 0,.int .i64 0,.int .i64 0],.int .i64 0,.bool false] rfl (by kernel_rfl) (by kernel_rfl) (by kernel_rfl)
    (OpenSpec.preRow_of_cond 8 hx (by kernel_rfl) (fun k hk=>by cases hk) (by kernel_rfl) (laid_met os))) ?_
 intro W base args ds gs before hval hW _ _ _ hL _ _
 exact contract H enc W base args ds gs before hval hW hL
theorem c1:(Rows.mutexMisuseRow.inPlace==Tryz.pinned.checked.prog.inPlace 7)=true:=by kernel_rfl
theorem c2:(Rows.mutexMisuseRow.unfollowed==Tryz.pinned.checked.prog.unfollowed 7)=true:=by kernel_rfl
theorem c3:(Rows.mutexMisuseRow.recurses==Tryz.pinned.checked.prog.recurses 7)=true:=by kernel_rfl
theorem c4:(Rows.mutexMisuseRow.named==Tryz.pinned.checked.prog.varsNamed 7)=true:=by kernel_rfl
theorem closed:joinedFacts Tryz.pinned.checked.prog 7 Tryz.f7 (OpenSpec.ofChange Rows.mutexMisuseSpec).bare Rows.mutexMisuseRow=true:=by
 unfold joinedFacts
 simp only [Bool.and_eq_true]
 repeat' refine And.intro ?_ ?_
 all_goals first | with_reducible exact c1 | with_reducible exact c2 | with_reducible exact c3 | with_reducible exact c4 | kernel_rfl
theorem said:Rows.MutexMisuseSaid :=
 OpenClaim.holds_of_cond 7 Tryz.f7 rfl rfl rfl rfl rfl rfl rfl ⟨rfl,rfl,rfl,rfl,rfl⟩ rfl rfl rfl rfl rfl (by kernel_rfl) Tryz.func7 closed
  (of_decide_eq_true (by kernel_rfl)) (by unfold Func.isWrapper;first | (rw [if_pos (by decide +kernel)];kernel_rfl) | (rw [if_neg (by decide +kernel)];exact⟨rfl,rfl⟩))
  (fun os started H enc _ F=>by rw [OpenClaim.pre_eq_preRow];exact lifted os started H enc F)
end Go.Proofs.YtbaajjkopdjbgaaGreat.mutexMisuse
