/-
  BoundTellsSaid: part 5 of its proof.
-/
import Derived.Test.YtponihangpiooaaGreatJBoundTellsSaid4
import Derived.Deep.DeepCutAuto
import Derived.Deep.RegionHeld2
namespace Go.Proofs.YtponihangpiooaaGreat
open Go.RowKit Kv
theorem lkWants_le (alg:Int){N:Nat}(h1:1<=N)(h2:N<=8):(lkWants alg N).length<=300:=by
 unfold lkWants
 split
 · rw [bwWants_len];omega
 · split
   · rw [filWants_len];omega
   · split
     · rw [fastWants_len];omega
     · split
       · unfold treeWants
         rw [List.length_replicate]
         have hE:=(each_le alg).2
         have hle:=(pow_le (lev_le (show N<=64 by omega))).2
         have:=Nat.mul_le_mul hE (show 2 ^ levels (N:Int)-1<=63 by omega)
         omega
       · rw [adWants_len]
         have:=adTree_le h1 h2
         have:=(triN_le h1 h2).2
         omega
theorem size0_r (A:Option Addr)(c:Nat)(w:World):Calls Tryz.prog 140 #[.slice A 0 c] w fun e w'=>e=.returned (.tuple #[.int .i64 0,.int .i64 0])/\Ext w w':=by
 go_enter Tryz.func140,Tryz.ntmps140
 go_wp2_with fail
 go_loopw [4,5,6] (fun u v i wr=>i=.int .i64 0/\u=.int .i64 0/\v=.int .i64 0/\Ext w wr) (fun _ _ _ _=>0)
 case atStart=>exact⟨rfl,rfl,rfl,Ext.refl w⟩
 case round =>
  obtain⟨rfl,rfl,rfl,hX⟩:=hrel
  go_wp2_with fail
  first | go_ret2 | go_ret
  exact⟨rfl,hX⟩
theorem sizeV_r (v:Value)(rs:List Reg)(w:World)(h:RegsV w v rs)(hok:∀ r∈rs,r.ok)(hl:rs.length<=300) :
  Calls Tryz.prog 140 #[v] w fun e w'=>e=.returned (.tuple #[.int .i64 (sumC rs),.int .i64 (sumL rs)])/\Ext w w':=by
 obtain⟨A,c,rfl,q1,q2,hV⟩:=h
 by_cases h0:rs=[]
 · subst h0
   exact size0_r A c w
 · obtain⟨b,rfl,hb,hc⟩:=hV (by cases rs with | nil=>exact absurd rfl h0 | cons r l=>simp [regVals])
   exact size_r b c rs w hb hc hok hl
set_option maxRecDepth 100000 in
set_option maxHeartbeats 1000000 in
theorem lksize_r (alg:Int)(N:Nat)(mode base loc room:Int)(rs:List Reg)(w:World)(ha:1<=alg/\alg<=8)(h1:1<=N)(h2:N<=8)(hl:3<=alg->layM (lkWants alg N) N mode base loc=some rs) :
  Calls Tryz.prog 135 #[.agg #[.int .i64 alg,.int .i64 N,.int .i64 mode,.int .i64 base,.int .i64 loc,.int .i64 room]] w fun e w'=>e=.returned (.tuple #[.int .i64 (lkC alg N rs),.int .i64 (lkL alg rs)])/\Ext w w':=by
 have hX:=Ext.refl w
 have b1:=Blk.new w (.cells #[.int .i64 alg,.int .i64 N,.int .i64 mode,.int .i64 base,.int .i64 loc,.int .i64 room] 23)
 replace hX:=hX.alloc (.cells #[.int .i64 alg,.int .i64 N,.int .i64 mode,.int .i64 base,.int .i64 loc,.int .i64 room] 23)
 have c_b1:=b1.cells
 by_cases a1:alg=1
 · subst a1
   have hw:=IntWalk.i64_in (2*(N:Int)) (by omega)
   have e1:lkC 1 N rs=2*(N:Int):=rfl
   have e2:lkL 1 rs=1:=rfl
   rw [e1,e2]
   clear e1 e2 hl
   go_enter Tryz.func135,Tryz.ntmps135
   go_wp2_with fail
   first | go_ret2 | go_ret
   exact⟨rfl,hX⟩
 by_cases a2:alg=2
 · subst a2
   have e1:lkC 2 N rs=(N:Int):=rfl
   have e2:lkL 2 rs=0:=rfl
   rw [e1,e2]
   clear e1 e2 hl a1
   go_enter Tryz.func135,Tryz.ntmps135
   go_wp2_with fail
   first | go_ret2 | go_ret
   exact⟨rfl,hX⟩
 have hl:=hl (by omega)
 have hok:∀ r∈rs,r.ok:=fun r hr=>(laid_all hl r hr).1
 have hlen:=layM_len hl
 have hle:=lkWants_le alg h1 h2
 have hbd:=sum_bd hok rs.length (Nat.le_refl _)
 rw [List.take_length] at hbd
 have ha3:3<=alg/\alg<=8:=by omega
 have d1:(alg==1)=false:=by rw [beq_eq_false_iff_ne];exact a1
 have d2:(alg==2)=false:=by rw [beq_eq_false_iff_ne];exact a2
 have hC:lkC alg N rs=sumC rs:=by unfold lkC;rw [if_neg a1,if_neg a2]
 have hL:lkL alg rs=if alg=3∨alg=8 then sumL rs+1 else sumL rs:=by unfold lkL;rw [if_neg a1,if_neg a2]
 have hw:=IntWalk.i64_in (sumL rs+1) (by omega)
 have hCL:=Lib.hid (And.intro hC hL)
 have hlh:=Lib.hid hl
 have hokh:=Lib.hid hok
 have hlen9:rs.length<=300:=by omega
 have hlenw:(lkWants alg N).length<=1000:=by omega
 have hlenh:=Lib.hid (And.intro hlen9 hlenw)
 clear hl hok hlen hle hbd a1 a2 hC hL hlen9 hlenw
 go_enter Tryz.func135,Tryz.ntmps135
 go_wp2_with fail
 generalize w.alloc _=W at *
 have hXW:=hX
 clear hX c_b1
 have hX:=(Ext.refl W).drew
 have hS:∀ w',Ext W w'->(∀ i,w'.cell? ⟨w.heap.size,i,none⟩=(#[.int .i64 alg,.int .i64 N,.int .i64 mode,.int .i64 base,.int .i64 loc,.int .i64 room]:Array Value)[i]?):=fun w' hx=>(b1.ext hx).cells
 go_region_held2 (fun w'=>∀ i,w'.cell? ⟨w.heap.size,i,none⟩=(#[.int .i64 alg,.int .i64 N,.int .i64 mode,.int .i64 base,.int .i64 loc,.int .i64 room]:Array Value)[i]?) (exact hS _ hX)
  (first
    | (go_at_call 201
       refine (lkwants_r alg N mode base loc room _ ha3 h1 h2).mono ?_
       rintro e w2 ⟨v2,rfl,hw2,hx⟩
       replace hX:=hX.trans hx
       clear hx)
    | (go_at_call 202
       refine (layr_some hlh.out _ (hw2.ext (Ext.refl _)) hlenh.out.2).mono ?_
       rintro e w3 ⟨v3,rfl,hr3,hx⟩
       replace hX:=hX.trans hx
       clear hx))
 rename_i hh
 clear hh
 have hS3:=hS
 clear hS
 go_wp2_with fail
 refine (sizeV_r v3 rs _ hr3.1 hokh.out hlenh.out.1).mono ?_
 rintro e w4 ⟨rfl,hx4⟩
 have c_b4:=hS3 _ (hX.trans hx4)
 have hf:=Lib.hid (hXW.trans (hX.trans hx4))
 clear hr3 hx4 hX
 by_cases a3:alg=3
 · subst a3
   go_wp2_with fail
   first | go_ret2 | go_ret
   exact⟨by rw [hCL.out.1,hCL.out.2,if_pos (by simp)];rfl,hf.out⟩
 · have d3:(alg==3)=false:=by rw [beq_eq_false_iff_ne];exact a3
   by_cases a8:alg=8
   · subst a8
     clear a3
     go_wp2_with fail
     first | go_ret2 | go_ret
     exact⟨by rw [hCL.out.1,hCL.out.2,if_pos (by simp)];rfl,hf.out⟩
   · have d8:(alg==8)=false:=by rw [beq_eq_false_iff_ne];exact a8
     have hng:=Lib.hid (show ¬ (alg=3∨alg=8) by omega)
     clear a3 a8
     go_wp2_with fail
     first | go_ret2 | go_ret
     exact⟨by rw [hCL.out.1,hCL.out.2,if_neg hng.out];rfl,hf.out⟩
theorem LkOk.nums {alg:Int}{N:Nat}{mode base loc room:Int}{rs:List Reg}(k:LkOk alg N mode base loc room rs):(1<=alg/\alg<=8)/\(1<=N/\N<=8)/\(1<=mode/\mode<=2)/\(0<=base/\base<=32768)/\(0<=loc/\loc<=32768)/\(1<=room/\room<=1048576) :=
 ⟨k.halg,k.hn,k.hmode,k.hbase,k.hloc,k.hroom⟩
theorem lkC_two {alg:Int}(h:¬ 2<alg)(h1:1<=alg)(N:Nat)(rs ro:List Reg):lkC alg N rs=lkC alg N ro/\lkL alg rs=lkL alg ro:=by
 have:alg=1∨alg=2:=by omega
 rcases this with rfl | rfl <;> exact⟨rfl,rfl⟩
set_option maxRecDepth 100000 in
set_option maxHeartbeats 2000000 in
theorem lkfine_x (alg N0 mode base loc room:Int)(w:World):Calls Tryz.prog 134 #[.agg #[.int .i64 alg,.int .i64 N0,.int .i64 mode,.int .i64 base,.int .i64 loc,.int .i64 room]] w fun e w'=>(∃ b,e=.returned (.bool b)/\(b=true↔(∃ (N:Nat) (rs:List Reg),N0=N/\LkOk alg N mode base loc room rs)))/\Ext w w':=by
 generalize hR:(fun (e:Ending) (w':World)=>(∃ b,e=.returned (.bool b)/\(b=true↔(∃ (N:Nat) (rs:List Reg),N0=N/\LkOk alg N mode base loc room rs)))/\Ext w w')=R
 have hno:∀ w',Ext w w'->¬ (∃ (N:Nat) (rs:List Reg),N0=N/\LkOk alg N mode base loc room rs)->R (.returned (.bool false)) w':=fun w' h k=>hR▸⟨⟨false,rfl,⟨(fun h=>by cases h),fun h=>absurd h k⟩⟩,h⟩
 have hyes:∀ w',Ext w w'->(∃ (N:Nat) (rs:List Reg),N0=N/\LkOk alg N mode base loc room rs)->R (.returned (.bool true)) w':=fun w' h k=>hR▸⟨⟨true,rfl,⟨fun _=>k,fun _=>rfl⟩⟩,h⟩
 clear hR
 have hX:=(Ext.refl w).alloc (.cells #[.int .i64 alg,.int .i64 N0,.int .i64 mode,.int .i64 base,.int .i64 loc,.int .i64 room] 23)
 have b1:=Blk.new w (.cells #[.int .i64 alg,.int .i64 N0,.int .i64 mode,.int .i64 base,.int .i64 loc,.int .i64 room] 23)
 have c_b1:=b1.cells
 by_cases g0:alg<1
 · have d0:decide (alg<1)=true:=by rw [decide_eq_true_eq];exact g0
   have hf:=hno _ hX (fun ⟨N,rs,e,k⟩=>by have:=k.nums;omega)
   clear g0 hno hyes
   go_enter Tryz.func134,Tryz.ntmps134
   go_wp2_with fail
   first | exact hf | (go_ret;exact hf)
 have d0:decide (alg<1)=false:=by rw [decide_eq_false_iff_not];exact g0
 by_cases g1:8<alg
 · have d1:decide (8<alg)=true:=by rw [decide_eq_true_eq];exact g1
   have hf:=hno _ hX (fun ⟨N,rs,e,k⟩=>by have:=k.nums;omega)
   clear g1 hno hyes
   go_enter Tryz.func134,Tryz.ntmps134
   go_wp2_with fail
   first | exact hf | (go_ret;exact hf)
 have d1:decide (8<alg)=false:=by rw [decide_eq_false_iff_not];exact g1
 by_cases g2:N0<1
 · have d2:decide (N0<1)=true:=by rw [decide_eq_true_eq];exact g2
   have hf:=hno _ hX (fun ⟨N,rs,e,k⟩=>by have:=k.nums;omega)
   clear g2 hno hyes
   go_enter Tryz.func134,Tryz.ntmps134
   go_wp2_with fail
   first | exact hf | (go_ret;exact hf)
 have d2:decide (N0<1)=false:=by rw [decide_eq_false_iff_not];exact g2
 by_cases g3:8<N0
 · have d3:decide (8<N0)=true:=by rw [decide_eq_true_eq];exact g3
   have hf:=hno _ hX (fun ⟨N,rs,e,k⟩=>by have:=k.nums;omega)
   clear g3 hno hyes
   go_enter Tryz.func134,Tryz.ntmps134
   go_wp2_with fail
   first | exact hf | (go_ret;exact hf)
 have d3:decide (8<N0)=false:=by rw [decide_eq_false_iff_not];exact g3
 by_cases g4:mode<1
 · have d4:decide (mode<1)=true:=by rw [decide_eq_true_eq];exact g4
   have hf:=hno _ hX (fun ⟨N,rs,e,k⟩=>by have:=k.nums;omega)
   clear g4 hno hyes
   go_enter Tryz.func134,Tryz.ntmps134
   go_wp2_with fail
   first | exact hf | (go_ret;exact hf)
 have d4:decide (mode<1)=false:=by rw [decide_eq_false_iff_not];exact g4
 by_cases g5:2<mode
 · have d5:decide (2<mode)=true:=by rw [decide_eq_true_eq];exact g5
   have hf:=hno _ hX (fun ⟨N,rs,e,k⟩=>by have:=k.nums;omega)
   clear g5 hno hyes
   go_enter Tryz.func134,Tryz.ntmps134
   go_wp2_with fail
   first | exact hf | (go_ret;exact hf)
 have d5:decide (2<mode)=false:=by rw [decide_eq_false_iff_not];exact g5
 by_cases g6:base<0
 · have d6:decide (base<0)=true:=by rw [decide_eq_true_eq];exact g6
   have hf:=hno _ hX (fun ⟨N,rs,e,k⟩=>by have:=k.nums;omega)
   clear g6 hno hyes
   go_enter Tryz.func134,Tryz.ntmps134
   go_wp2_with fail
   first | exact hf | (go_ret;exact hf)
 have d6:decide (base<0)=false:=by rw [decide_eq_false_iff_not];exact g6
 by_cases g7:loc<0
 · have d7:decide (loc<0)=true:=by rw [decide_eq_true_eq];exact g7
   have hf:=hno _ hX (fun ⟨N,rs,e,k⟩=>by have:=k.nums;omega)
   clear g7 hno hyes
   go_enter Tryz.func134,Tryz.ntmps134
   go_wp2_with fail
   first | exact hf | (go_ret;exact hf)
 have d7:decide (loc<0)=false:=by rw [decide_eq_false_iff_not];exact g7
 by_cases g8:room<1
 · have d8:decide (room<1)=true:=by rw [decide_eq_true_eq];exact g8
   have hf:=hno _ hX (fun ⟨N,rs,e,k⟩=>by have:=k.nums;omega)
   clear g8 hno hyes
   go_enter Tryz.func134,Tryz.ntmps134
   go_wp2_with fail
   first | exact hf | (go_ret;exact hf)
 have d8:decide (room<1)=false:=by rw [decide_eq_false_iff_not];exact g8
 by_cases g9:1048576<room
 · have d9:decide (1048576<room)=true:=by rw [decide_eq_true_eq];exact g9
   have hf:=hno _ hX (fun ⟨N,rs,e,k⟩=>by have:=k.nums;omega)
   clear g9 hno hyes
   go_enter Tryz.func134,Tryz.ntmps134
   go_wp2_with fail
   first | exact hf | (go_ret;exact hf)
 have d9:decide (1048576<room)=false:=by rw [decide_eq_false_iff_not];exact g9
 by_cases g10:32768<base
 · have d10:decide (32768<base)=true:=by rw [decide_eq_true_eq];exact g10
   have hf:=hno _ hX (fun ⟨N,rs,e,k⟩=>by have:=k.nums;omega)
   clear g10 hno hyes
   go_enter Tryz.func134,Tryz.ntmps134
   go_wp2_with fail
   first | exact hf | (go_ret;exact hf)
 have d10:decide (32768<base)=false:=by rw [decide_eq_false_iff_not];exact g10
 by_cases g11:32768<loc
 · have d11:decide (32768<loc)=true:=by rw [decide_eq_true_eq];exact g11
   have hf:=hno _ hX (fun ⟨N,rs,e,k⟩=>by have:=k.nums;omega)
   clear g11 hno hyes
   go_enter Tryz.func134,Tryz.ntmps134
   go_wp2_with fail
   first | exact hf | (go_ret;exact hf)
 have d11:decide (32768<loc)=false:=by rw [decide_eq_false_iff_not];exact g11
 obtain⟨N,rfl⟩:∃ N:Nat,N0=N:=⟨N0.toNat,by omega⟩
 have hok9:∀ rs,(3<=alg->layM (lkWants alg N) N mode base loc=some rs)->base+lkC alg N rs<=32768->loc+lkL alg rs<=32768->LkOk alg N mode base loc room rs:=fun rs hl hc hl2=>⟨by omega,by omega,by omega,by omega,by omega,by omega,hl,hc,hl2⟩
 have ha:1<=alg/\alg<=8:=by omega
 have hb0:0<=base/\base<=32768:=by omega
 have hl0:0<=loc/\loc<=32768:=by omega
 have h1:1<=N:=by omega
 have h2:N<=8:=by omega
 clear g0 g1 g2 g3 g4 g5 g6 g7 g8 g9 g10 g11
 have hkb:∀ rs,(3<=alg->layM (lkWants alg N) N mode base loc=some rs)->0<=lkC alg N rs/\lkC alg N rs<=3000000/\0<=lkL alg rs/\lkL alg rs<=3000000:=fun rs hl=>by
  by_cases a1:alg=1
  · subst a1
    have e1:lkC 1 N rs=2*(N:Int):=rfl
    have e2:lkL 1 rs=1:=rfl
    omega
  by_cases a2:alg=2
  · subst a2
    have e1:lkC 2 N rs=(N:Int):=rfl
    have e2:lkL 2 rs=0:=rfl
    omega
  have hl:=hl (by omega)
  have hok:∀ r∈rs,r.ok:=fun r hr=>(laid_all hl r hr).1
  have hlen:=layM_len hl
  have hle:=lkWants_le alg h1 h2
  have hbd:=sum_bd hok rs.length (Nat.le_refl _)
  rw [List.take_length] at hbd
  have hC:lkC alg N rs=sumC rs:=by unfold lkC;rw [if_neg a1,if_neg a2]
  have hL:lkL alg rs=if alg=3∨alg=8 then sumL rs+1 else sumL rs:=by unfold lkL;rw [if_neg a1,if_neg a2]
  rw [hC,hL]
  split <;> omega
 have hend:∀ rs,(3<=alg->layM (lkWants alg N) N mode base loc=some rs)->∀ W,Ext w W->Calls Tryz.prog 135 #[.agg #[.int .i64 alg,.int .i64 N,.int .i64 mode,.int .i64 base,.int .i64 loc,.int .i64 room]] W fun e w'=>e=.returned (.tuple #[.int .i64 (lkC alg N rs),.int .i64 (lkL alg rs)])/\Ext W w':=fun rs hl W _=>lksize_r alg N mode base loc room rs W ha h1 h2 hl
 by_cases a3:2<alg
 · have d:decide (2<alg)=true:=by rw [decide_eq_true_eq];exact a3
   have hle:=lkWants_le alg h1 h2
   have hMay:=fun (va:Value) (w:World) (h:WantsAt w va (lkWants alg N))=>may_r va (lkWants alg N) alg N mode base loc room w h (by omega)
   cases hl:layM (lkWants alg N) N mode base loc with
   | none =>
     rw [hl] at hMay
     have hnP:=Lib.hid (show ¬ (∃ (N':Nat) (rs:List Reg),(N:Int)=N'/\LkOk alg N' mode base loc room rs) from fun ⟨N',rs,e,k⟩=>by
      obtain rfl:N=N':=by omega
      have:=k.hlay (by omega)
      rw [hl] at this
      exact absurd this (by simp))
     clear hend hkb hok9
     go_enter Tryz.func134,Tryz.ntmps134
     go_wp2_with fail
     generalize w.alloc _=W at *
     have hS:∀ w',Ext W w'->(∀ i,w'.cell? ⟨w.heap.size,i,none⟩=(#[.int .i64 alg,.int .i64 N,.int .i64 mode,.int .i64 base,.int .i64 loc,.int .i64 room]:Array Value)[i]?):=fun w' hx=>(b1.ext hx).cells
     have hXW:=hX
     refine wp_region_held_drew (S:=fun w'=>∀ i,w'.cell? ⟨w.heap.size,i,none⟩=(#[.int .i64 alg,.int .i64 N,.int .i64 mode,.int .i64 base,.int .i64 loc,.int .i64 room]:Array Value)[i]?) rfl (hS _ (Ext.refl W).drew) (fun hHeld=>?_)
     refine tkb 0 ?_
     iterate 5
      refine tkn (v:=?_) rfl (by kernel_rfl) (fun _ _ _ h=>h) (by assumption) ?_ ?_
      rotate_left
      · (intro w hSw;(try dsimp only at hSw);go_simp;try with_reducible rfl)
      try simp only [put_pack]
     refine tke ?_
     refine tk 6 (v:=?_) rfl (by kernel_rfl) (fun _ _ _ h=>h) (by assumption) ?_ ?_
     rotate_left
     · (intro w hSw;(try dsimp only at hSw);go_simp;try with_reducible rfl)
     try simp only [put_pack]
     refine wpAnyH_ready (rs:=[5]) (by kernel_rfl) (by simp) ?_
     refine AllReadyH.cons rfl (fun K hKK=>?_) (AllReadyH.nil)
     go_simp
     refine (lkwants_r alg N mode base loc room _ (by omega) h1 h2).mono ?_
     rintro e w2 ⟨v2,rfl,hw2,hx⟩
     clear hX
     have hX:=(Ext.refl W).drew.trans hx
     clear hx
     refine hKK.out _ _ (hS _ hX) (fun hHeld=>?_)
     clear hKK K
     try dsimp only
     refine wpAnyH_ready (rs:=[7]) (by kernel_rfl) (by simp) ?_
     refine AllReadyH.cons rfl (fun K hKK=>?_) (AllReadyH.nil)
     go_simp
     refine (hMay v2 _ hw2).mono ?_
     rintro e w3 ⟨rfl,hx⟩
     replace hX:=hX.trans hx
     clear hx
     refine hKK.out _ _ (hS _ hX) (fun hHeld=>?_)
     clear hKK K hw2
     try dsimp only
     refine tk 8 (v:=?_) rfl (by kernel_rfl) (fun _ _ _ h=>h) (by assumption) ?_ ?_
     rotate_left
     · (intro w hSw;(try dsimp only at hSw);go_simp;try with_reducible rfl)
     try simp only [put_pack]
     refine tk 9 (v:=?_) rfl (by kernel_rfl) (fun _ _ _ h=>h) (by assumption) ?_ ?_
     rotate_left
     · (intro w hSw;(try dsimp only at hSw);go_simp;try with_reducible rfl)
     try simp only [put_pack]
     refine wpAnyH_done (by kernel_rfl) ?_ _
     go_simp
     have hf:=hno _ (hXW.trans hX) hnP.out
     clear hX hS hno hyes
     go_wp2_with fail
     first | exact hf | (go_ret;exact hf)
   | some rs =>
     rw [hl] at hMay
     have hl3:3<=alg->layM (lkWants alg N) N mode base loc=some rs:=fun _=>hl
     have hend:=hend rs hl3
     have hkb:=hkb rs hl3
     have hokh:=Lib.hid (hok9 rs hl3)
     have hnP:=Lib.hid (show ¬ (base+lkC alg N rs<=32768/\loc+lkL alg rs<=32768)->¬ (∃ (N':Nat) (rs:List Reg),(N:Int)=N'/\LkOk alg N' mode base loc room rs) from fun hn ⟨N',rs',e,k⟩=>by
      obtain rfl:N=N':=by omega
      have h9:=k.hlay (by omega)
      rw [hl] at h9
      obtain rfl:rs=rs':=by simpa using h9
      exact hn ⟨k.hcells,k.hlocals⟩)
     clear hl hl3 hok9
     generalize lkC alg N rs=C at *
     generalize lkL alg rs=L at *
     go_enter Tryz.func134,Tryz.ntmps134
     go_wp2_with fail
     generalize w.alloc _=W at *
     have hS:∀ w',Ext W w'->(∀ i,w'.cell? ⟨w.heap.size,i,none⟩=(#[.int .i64 alg,.int .i64 N,.int .i64 mode,.int .i64 base,.int .i64 loc,.int .i64 room]:Array Value)[i]?):=fun w' hx=>(b1.ext hx).cells
     have hXW:=hX
     refine wp_region_held_drew (S:=fun w'=>∀ i,w'.cell? ⟨w.heap.size,i,none⟩=(#[.int .i64 alg,.int .i64 N,.int .i64 mode,.int .i64 base,.int .i64 loc,.int .i64 room]:Array Value)[i]?) rfl (hS _ (Ext.refl W).drew) (fun hHeld=>?_)
     refine tkb 0 ?_
     iterate 5
      refine tkn (v:=?_) rfl (by kernel_rfl) (fun _ _ _ h=>h) (by assumption) ?_ ?_
      rotate_left
      · (intro w hSw;(try dsimp only at hSw);go_simp;try with_reducible rfl)
      try simp only [put_pack]
     refine tke ?_
     refine tk 6 (v:=?_) rfl (by kernel_rfl) (fun _ _ _ h=>h) (by assumption) ?_ ?_
     rotate_left
     · (intro w hSw;(try dsimp only at hSw);go_simp;try with_reducible rfl)
     try simp only [put_pack]
     refine wpAnyH_ready (rs:=[5]) (by kernel_rfl) (by simp) ?_
     refine AllReadyH.cons rfl (fun K hKK=>?_) (AllReadyH.nil)
     go_simp
     refine (lkwants_r alg N mode base loc room _ (by omega) h1 h2).mono ?_
     rintro e w2 ⟨v2,rfl,hw2,hx⟩
     clear hX
     have hX:=(Ext.refl W).drew.trans hx
     clear hx
     refine hKK.out _ _ (hS _ hX) (fun hHeld=>?_)
     clear hKK K
     try dsimp only
     refine wpAnyH_ready (rs:=[7]) (by kernel_rfl) (by simp) ?_
     refine AllReadyH.cons rfl (fun K hKK=>?_) (AllReadyH.nil)
     go_simp
     refine (hMay v2 _ hw2).mono ?_
     rintro e w3 ⟨rfl,hx⟩
     replace hX:=hX.trans hx
     clear hx
     refine hKK.out _ _ (hS _ hX) (fun hHeld=>?_)
     clear hKK K hw2
     try dsimp only
     refine tk 8 (v:=?_) rfl (by kernel_rfl) (fun _ _ _ h=>h) (by assumption) ?_ ?_
     rotate_left
     · (intro w hSw;(try dsimp only at hSw);go_simp;try with_reducible rfl)
     try simp only [put_pack]
     refine tk 9 (v:=?_) rfl (by kernel_rfl) (fun _ _ _ h=>h) (by assumption) ?_ ?_
     rotate_left
     · (intro w hSw;(try dsimp only at hSw);go_simp;try with_reducible rfl)
     try simp only [put_pack]
     refine wpAnyH_done (by kernel_rfl) ?_ _
     go_simp
     have c_b1:=hS _ hX
     have hwc:=IntWalk.i64_in (base+C) (by omega)
     have hwl:=IntWalk.i64_in (loc+L) (by omega)
     go_wp2_with fail
     refine (hend _ (hXW.trans hX)).mono ?_
     rintro e w5 ⟨rfl,hx5⟩
     have c_b5:=(b1.ext (hX.trans hx5)).cells
     have hf:=Lib.hid (hXW.trans (hX.trans hx5))
     clear c_b1 hend
     by_cases r1:base+C<=32768
     · have e1:decide (base+C<=32768)=true:=by rw [decide_eq_true_eq];exact r1
       by_cases r2:loc+L<=32768
       · have e2:decide (loc+L<=32768)=true:=by rw [decide_eq_true_eq];exact r2
         have hff:=hyes _ hf.out ⟨N,_,rfl,hokh.out r1 r2⟩
         clear r1 r2 hyes hno
         go_wp2_with fail
         first | exact hff | (go_ret;exact hff)
       · have e2:decide (loc+L<=32768)=false:=by rw [decide_eq_false_iff_not];exact r2
         have hff:=hno _ hf.out (hnP.out (fun q=>by omega))
         clear r1 r2 hyes hno
         go_wp2_with fail
         first | exact hff | (go_ret;exact hff)
     · have e1:decide (base+C<=32768)=false:=by rw [decide_eq_false_iff_not];exact r1
       have hff:=hno _ hf.out (hnP.out (fun q=>by omega))
       clear r1 hyes hno
       go_wp2_with fail
       first | exact hff | (go_ret;exact hff)
 · have d:decide (2<alg)=false:=by rw [decide_eq_false_iff_not];exact a3
   have hl3:3<=alg->layM (lkWants alg N) N mode base loc=some []:=fun h=>absurd h (by omega)
   have hend:=hend [] hl3
   have hkb:=hkb [] hl3
   have hokh:=Lib.hid (hok9 [] hl3)
   have hnP:=Lib.hid (show ¬ (base+lkC alg N []<=32768/\loc+lkL alg []<=32768)->¬ (∃ (N':Nat) (rs:List Reg),(N:Int)=N'/\LkOk alg N' mode base loc room rs) from fun hn ⟨N',rs',e,k⟩=>by
    obtain rfl:N=N':=by omega
    obtain⟨q1,q2⟩:=lkC_two a3 ha.1 N [] rs'
    rw [q1,q2] at hn
    exact hn ⟨k.hcells,k.hlocals⟩)
   clear hl3 hok9 a3
   generalize lkC alg N []=C at *
   generalize lkL alg []=L at *
   go_enter Tryz.func134,Tryz.ntmps134
   go_wp2_with fail
   generalize w.alloc _=W at *
   have hS:∀ w',Ext W w'->(∀ i,w'.cell? ⟨w.heap.size,i,none⟩=(#[.int .i64 alg,.int .i64 N,.int .i64 mode,.int .i64 base,.int .i64 loc,.int .i64 room]:Array Value)[i]?):=fun w' hx=>(b1.ext hx).cells
   have hXW:=hX
   refine wp_region_held_drew (S:=fun w'=>∀ i,w'.cell? ⟨w.heap.size,i,none⟩=(#[.int .i64 alg,.int .i64 N,.int .i64 mode,.int .i64 base,.int .i64 loc,.int .i64 room]:Array Value)[i]?) rfl (hS _ (Ext.refl W).drew) (fun hHeld=>?_)
   refine tkb 0 ?_
   iterate 4
    refine tkn (v:=?_) rfl (by kernel_rfl) (fun _ _ _ h=>h) (by assumption) ?_ ?_
    rotate_left
    · (intro w hSw;(try dsimp only at hSw);go_simp;try with_reducible rfl)
    try simp only [put_pack]
   refine tke ?_
   refine sk 4 rfl (by kernel_rfl) (fun _ _ _ h=>h) (by assumption) ?_
   try simp only [put_pack]
   refine sk 5 rfl (by kernel_rfl) (fun _ _ _ h=>h) (by assumption) ?_
   try simp only [put_pack]
   refine sk 6 rfl (by kernel_rfl) (fun _ _ _ h=>h) (by assumption) ?_
   try simp only [put_pack]
   refine sk 7 rfl (by kernel_rfl) (fun _ _ _ h=>h) (by assumption) ?_
   try simp only [put_pack]
   refine sk 8 rfl (by kernel_rfl) (fun _ _ _ h=>h) (by assumption) ?_
   try simp only [put_pack]
   refine tk 9 (v:=?_) rfl (by kernel_rfl) (fun _ _ _ h=>h) (by assumption) ?_ ?_
   rotate_left
   · (intro w hSw;(try dsimp only at hSw);go_simp;try with_reducible rfl)
   try simp only [put_pack]
   refine wpAnyH_done (by kernel_rfl) ?_ _
   go_simp
   have hX:=(Ext.refl W).drew
   have c_b1:=hS _ hX
   replace hX:=hXW.trans hX
   have hwc:=IntWalk.i64_in (base+C) (by omega)
   have hwl:=IntWalk.i64_in (loc+L) (by omega)
   go_wp2_with fail
   refine (hend _ hX).mono ?_
   rintro e w5 ⟨rfl,hx5⟩
   have c_b5:=(b1.ext ((Ext.refl W).drew.trans hx5)).cells
   have hf:=Lib.hid (hX.trans hx5)
   clear c_b1 hend
   by_cases r1:base+C<=32768
   · have e1:decide (base+C<=32768)=true:=by rw [decide_eq_true_eq];exact r1
     by_cases r2:loc+L<=32768
     · have e2:decide (loc+L<=32768)=true:=by rw [decide_eq_true_eq];exact r2
       have hff:=hyes _ hf.out ⟨N,_,rfl,hokh.out r1 r2⟩
       clear r1 r2 hyes hno
       go_wp2_with fail
       first | exact hff | (go_ret;exact hff)
     · have e2:decide (loc+L<=32768)=false:=by rw [decide_eq_false_iff_not];exact r2
       have hff:=hno _ hf.out (hnP.out (fun q=>by omega))
       clear r1 r2 hyes hno
       go_wp2_with fail
       first | exact hff | (go_ret;exact hff)
   · have e1:decide (base+C<=32768)=false:=by rw [decide_eq_false_iff_not];exact r1
     have hff:=hno _ hf.out (hnP.out (fun q=>by omega))
     clear r1 hyes hno
     go_wp2_with fail
     first | exact hff | (go_ret;exact hff)
def renLay (N:Nat) (mode b c:Int):Option (List Reg):=layM (renW (triN N) N) N mode b c
def RegsPost (w:World) (c:Int) (o:Option (List Reg)) (e:Ending) (w':World):Prop:=Ext w w'/\match o with
 | some rs=>∃ v,e=.returned (.tuple #[v,.int .i64 (c+sumL rs),.int .i64 0])/\RegsV w' v rs
 | none=>∃ x:Int,x≠0/\e=.returned (.tuple #[.slice none 0 0,.int .i64 0,.int .i64 x])
set_option maxRecDepth 100000 in
set_option maxHeartbeats 1000000 in
theorem regs32_r (N:Nat)(mode b c:Int)(w:World)(h1:1<=N)(h2:N<=8)(hc:c<=100000) :
  Calls Tryz.prog 137 #[.int .i64 N,.int .i64 mode,.int .i64 b,.int .i64 c] w (RegsPost w c (renLay N mode b c)):=by
 have hlen:(renW (triN N) N).length<=1000:=by rw [renW_len];have:=(triN_le h1 h2).2;omega
 have hL:=fun v w hW=>lay_r v (renW (triN N) N) N mode b c w hW hlen
 have hok:∀ rs,layM (renW (triN N) N) N mode b c=some rs->(∀ r∈rs,r.ok)/\rs.length<=300/\0<=c:=fun rs h=>⟨fun r hr=>(laid_all h r hr).1,by rw [layM_len h,renW_len];have:=(triN_le h1 h2).2;omega,(layM_args h).1.2.2.2.2.2⟩
 unfold renLay
 generalize layM (renW (triN N) N) N mode b c=o at *
 have d1:decide ((N:Int)<1)=false:=by rw [decide_eq_false_iff_not];omega
 have d2:decide ((8:Int)<N)=false:=by rw [decide_eq_false_iff_not];omega
 go_enter Tryz.func137,Tryz.ntmps137
 go_wp2_with fail
 refine (renwants_r N _ h1 h2).mono ?_
 rintro e w2 ⟨v,rfl,hr,hx⟩
 have hW:WantsAt w2 v (renW (triN N) N):=renwants_at hr
 have hL2:=hL v w2 hW
 have hX:=hx
 clear hr hx hW hL
 go_wp2_with fail
 refine hL2.mono ?_
 rintro e w3 ⟨hx,hr⟩
 replace hX:=hX.trans hx
 clear hx hL2
 cases o with
 | none =>
   obtain⟨x,hx0,rfl⟩:=hr
   have d0:(x != 0)=true:=by rw [bne_iff_ne];exact hx0
   have hx0h:=Lib.hid hx0
   clear hx0 hok
   go_wp2_with fail
   exact bodyPost_ret (v:=.tuple #[.slice none 0 0,.int .i64 0,.int .i64 x]) (by simp [results,Tryz.results137,go_sem]) rfl ⟨hX,x,hx0h.out,rfl⟩
 | some rs =>
   obtain⟨v3,rfl,hr3⟩:=hr
   obtain⟨hok1,hok2,hc0⟩:=hok rs rfl
   have hbd:=(sum_bd hok1 rs.length (Nat.le_refl _)).2
   rw [List.take_length] at hbd
   have hS:=fun w h=>sizeV_r v3 rs w h hok1 hok2
   have hr4:=Lib.hid (Recs.of_row hr3)
   have wr1:IntKind.i64.wrap (c+sumL rs)=c+sumL rs:=IntWalk.i64_in _ (by omega)
   clear hok hok1 hr3
   go_wp2_with fail
   refine (hS _ hr4.out).mono ?_
   rintro e w4 ⟨rfl,hx⟩
   have hr5:=Lib.hid (Recs.ext hr4.out hx)
   replace hX:=hX.trans hx
   clear hS hx hr4
   go_wp2_with fail
   exact bodyPost_ret (v:=.tuple #[v3,.int .i64 (c+sumL rs),.int .i64 0]) (by simp [results,Tryz.results137,go_sem]) rfl ⟨hX,v3,rfl,hr5.out⟩
set_option maxRecDepth 100000 in
set_option maxHeartbeats 2000000 in
theorem size40_lock (k a1 a2 a3 a4 a5 a6 a7 alg N mode lb ll room kd rb rl rn rw rr rt ba lo:Int)(c l:Int)(w:World)(hk:1<=k/\k<=6)(hc:0<=c/\c<=10000000)(hl:0<=l/\l<=10000000)
  (hS:∀ w,Calls Tryz.prog 135 #[.agg #[.int .i64 alg,.int .i64 N,.int .i64 mode,.int .i64 lb,.int .i64 ll,.int .i64 room]] w fun e w'=>e=.returned (.tuple #[.int .i64 c,.int .i64 l])/\Ext w w') :
  Calls Tryz.prog 82 #[.agg #[.int .i64 k,.int .i64 a1,.int .i64 a2,.int .i64 a3,.int .i64 a4,.int .i64 a5,.int .i64 a6,.int .i64 a7,.int .i64 alg,.int .i64 N,.int .i64 mode,.int .i64 lb,.int .i64 ll,.int .i64 room,.int .i64 kd,.int .i64 rb,.int .i64 rl,.int .i64 rn,.int .i64 rw,.int .i64 rr,.int .i64 rt,.int .i64 ba,.int .i64 lo]] w fun e w'=>e=.returned (.tuple #[.int .i64 (c+ownC k),.int .i64 (l+ownL k)])/\Ext w w':=by
 have hO:=fun w=>own40_r k w hk
 have hob:(0<=ownC k/\ownC k<=4)/\0<=ownL k/\ownL k<=1:=by
  have:k=1∨k=2∨k=3∨k=4∨k=5∨k=6:=by omega
  rcases this with rfl | rfl | rfl | rfl | rfl | rfl <;> decide
 have d7:(k==7)=false:=by rw [beq_eq_false_iff_ne];omega
 have d8:(k==8)=false:=by rw [beq_eq_false_iff_ne];omega
 generalize ownC k=oc at *
 generalize ownL k=ol at *
 have hX:=Ext.refl w
 have b1:=Blk.new w (.cells #[.int .i64 k,.int .i64 a1,.int .i64 a2,.int .i64 a3,.int .i64 a4,.int .i64 a5,.int .i64 a6,.int .i64 a7,.int .i64 alg,.int .i64 N,.int .i64 mode,.int .i64 lb,.int .i64 ll,.int .i64 room,.int .i64 kd,.int .i64 rb,.int .i64 rl,.int .i64 rn,.int .i64 rw,.int .i64 rr,.int .i64 rt,.int .i64 ba,.int .i64 lo] 61)
 replace hX:=hX.alloc (.cells #[.int .i64 k,.int .i64 a1,.int .i64 a2,.int .i64 a3,.int .i64 a4,.int .i64 a5,.int .i64 a6,.int .i64 a7,.int .i64 alg,.int .i64 N,.int .i64 mode,.int .i64 lb,.int .i64 ll,.int .i64 room,.int .i64 kd,.int .i64 rb,.int .i64 rl,.int .i64 rn,.int .i64 rw,.int .i64 rr,.int .i64 rt,.int .i64 ba,.int .i64 lo] 61)
 have c_b1:=b1.cells
 go_enter Tryz.func82,Tryz.ntmps82
 go_wp2_with fail
 refine (hS _).mono ?_
 rintro e w2 ⟨rfl,hx⟩
 replace b1:=b1.ext hx
 replace hX:=hX.trans hx
 clear hx c_b1 hS
 have c_b1:=b1.cells
 go_wp2_with fail
 refine (hO _).mono ?_
 rintro e w3 ⟨rfl,hx⟩
 replace hX:=hX.trans hx
 clear hx c_b1 hO b1
 go_wp2_with fail
 go_ret2
 exact⟨rfl,hX⟩
set_option maxRecDepth 100000 in
set_option maxHeartbeats 2000000 in
theorem size40_reg (a1 a2 a3 a4 a5 a6 a7 alg N mode lb ll room kd rb rl rn rw rr rt ba lo:Int)(c l:Int)(w:World)
  (hC:∀ w,Calls Tryz.prog 138 #[.agg #[.int .i64 kd,.int .i64 rb,.int .i64 rl,.int .i64 rn,.int .i64 rw,.int .i64 rr,.int .i64 rt]] w fun e w'=>e=.returned (.int .i64 c)/\Ext w w')(hL:∀ w,Calls Tryz.prog 139 #[.agg #[.int .i64 kd,.int .i64 rb,.int .i64 rl,.int .i64 rn,.int .i64 rw,.int .i64 rr,.int .i64 rt]] w fun e w'=>e=.returned (.int .i64 l)/\Ext w w') :
  Calls Tryz.prog 82 #[.agg #[.int .i64 7,.int .i64 a1,.int .i64 a2,.int .i64 a3,.int .i64 a4,.int .i64 a5,.int .i64 a6,.int .i64 a7,.int .i64 alg,.int .i64 N,.int .i64 mode,.int .i64 lb,.int .i64 ll,.int .i64 room,.int .i64 kd,.int .i64 rb,.int .i64 rl,.int .i64 rn,.int .i64 rw,.int .i64 rr,.int .i64 rt,.int .i64 ba,.int .i64 lo]] w fun e w'=>e=.returned (.tuple #[.int .i64 c,.int .i64 l])/\Ext w w':=by
 have hX:=Ext.refl w
 have b1:=Blk.new w (.cells #[.int .i64 7,.int .i64 a1,.int .i64 a2,.int .i64 a3,.int .i64 a4,.int .i64 a5,.int .i64 a6,.int .i64 a7,.int .i64 alg,.int .i64 N,.int .i64 mode,.int .i64 lb,.int .i64 ll,.int .i64 room,.int .i64 kd,.int .i64 rb,.int .i64 rl,.int .i64 rn,.int .i64 rw,.int .i64 rr,.int .i64 rt,.int .i64 ba,.int .i64 lo] 61)
 replace hX:=hX.alloc (.cells #[.int .i64 7,.int .i64 a1,.int .i64 a2,.int .i64 a3,.int .i64 a4,.int .i64 a5,.int .i64 a6,.int .i64 a7,.int .i64 alg,.int .i64 N,.int .i64 mode,.int .i64 lb,.int .i64 ll,.int .i64 room,.int .i64 kd,.int .i64 rb,.int .i64 rl,.int .i64 rn,.int .i64 rw,.int .i64 rr,.int .i64 rt,.int .i64 ba,.int .i64 lo] 61)
 have c_b1:=b1.cells
 go_enter Tryz.func82,Tryz.ntmps82
 go_wp2_with fail
 generalize hWW:w.alloc _=W at *
 have hS:∀ w',Ext W w'->∀ i,w'.cell? ⟨w.heap.size,i,none⟩=(#[.int .i64 7,.int .i64 a1,.int .i64 a2,.int .i64 a3,.int .i64 a4,.int .i64 a5,.int .i64 a6,.int .i64 a7,.int .i64 alg,.int .i64 N,.int .i64 mode,.int .i64 lb,.int .i64 ll,.int .i64 room,.int .i64 kd,.int .i64 rb,.int .i64 rl,.int .i64 rn,.int .i64 rw,.int .i64 rr,.int .i64 rt,.int .i64 ba,.int .i64 lo]:Array Value)[i]?:=fun w' hx=>(b1.ext hx).cells
 have hx2:=(Ext.refl W).drew
 clear hWW c_b1
 refine wp_region_held_drew (S:=fun w'=>∀ i,w'.cell? ⟨w.heap.size,i,none⟩=(#[.int .i64 7,.int .i64 a1,.int .i64 a2,.int .i64 a3,.int .i64 a4,.int .i64 a5,.int .i64 a6,.int .i64 a7,.int .i64 alg,.int .i64 N,.int .i64 mode,.int .i64 lb,.int .i64 ll,.int .i64 room,.int .i64 kd,.int .i64 rb,.int .i64 rl,.int .i64 rn,.int .i64 rw,.int .i64 rr,.int .i64 rt,.int .i64 ba,.int .i64 lo]:Array Value)[i]?) rfl (hS _ hx2) (fun hHeld=>?_)
 refine tk 0 (v:=?_) rfl (by kernel_rfl) (fun _ _ _ h=>h) (by assumption) ?_ ?_
 rotate_left
 · (intro w hSw;(try dsimp only at hSw);go_simp;try with_reducible rfl)
 try simp only [put_pack]
 refine tk 1 (v:=?_) rfl (by kernel_rfl) (fun _ _ _ h=>h) (by assumption) ?_ ?_
 rotate_left
 · (intro w hSw;(try dsimp only at hSw);go_simp;try with_reducible rfl)
 try simp only [put_pack]
 refine tk 3 (v:=?_) rfl (by kernel_rfl) (fun _ _ _ h=>h) (by assumption) ?_ ?_
 rotate_left
 · (intro w hSw;(try dsimp only at hSw);go_simp;try with_reducible rfl)
 try simp only [put_pack]
 refine tk 4 (v:=?_) rfl (by kernel_rfl) (fun _ _ _ h=>h) (by assumption) ?_ ?_
 rotate_left
 · (intro w hSw;(try dsimp only at hSw);go_simp;try with_reducible rfl)
 try simp only [put_pack]
 refine wpAnyH_ready (rs:=[2]) (by kernel_rfl) (by simp) ?_
 refine AllReadyH.cons rfl (fun K hKK=>?_) (AllReadyH.nil)
 go_simp
 refine (hC _).mono ?_
 rintro e wk ⟨rfl,hx⟩
 replace hx2:=hx2.trans hx
 clear hx
 refine hKK.out _ _ (hS _ hx2) (fun hHeld=>?_)
 clear hKK K
 try dsimp only
 refine wpAnyH_ready (rs:=[5]) (by kernel_rfl) (by simp) ?_
 refine AllReadyH.cons rfl (fun K hKK=>?_) (AllReadyH.nil)
 go_simp
 refine (hL _).mono ?_
 rintro e wl ⟨rfl,hx⟩
 replace hx2:=hx2.trans hx
 clear hx
 refine hKK.out _ _ (hS _ hx2) (fun hHeld=>?_)
 clear hKK K
 try dsimp only
 refine tk 6 (v:=?_) rfl (by kernel_rfl) (fun _ _ _ h=>h) (by assumption) ?_ ?_
 rotate_left
 · (intro w hSw;(try dsimp only at hSw);go_simp;try with_reducible rfl)
 try simp only [put_pack]
 refine tk 7 (v:=?_) rfl (by kernel_rfl) (fun _ _ _ h=>h) (by assumption) ?_ ?_
 rotate_left
 · (intro w hSw;(try dsimp only at hSw);go_simp;try with_reducible rfl)
 try simp only [put_pack]
 refine wpAnyH_done (by kernel_rfl) ?_ _
 go_simp
 replace hX:=hX.trans hx2
 clear hS hx2 hHeld
 go_wp2_with fail
 go_ret2
 exact⟨rfl,hX⟩
set_option maxRecDepth 100000 in
set_option maxHeartbeats 2000000 in
theorem size40_name (a1 a2 a3 a4 a5 a6 a7 alg N mode lb ll room kd rb rl rn rw rr rt ba lo:Int)(rs:List Reg)(w:World)(hok:∀ r∈rs,r.ok)(hlen:rs.length<=300)(hll:0<=ll/\ll<=100000)
  (hR:∀ w,Calls Tryz.prog 137 #[.int .i64 N,.int .i64 mode,.int .i64 lb,.int .i64 ll] w (RegsPost w ll (some rs))) :
  Calls Tryz.prog 82 #[.agg #[.int .i64 8,.int .i64 a1,.int .i64 a2,.int .i64 a3,.int .i64 a4,.int .i64 a5,.int .i64 a6,.int .i64 a7,.int .i64 alg,.int .i64 N,.int .i64 mode,.int .i64 lb,.int .i64 ll,.int .i64 room,.int .i64 kd,.int .i64 rb,.int .i64 rl,.int .i64 rn,.int .i64 rw,.int .i64 rr,.int .i64 rt,.int .i64 ba,.int .i64 lo]] w fun e w'=>e=.returned (.tuple #[.int .i64 (sumC rs),.int .i64 (sumL rs+1)])/\Ext w w':=by
 have hbd:=sum_bd hok rs.length (Nat.le_refl _)
 rw [List.take_length] at hbd
 have hS:=fun v w h=>sizeV_r v rs w h hok hlen
 have w1:IntKind.i64.wrap (ll+sumL rs+1)=ll+sumL rs+1:=IntWalk.i64_in _ (by omega)
 have w2:IntKind.i64.wrap (ll+sumL rs+1-ll)=sumL rs+1:=by rw [IntWalk.i64_in _ (by omega)];omega
 clear hok
 have hX:=Ext.refl w
 have b1:=Blk.new w (.cells #[.int .i64 8,.int .i64 a1,.int .i64 a2,.int .i64 a3,.int .i64 a4,.int .i64 a5,.int .i64 a6,.int .i64 a7,.int .i64 alg,.int .i64 N,.int .i64 mode,.int .i64 lb,.int .i64 ll,.int .i64 room,.int .i64 kd,.int .i64 rb,.int .i64 rl,.int .i64 rn,.int .i64 rw,.int .i64 rr,.int .i64 rt,.int .i64 ba,.int .i64 lo] 61)
 replace hX:=hX.alloc (.cells #[.int .i64 8,.int .i64 a1,.int .i64 a2,.int .i64 a3,.int .i64 a4,.int .i64 a5,.int .i64 a6,.int .i64 a7,.int .i64 alg,.int .i64 N,.int .i64 mode,.int .i64 lb,.int .i64 ll,.int .i64 room,.int .i64 kd,.int .i64 rb,.int .i64 rl,.int .i64 rn,.int .i64 rw,.int .i64 rr,.int .i64 rt,.int .i64 ba,.int .i64 lo] 61)
 have c_b1:=b1.cells
 go_enter Tryz.func82,Tryz.ntmps82
 go_wp2_with fail
 refine (hR _).mono ?_
 rintro e w2 ⟨hx,v,rfl,hv⟩
 replace b1:=b1.ext hx
 replace hX:=hX.trans hx
 have hvh:=Lib.hid hv
 clear hx c_b1 hR hv
 go_wp2_with fail
 refine (hS _ _ hvh.out).mono ?_
 rintro e w3 ⟨rfl,hx⟩
 replace b1:=b1.ext hx
 replace hX:=hX.trans hx
 clear hx hS hvh
 have hS2:∀ w',Ext w3 w'->w'.cell? ⟨w.heap.size,12,none⟩=some (.int .i64 ll):=fun w' hx=>(b1.ext hx).cells 12
 have hXd:=Lib.hid hX.drew
 go_wp2_with fail
 refine wp_region_held_drew (S:=fun w'=>w'.cell? ⟨w.heap.size,12,none⟩=some (.int .i64 ll)) rfl (hS2 _ (Ext.refl w3).drew) (fun hHeld=>?_)
 refine tkb 0 ?_
 iterate 9
  refine tkn (v:=?_) rfl (by kernel_rfl) (fun _ _ _ h=>h) (by assumption) ?_ ?_
  rotate_left
  · (intro w hSw;(try dsimp only at hSw);go_simp;try with_reducible rfl)
  try simp only [put_pack]
 refine tke ?_
 refine wpAnyH_done (by kernel_rfl) ?_ _
 go_simp
 go_wp2_with fail
 go_ret2
 exact⟨rfl,hXd.out⟩
end Go.Proofs.YtponihangpiooaaGreat
namespace Kv
def thrB (n t:Int) (must:Bool):Bool:=decide (0<=t/\t<n)||(decide (t=-1)&&!must)
theorem clamp_most (t:Int):clamp t 255=mostT t:=by unfold clamp within mostT;omega
end Kv
namespace Go.Proofs.YtponihangpiooaaGreat
open Go.RowKit Kv
def BoolPost (w:World) (Q:Prop) (e:Ending) (w':World):Prop:=∃ b,e=.returned (.bool b)/\Ext w w'/\(b=true->Q)
theorem thread_b (n t:Int)(must:Bool)(w:World):Calls Tryz.prog 203 #[.int .i64 n,.int .i64 t,.bool must] w fun e w'=>e=.returned (.bool (thrB n t must))/\w=w':=by
 by_cases h:(0<=t/\t<n)∨(t=-1/\must=false)
 · have e:thrB n t must=true:=by unfold thrB;rcases h with h | ⟨h1,h2⟩ <;> simp [*]
   rw [e]
   exact thread_any n t must w h
 · have e:thrB n t must=false:=by
    unfold thrB
    simp only [Bool.or_eq_false_iff,Bool.and_eq_false_iff,decide_eq_false_iff_not,Bool.not_eq_false']
    refine⟨fun h1=>h (.inl h1),?_⟩
    by_cases h1:t=-1
    · right
      cases must
      · exact absurd (.inr ⟨h1,rfl⟩) h
      · rfl
    · left
      exact h1
   rw [e]
   by_cases h0:0<=t
   · have d1:decide (0<=t)=true:=by simpa using h0
     have d2:decide (t<n)=false:=by rw [decide_eq_false_iff_not];exact fun h1=>h (.inl ⟨h0,h1⟩)
     have d3:(t==-1)=false:=by rw [beq_eq_false_iff_ne];omega
     go_enter Tryz.func203,Tryz.ntmps203
     go_wp2_with fail
     go_ret
     exact⟨rfl,rfl⟩
   · have d1:decide (0<=t)=false:=by simpa using h0
     by_cases h1:t=-1
     · subst h1
       cases must
       · exact absurd (.inr ⟨rfl,rfl⟩) h
       · go_enter Tryz.func203,Tryz.ntmps203
         go_wp2_with fail
         go_ret
         exact⟨rfl,rfl⟩
     · have d3:(t==-1)=false:=by rw [beq_eq_false_iff_ne];exact h1
       go_enter Tryz.func203,Tryz.ntmps203
       go_wp2_with fail
       go_ret
       exact⟨rfl,rfl⟩
theorem cells17_r (r:Reg)(w:World)(hk:1<=r.kind/\r.kind<=7)(hn:1<=r.n/\r.n<=8):Calls Tryz.prog 138 #[encR r] w fun e w'=>e=.returned (.int .i64 (cells7 r))/\Ext w w':=by
 by_cases h:r.kind=1∨r.kind=6∨r.kind=7
 · rw [<- cells7_eq h hn.1]
   exact cells_r r w h hn
 have hk2:r.kind=2∨r.kind=3∨r.kind=4∨r.kind=5:=by omega
 clear h hk
 have hm:=mostT_bd r.top
 obtain⟨kind,base,loc,n,wr,rd,top⟩:=r
 simp only at hk2 hn hm
 unfold encR cells7
 simp only
 have hX:=Ext.refl w
 have b1:=Blk.new w (.cells #[.int .i64 kind,.int .i64 base,.int .i64 loc,.int .i64 n,.int .i64 wr,.int .i64 rd,.int .i64 top] 59)
 replace hX:=hX.alloc (.cells #[.int .i64 kind,.int .i64 base,.int .i64 loc,.int .i64 n,.int .i64 wr,.int .i64 rd,.int .i64 top] 59)
 have c_b1:=b1.cells
 go_enter Tryz.func138,Tryz.ntmps138
 go_wp2_with fail
 refine (rn_r ⟨kind,base,loc,n,wr,rd,top⟩ _ hn.1 hn.2).mono ?_
 rintro e w2 ⟨rfl,hx⟩
 clear c_b1
 replace b1:=b1.ext hx
 have c_b1:=b1.cells
 replace hX:=hX.trans hx
 clear hx
 rcases hk2 with rfl | rfl | rfl | rfl
 · go_wp2_with fail
   go_ret
   exact⟨rfl,hX⟩
 · go_wp2_with fail
   refine (clamp_r top 255 _).mono ?_
   rintro e w' ⟨rfl,rfl⟩
   rw [clamp_most]
   go_wp2_with fail
   go_ret
   exact⟨rfl,hX⟩
 · go_wp2_with fail
   go_ret
   exact⟨rfl,hX⟩
 · go_wp2_with fail
   go_ret
   exact⟨rfl,hX⟩
theorem locals17_r (r:Reg)(w:World)(hk:1<=r.kind/\r.kind<=7)(hn:1<=r.n/\r.n<=8):Calls Tryz.prog 139 #[encR r] w fun e w'=>e=.returned (.int .i64 (locals7 r))/\Ext w w':=by
 by_cases h:r.kind=1∨r.kind=6∨r.kind=7
 · rw [<- locals7_eq h hn.1]
   exact locals_r r w h hn
 have hk2:r.kind=2∨r.kind=3∨r.kind=4∨r.kind=5:=by omega
 clear h hk
 have hm:=mostT_bd r.top
 obtain⟨kind,base,loc,n,wr,rd,top⟩:=r
 simp only at hk2 hn hm
 unfold encR locals7
 simp only
 have hX:=Ext.refl w
 have b1:=Blk.new w (.cells #[.int .i64 kind,.int .i64 base,.int .i64 loc,.int .i64 n,.int .i64 wr,.int .i64 rd,.int .i64 top] 59)
 replace hX:=hX.alloc (.cells #[.int .i64 kind,.int .i64 base,.int .i64 loc,.int .i64 n,.int .i64 wr,.int .i64 rd,.int .i64 top] 59)
 have c_b1:=b1.cells
 go_enter Tryz.func139,Tryz.ntmps139
 go_wp2_with fail
 refine (rn_r ⟨kind,base,loc,n,wr,rd,top⟩ _ hn.1 hn.2).mono ?_
 rintro e w2 ⟨rfl,hx⟩
 clear c_b1
 replace b1:=b1.ext hx
 have c_b1:=b1.cells
 replace hX:=hX.trans hx
 clear hx
 rcases hk2 with rfl | rfl | rfl | rfl
 · go_wp2_with fail
   go_ret
   exact⟨rfl,hX⟩
 · go_wp2_with fail
   refine (clamp_r top 255 _).mono ?_
   rintro e w' ⟨rfl,rfl⟩
   rw [clamp_most]
   go_wp2_with fail
   go_ret
   exact⟨rfl,hX⟩
 · go_wp2_with fail
   go_ret
   exact⟨rfl,hX⟩
 · go_wp2_with fail
   go_ret
   exact⟨rfl,hX⟩
set_option maxRecDepth 100000 in
set_option maxHeartbeats 4000000 in
theorem fin1_r (base loc n wr rd top C D:Int)(w:World)(hb:0<=base/\base<=32768)(hl:0<=loc/\loc<=32768)(hn:1<=n/\n<=8)(hz:0<=C/\C<=6272/\0<=D/\D<=7072)
  (hC:∀ w,Calls Tryz.prog 138 #[.agg #[.int .i64 1,.int .i64 base,.int .i64 loc,.int .i64 n,.int .i64 wr,.int .i64 rd,.int .i64 top]] w fun e w'=>e=.returned (.int .i64 C)/\Ext w w')
  (hL:∀ w,Calls Tryz.prog 139 #[.agg #[.int .i64 1,.int .i64 base,.int .i64 loc,.int .i64 n,.int .i64 wr,.int .i64 rd,.int .i64 top]] w fun e w'=>e=.returned (.int .i64 D)/\Ext w w') :
  Calls Tryz.prog 136 #[.agg #[.int .i64 1,.int .i64 base,.int .i64 loc,.int .i64 n,.int .i64 wr,.int .i64 rd,.int .i64 top]] w (BoolPost w (thrB n wr false=true/\thrB n rd false=true/\True/\1<=top/\top<=1099511627776/\base+C<=32768/\loc+D<=32768)):=by
 have d1:decide (base<0)=false:=by simpa using hb.1
 have d2:decide (loc<0)=false:=by simpa using hl.1
 have d3:decide (n<1)=false:=by simpa using hn.1
 have d4:decide (8<n)=false:=by simpa using hn.2
 have d5:decide (32768<base)=false:=by simpa using hb.2
 have d6:decide (32768<loc)=false:=by simpa using hl.2
 have hT:=fun w=>thread_b n wr false w
 have hT2:=fun w=>thread_b n rd false w
 have hX:=Ext.refl w
 have b1:=Blk.new w (.cells #[.int .i64 1,.int .i64 base,.int .i64 loc,.int .i64 n,.int .i64 wr,.int .i64 rd,.int .i64 top] 59)
 replace hX:=hX.alloc (.cells #[.int .i64 1,.int .i64 base,.int .i64 loc,.int .i64 n,.int .i64 wr,.int .i64 rd,.int .i64 top] 59)
 have c_b1:=b1.cells
 cases t1:thrB n wr false
 · rw [t1] at hT
   go_enter Tryz.func136,Tryz.ntmps136
   go_wp2_with fail
   refine (hT _).mono ?_
   rintro e w' ⟨rfl,rfl⟩
   go_wp2_with fail
   go_ret
   exact⟨false,rfl,hX,fun h=>nomatch h⟩
 rw [t1] at hT
 cases t2:thrB n rd false
 · rw [t2] at hT2
   go_enter Tryz.func136,Tryz.ntmps136
   go_wp2_with fail
   refine (hT _).mono ?_
   rintro e w' ⟨rfl,rfl⟩
   go_wp2_with fail
   refine (hT2 _).mono ?_
   rintro e w' ⟨rfl,rfl⟩
   go_wp2_with fail
   go_ret
   exact⟨false,rfl,hX,fun h=>nomatch h⟩
 rw [t2] at hT2
 have h1w:=IntWalk.i64_in (base+C) (by omega)
 have h2w:=IntWalk.i64_in (loc+D) (by omega)
 have hf:∀ b:Bool,(b=true->1<=top/\top<=1099511627776/\base+C<=32768/\loc+D<=32768)->(b=true->true=true/\true=true/\True/\1<=top/\top<=1099511627776/\base+C<=32768/\loc+D<=32768):=fun b h hb=>⟨rfl,rfl,trivial,h hb⟩
 have hfh:=Lib.hid hf
 clear hf
 go_enter Tryz.func136,Tryz.ntmps136
 go_wp2_with fail
 refine (hT _).mono ?_
 rintro e w' ⟨rfl,rfl⟩
 go_wp2_with fail
 refine (hT2 _).mono ?_
 rintro e w' ⟨rfl,rfl⟩
 clear hT hT2 t1 t2
 go_wp2_with fail
 have k1:=b1.alloc (.cells #[.int .i64 0,.int .i64 1099511627776,.int .i64 1,.int .i64 255,.int .i64 1,.int .i64 1099511627776,.int .i64 1048576,.int .i64 255] 3)
 have k2:=Blk.new (w.alloc (.cells #[.int .i64 1,.int .i64 base,.int .i64 loc,.int .i64 n,.int .i64 wr,.int .i64 rd,.int .i64 top] 59)) (.cells #[.int .i64 0,.int .i64 1099511627776,.int .i64 1,.int .i64 255,.int .i64 1,.int .i64 1099511627776,.int .i64 1048576,.int .i64 255] 3)
 have hXW:=hX.alloc (.cells #[.int .i64 0,.int .i64 1099511627776,.int .i64 1,.int .i64 255,.int .i64 1,.int .i64 1099511627776,.int .i64 1048576,.int .i64 255] 3)
 simp only [World.size_alloc] at k2
 clear b1 c_b1 hX
 generalize World.alloc (World.alloc _ _) _=W at *
 have hX:=(Ext.refl W).drew
 have hS:∀ w',Ext W w'->(∀ i,w'.cell? ⟨w.heap.size,i,none⟩=(#[.int .i64 1,.int .i64 base,.int .i64 loc,.int .i64 n,.int .i64 wr,.int .i64 rd,.int .i64 top]:Array Value)[i]?)/\(∀ i,w'.cell? ⟨w.heap.size+1,i,none⟩=(#[.int .i64 0,.int .i64 1099511627776,.int .i64 1,.int .i64 255,.int .i64 1,.int .i64 1099511627776,.int .i64 1048576,.int .i64 255]:Array Value)[i]?):=fun w' hx=>⟨(k1.ext hx).cells,(k2.ext hx).cells⟩
 by_cases e7:1<=top
 · have d7:decide (1<=top)=true:=by simpa using e7
   by_cases e8:top<=1099511627776
   · have d8:decide (top<=1099511627776)=true:=by simpa using e8
     by_cases hc:base+C<=32768
     · have d9:decide (base+C<=32768)=true:=by simpa using hc
       go_region_held2 (fun w'=>(∀ i,w'.cell? ⟨w.heap.size,i,none⟩=(#[.int .i64 1,.int .i64 base,.int .i64 loc,.int .i64 n,.int .i64 wr,.int .i64 rd,.int .i64 top]:Array Value)[i]?)/\(∀ i,w'.cell? ⟨w.heap.size+1,i,none⟩=(#[.int .i64 0,.int .i64 1099511627776,.int .i64 1,.int .i64 255,.int .i64 1,.int .i64 1099511627776,.int .i64 1048576,.int .i64 255]:Array Value)[i]?)) (exact hS _ hX)
       (first
          | (go_at_call 138
             refine (hC _).mono ?_
             rintro e w2 ⟨rfl,hx⟩
             replace hX:=hX.trans hx
             clear hx)
          | (go_at_call 139
             refine (hL _).mono ?_
             rintro e w2 ⟨rfl,hx⟩
             replace hX:=hX.trans hx
             clear hx))
       go_wp2_with fail
       go_ret
       exact⟨_,rfl,hXW.trans hX,hfh.out _ fun h=>⟨e7,e8,hc,by simpa using h⟩⟩
     · have d9:decide (base+C<=32768)=false:=by simpa using hc
       refine wp_region_held_drew (S:=fun w'=>(∀ i,w'.cell? ⟨w.heap.size,i,none⟩=(#[.int .i64 1,.int .i64 base,.int .i64 loc,.int .i64 n,.int .i64 wr,.int .i64 rd,.int .i64 top]:Array Value)[i]?)/\(∀ i,w'.cell? ⟨w.heap.size+1,i,none⟩=(#[.int .i64 0,.int .i64 1099511627776,.int .i64 1,.int .i64 255,.int .i64 1,.int .i64 1099511627776,.int .i64 1048576,.int .i64 255]:Array Value)[i]?)) rfl (hS _ hX) (fun hHeld=>?_)
       refine tkb 0 ?_
       iterate 17
        refine tkn (v:=?_) rfl (by kernel_rfl) (fun _ _ _ h=>h) (by assumption) ?_ ?_
        rotate_left
        · (intro w hSw;(try dsimp only at hSw);go_simp;try with_reducible rfl)
        try simp only [put_pack]
       refine tke ?_
       refine wpAnyH_ready (rs:=[17]) (by kernel_rfl) (by simp) ?_
       refine AllReadyH.cons rfl (fun K hKK=>?_) (AllReadyH.nil)
       go_simp
       refine (hC _).mono ?_
       rintro e w2 ⟨rfl,hx⟩
       replace hX:=hX.trans hx
       clear hx
       refine hKK.out _ _ (hS _ hX) (fun hHeld=>?_)
       clear hKK K
       try dsimp only
       refine tkb 18 ?_
       iterate 4
        refine tkn (v:=?_) rfl (by kernel_rfl) (fun _ _ _ h=>h) (by assumption) ?_ ?_
        rotate_left
        · (intro w hSw;(try dsimp only at hSw);go_simp;try with_reducible rfl)
        try simp only [put_pack]
       refine tke ?_
       refine sk 22 rfl (by kernel_rfl) (fun _ _ _ h=>h) (by assumption) ?_
       try simp only [put_pack]
       refine sk 23 rfl (by kernel_rfl) (fun _ _ _ h=>h) (by assumption) ?_
       try simp only [put_pack]
       refine sk 24 rfl (by kernel_rfl) (fun _ _ _ h=>h) (by assumption) ?_
       try simp only [put_pack]
       refine sk 25 rfl (by kernel_rfl) (fun _ _ _ h=>h) (by assumption) ?_
       try simp only [put_pack]
       refine sk 26 rfl (by kernel_rfl) (fun _ _ _ h=>h) (by assumption) ?_
       try simp only [put_pack]
       refine sk 27 rfl (by kernel_rfl) (fun _ _ _ h=>h) (by assumption) ?_
       try simp only [put_pack]
       refine tk 28 (v:=?_) rfl (by kernel_rfl) (fun _ _ _ h=>h) (by assumption) ?_ ?_
       rotate_left
       · (intro w hSw;(try dsimp only at hSw);go_simp;try with_reducible rfl)
       try simp only [put_pack]
       refine tk 29 (v:=?_) rfl (by kernel_rfl) (fun _ _ _ h=>h) (by assumption) ?_ ?_
       rotate_left
       · (intro w hSw;(try dsimp only at hSw);go_simp;try with_reducible rfl)
       try simp only [put_pack]
       refine wpAnyH_done (by kernel_rfl) ?_ _
       go_simp
       go_wp2_with fail
       go_ret
       exact⟨false,rfl,hXW.trans hX,fun h=>nomatch h⟩
   · have d8:decide (top<=1099511627776)=false:=by simpa using e8
     refine wp_region_held_drew (S:=fun w'=>(∀ i,w'.cell? ⟨w.heap.size,i,none⟩=(#[.int .i64 1,.int .i64 base,.int .i64 loc,.int .i64 n,.int .i64 wr,.int .i64 rd,.int .i64 top]:Array Value)[i]?)/\(∀ i,w'.cell? ⟨w.heap.size+1,i,none⟩=(#[.int .i64 0,.int .i64 1099511627776,.int .i64 1,.int .i64 255,.int .i64 1,.int .i64 1099511627776,.int .i64 1048576,.int .i64 255]:Array Value)[i]?)) rfl (hS _ hX) (fun hHeld=>?_)
     refine tkb 0 ?_
     iterate 14
      refine tkn (v:=?_) rfl (by kernel_rfl) (fun _ _ _ h=>h) (by assumption) ?_ ?_
      rotate_left
      · (intro w hSw;(try dsimp only at hSw);go_simp;try with_reducible rfl)
      try simp only [put_pack]
     refine tke ?_
     refine sk 14 rfl (by kernel_rfl) (fun _ _ _ h=>h) (by assumption) ?_
     try simp only [put_pack]
     refine sk 15 rfl (by kernel_rfl) (fun _ _ _ h=>h) (by assumption) ?_
     try simp only [put_pack]
     refine sk 16 rfl (by kernel_rfl) (fun _ _ _ h=>h) (by assumption) ?_
     try simp only [put_pack]
     refine sk 17 rfl (by kernel_rfl) (fun _ _ _ h=>h) (by assumption) ?_
     try simp only [put_pack]
     refine sk 18 rfl (by kernel_rfl) (fun _ _ _ h=>h) (by assumption) ?_
     try simp only [put_pack]
     refine sk 19 rfl (by kernel_rfl) (fun _ _ _ h=>h) (by assumption) ?_
     try simp only [put_pack]
     refine tk 20 (v:=?_) rfl (by kernel_rfl) (fun _ _ _ h=>h) (by assumption) ?_ ?_
     rotate_left
     · (intro w hSw;(try dsimp only at hSw);go_simp;try with_reducible rfl)
     try simp only [put_pack]
     refine tk 21 (v:=?_) rfl (by kernel_rfl) (fun _ _ _ h=>h) (by assumption) ?_ ?_
     rotate_left
     · (intro w hSw;(try dsimp only at hSw);go_simp;try with_reducible rfl)
     try simp only [put_pack]
     refine sk 22 rfl (by kernel_rfl) (fun _ _ _ h=>h) (by assumption) ?_
     try simp only [put_pack]
     refine sk 23 rfl (by kernel_rfl) (fun _ _ _ h=>h) (by assumption) ?_
     try simp only [put_pack]
     refine sk 24 rfl (by kernel_rfl) (fun _ _ _ h=>h) (by assumption) ?_
     try simp only [put_pack]
     refine sk 25 rfl (by kernel_rfl) (fun _ _ _ h=>h) (by assumption) ?_
     try simp only [put_pack]
     refine sk 26 rfl (by kernel_rfl) (fun _ _ _ h=>h) (by assumption) ?_
     try simp only [put_pack]
     refine sk 27 rfl (by kernel_rfl) (fun _ _ _ h=>h) (by assumption) ?_
     try simp only [put_pack]
     refine tk 28 (v:=?_) rfl (by kernel_rfl) (fun _ _ _ h=>h) (by assumption) ?_ ?_
     rotate_left
     · (intro w hSw;(try dsimp only at hSw);go_simp;try with_reducible rfl)
     try simp only [put_pack]
     refine tk 29 (v:=?_) rfl (by kernel_rfl) (fun _ _ _ h=>h) (by assumption) ?_ ?_
     rotate_left
     · (intro w hSw;(try dsimp only at hSw);go_simp;try with_reducible rfl)
     try simp only [put_pack]
     refine wpAnyH_done (by kernel_rfl) ?_ _
     go_simp
     go_wp2_with fail
     go_ret
     exact⟨false,rfl,hXW.trans hX,fun h=>nomatch h⟩
 · have d7:decide (1<=top)=false:=by simpa using e7
   refine wp_region_held_drew (S:=fun w'=>(∀ i,w'.cell? ⟨w.heap.size,i,none⟩=(#[.int .i64 1,.int .i64 base,.int .i64 loc,.int .i64 n,.int .i64 wr,.int .i64 rd,.int .i64 top]:Array Value)[i]?)/\(∀ i,w'.cell? ⟨w.heap.size+1,i,none⟩=(#[.int .i64 0,.int .i64 1099511627776,.int .i64 1,.int .i64 255,.int .i64 1,.int .i64 1099511627776,.int .i64 1048576,.int .i64 255]:Array Value)[i]?)) rfl (hS _ hX) (fun hHeld=>?_)
   refine tkb 0 ?_
   iterate 4
    refine tkn (v:=?_) rfl (by kernel_rfl) (fun _ _ _ h=>h) (by assumption) ?_ ?_
    rotate_left
    · (intro w hSw;(try dsimp only at hSw);go_simp;try with_reducible rfl)
    try simp only [put_pack]
   refine tke ?_
   refine sk 4 rfl (by kernel_rfl) (fun _ _ _ h=>h) (by assumption) ?_
   try simp only [put_pack]
   refine sk 5 rfl (by kernel_rfl) (fun _ _ _ h=>h) (by assumption) ?_
   try simp only [put_pack]
   refine sk 6 rfl (by kernel_rfl) (fun _ _ _ h=>h) (by assumption) ?_
   try simp only [put_pack]
   refine sk 7 rfl (by kernel_rfl) (fun _ _ _ h=>h) (by assumption) ?_
   try simp only [put_pack]
   refine sk 8 rfl (by kernel_rfl) (fun _ _ _ h=>h) (by assumption) ?_
   try simp only [put_pack]
   refine sk 9 rfl (by kernel_rfl) (fun _ _ _ h=>h) (by assumption) ?_
   try simp only [put_pack]
   refine sk 10 rfl (by kernel_rfl) (fun _ _ _ h=>h) (by assumption) ?_
   try simp only [put_pack]
   refine sk 11 rfl (by kernel_rfl) (fun _ _ _ h=>h) (by assumption) ?_
   try simp only [put_pack]
   refine tk 12 (v:=?_) rfl (by kernel_rfl) (fun _ _ _ h=>h) (by assumption) ?_ ?_
   rotate_left
   · (intro w hSw;(try dsimp only at hSw);go_simp;try with_reducible rfl)
   try simp only [put_pack]
   refine tk 13 (v:=?_) rfl (by kernel_rfl) (fun _ _ _ h=>h) (by assumption) ?_ ?_
   rotate_left
   · (intro w hSw;(try dsimp only at hSw);go_simp;try with_reducible rfl)
   try simp only [put_pack]
   refine sk 14 rfl (by kernel_rfl) (fun _ _ _ h=>h) (by assumption) ?_
   try simp only [put_pack]
   refine sk 15 rfl (by kernel_rfl) (fun _ _ _ h=>h) (by assumption) ?_
   try simp only [put_pack]
   refine sk 16 rfl (by kernel_rfl) (fun _ _ _ h=>h) (by assumption) ?_
   try simp only [put_pack]
   refine sk 17 rfl (by kernel_rfl) (fun _ _ _ h=>h) (by assumption) ?_
   try simp only [put_pack]
   refine sk 18 rfl (by kernel_rfl) (fun _ _ _ h=>h) (by assumption) ?_
   try simp only [put_pack]
   refine sk 19 rfl (by kernel_rfl) (fun _ _ _ h=>h) (by assumption) ?_
   try simp only [put_pack]
   refine tk 20 (v:=?_) rfl (by kernel_rfl) (fun _ _ _ h=>h) (by assumption) ?_ ?_
   rotate_left
   · (intro w hSw;(try dsimp only at hSw);go_simp;try with_reducible rfl)
   try simp only [put_pack]
   refine tk 21 (v:=?_) rfl (by kernel_rfl) (fun _ _ _ h=>h) (by assumption) ?_ ?_
   rotate_left
   · (intro w hSw;(try dsimp only at hSw);go_simp;try with_reducible rfl)
   try simp only [put_pack]
   refine sk 22 rfl (by kernel_rfl) (fun _ _ _ h=>h) (by assumption) ?_
   try simp only [put_pack]
   refine sk 23 rfl (by kernel_rfl) (fun _ _ _ h=>h) (by assumption) ?_
   try simp only [put_pack]
   refine sk 24 rfl (by kernel_rfl) (fun _ _ _ h=>h) (by assumption) ?_
   try simp only [put_pack]
   refine sk 25 rfl (by kernel_rfl) (fun _ _ _ h=>h) (by assumption) ?_
   try simp only [put_pack]
   refine sk 26 rfl (by kernel_rfl) (fun _ _ _ h=>h) (by assumption) ?_
   try simp only [put_pack]
   refine sk 27 rfl (by kernel_rfl) (fun _ _ _ h=>h) (by assumption) ?_
   try simp only [put_pack]
   refine tk 28 (v:=?_) rfl (by kernel_rfl) (fun _ _ _ h=>h) (by assumption) ?_ ?_
   rotate_left
   · (intro w hSw;(try dsimp only at hSw);go_simp;try with_reducible rfl)
   try simp only [put_pack]
   refine tk 29 (v:=?_) rfl (by kernel_rfl) (fun _ _ _ h=>h) (by assumption) ?_ ?_
   rotate_left
   · (intro w hSw;(try dsimp only at hSw);go_simp;try with_reducible rfl)
   try simp only [put_pack]
   refine wpAnyH_done (by kernel_rfl) ?_ _
   go_simp
   go_wp2_with fail
   go_ret
   exact⟨false,rfl,hXW.trans hX,fun h=>nomatch h⟩
set_option maxRecDepth 100000 in
set_option maxHeartbeats 4000000 in
theorem fin2_r (base loc n wr rd top C D:Int)(w:World)(hb:0<=base/\base<=32768)(hl:0<=loc/\loc<=32768)(hn:1<=n/\n<=8)(hz:0<=C/\C<=6272/\0<=D/\D<=7072)
  (hC:∀ w,Calls Tryz.prog 138 #[.agg #[.int .i64 2,.int .i64 base,.int .i64 loc,.int .i64 n,.int .i64 wr,.int .i64 rd,.int .i64 top]] w fun e w'=>e=.returned (.int .i64 C)/\Ext w w')
  (hL:∀ w,Calls Tryz.prog 139 #[.agg #[.int .i64 2,.int .i64 base,.int .i64 loc,.int .i64 n,.int .i64 wr,.int .i64 rd,.int .i64 top]] w fun e w'=>e=.returned (.int .i64 D)/\Ext w w') :
  Calls Tryz.prog 136 #[.agg #[.int .i64 2,.int .i64 base,.int .i64 loc,.int .i64 n,.int .i64 wr,.int .i64 rd,.int .i64 top]] w (BoolPost w (thrB n wr true=true/\thrB n rd false=true/\True/\1<=top/\top<=1/\base+C<=32768/\loc+D<=32768)):=by
 have d1:decide (base<0)=false:=by simpa using hb.1
 have d2:decide (loc<0)=false:=by simpa using hl.1
 have d3:decide (n<1)=false:=by simpa using hn.1
 have d4:decide (8<n)=false:=by simpa using hn.2
 have d5:decide (32768<base)=false:=by simpa using hb.2
 have d6:decide (32768<loc)=false:=by simpa using hl.2
 have hT:=fun w=>thread_b n wr true w
 have hT2:=fun w=>thread_b n rd false w
 have hX:=Ext.refl w
 have b1:=Blk.new w (.cells #[.int .i64 2,.int .i64 base,.int .i64 loc,.int .i64 n,.int .i64 wr,.int .i64 rd,.int .i64 top] 59)
 replace hX:=hX.alloc (.cells #[.int .i64 2,.int .i64 base,.int .i64 loc,.int .i64 n,.int .i64 wr,.int .i64 rd,.int .i64 top] 59)
 have c_b1:=b1.cells
 cases t1:thrB n wr true
 · rw [t1] at hT
   go_enter Tryz.func136,Tryz.ntmps136
   go_wp2_with fail
   refine (hT _).mono ?_
   rintro e w' ⟨rfl,rfl⟩
   go_wp2_with fail
   go_ret
   exact⟨false,rfl,hX,fun h=>nomatch h⟩
 rw [t1] at hT
 cases t2:thrB n rd false
 · rw [t2] at hT2
   go_enter Tryz.func136,Tryz.ntmps136
   go_wp2_with fail
   refine (hT _).mono ?_
   rintro e w' ⟨rfl,rfl⟩
   go_wp2_with fail
   refine (hT2 _).mono ?_
   rintro e w' ⟨rfl,rfl⟩
   go_wp2_with fail
   go_ret
   exact⟨false,rfl,hX,fun h=>nomatch h⟩
 rw [t2] at hT2
 have h1w:=IntWalk.i64_in (base+C) (by omega)
 have h2w:=IntWalk.i64_in (loc+D) (by omega)
 have hf:∀ b:Bool,(b=true->1<=top/\top<=1/\base+C<=32768/\loc+D<=32768)->(b=true->true=true/\true=true/\True/\1<=top/\top<=1/\base+C<=32768/\loc+D<=32768):=fun b h hb=>⟨rfl,rfl,trivial,h hb⟩
 have hfh:=Lib.hid hf
 clear hf
 go_enter Tryz.func136,Tryz.ntmps136
 go_wp2_with fail
 refine (hT _).mono ?_
 rintro e w' ⟨rfl,rfl⟩
 go_wp2_with fail
 refine (hT2 _).mono ?_
 rintro e w' ⟨rfl,rfl⟩
 clear hT hT2 t1 t2
 go_wp2_with fail
 have k1:=b1.alloc (.cells #[.int .i64 0,.int .i64 1099511627776,.int .i64 1,.int .i64 255,.int .i64 1,.int .i64 1099511627776,.int .i64 1048576,.int .i64 255] 3)
 have k2:=Blk.new (w.alloc (.cells #[.int .i64 2,.int .i64 base,.int .i64 loc,.int .i64 n,.int .i64 wr,.int .i64 rd,.int .i64 top] 59)) (.cells #[.int .i64 0,.int .i64 1099511627776,.int .i64 1,.int .i64 255,.int .i64 1,.int .i64 1099511627776,.int .i64 1048576,.int .i64 255] 3)
 have hXW:=hX.alloc (.cells #[.int .i64 0,.int .i64 1099511627776,.int .i64 1,.int .i64 255,.int .i64 1,.int .i64 1099511627776,.int .i64 1048576,.int .i64 255] 3)
 simp only [World.size_alloc] at k2
 clear b1 c_b1 hX
 generalize World.alloc (World.alloc _ _) _=W at *
 have hX:=(Ext.refl W).drew
 have hS:∀ w',Ext W w'->(∀ i,w'.cell? ⟨w.heap.size,i,none⟩=(#[.int .i64 2,.int .i64 base,.int .i64 loc,.int .i64 n,.int .i64 wr,.int .i64 rd,.int .i64 top]:Array Value)[i]?)/\(∀ i,w'.cell? ⟨w.heap.size+1,i,none⟩=(#[.int .i64 0,.int .i64 1099511627776,.int .i64 1,.int .i64 255,.int .i64 1,.int .i64 1099511627776,.int .i64 1048576,.int .i64 255]:Array Value)[i]?):=fun w' hx=>⟨(k1.ext hx).cells,(k2.ext hx).cells⟩
 by_cases e7:1<=top
 · have d7:decide (1<=top)=true:=by simpa using e7
   by_cases e8:top<=1
   · have d8:decide (top<=1)=true:=by simpa using e8
     by_cases hc:base+C<=32768
     · have d9:decide (base+C<=32768)=true:=by simpa using hc
       go_region_held2 (fun w'=>(∀ i,w'.cell? ⟨w.heap.size,i,none⟩=(#[.int .i64 2,.int .i64 base,.int .i64 loc,.int .i64 n,.int .i64 wr,.int .i64 rd,.int .i64 top]:Array Value)[i]?)/\(∀ i,w'.cell? ⟨w.heap.size+1,i,none⟩=(#[.int .i64 0,.int .i64 1099511627776,.int .i64 1,.int .i64 255,.int .i64 1,.int .i64 1099511627776,.int .i64 1048576,.int .i64 255]:Array Value)[i]?)) (exact hS _ hX)
       (first
          | (go_at_call 138
             refine (hC _).mono ?_
             rintro e w2 ⟨rfl,hx⟩
             replace hX:=hX.trans hx
             clear hx)
          | (go_at_call 139
             refine (hL _).mono ?_
             rintro e w2 ⟨rfl,hx⟩
             replace hX:=hX.trans hx
             clear hx))
       go_wp2_with fail
       go_ret
       exact⟨_,rfl,hXW.trans hX,hfh.out _ fun h=>⟨e7,e8,hc,by simpa using h⟩⟩
     · have d9:decide (base+C<=32768)=false:=by simpa using hc
       refine wp_region_held_drew (S:=fun w'=>(∀ i,w'.cell? ⟨w.heap.size,i,none⟩=(#[.int .i64 2,.int .i64 base,.int .i64 loc,.int .i64 n,.int .i64 wr,.int .i64 rd,.int .i64 top]:Array Value)[i]?)/\(∀ i,w'.cell? ⟨w.heap.size+1,i,none⟩=(#[.int .i64 0,.int .i64 1099511627776,.int .i64 1,.int .i64 255,.int .i64 1,.int .i64 1099511627776,.int .i64 1048576,.int .i64 255]:Array Value)[i]?)) rfl (hS _ hX) (fun hHeld=>?_)
       refine tkb 0 ?_
       iterate 17
        refine tkn (v:=?_) rfl (by kernel_rfl) (fun _ _ _ h=>h) (by assumption) ?_ ?_
        rotate_left
        · (intro w hSw;(try dsimp only at hSw);go_simp;try with_reducible rfl)
        try simp only [put_pack]
       refine tke ?_
       refine wpAnyH_ready (rs:=[17]) (by kernel_rfl) (by simp) ?_
       refine AllReadyH.cons rfl (fun K hKK=>?_) (AllReadyH.nil)
       go_simp
       refine (hC _).mono ?_
       rintro e w2 ⟨rfl,hx⟩
       replace hX:=hX.trans hx
       clear hx
       refine hKK.out _ _ (hS _ hX) (fun hHeld=>?_)
       clear hKK K
       try dsimp only
       refine tkb 18 ?_
       iterate 4
        refine tkn (v:=?_) rfl (by kernel_rfl) (fun _ _ _ h=>h) (by assumption) ?_ ?_
        rotate_left
        · (intro w hSw;(try dsimp only at hSw);go_simp;try with_reducible rfl)
        try simp only [put_pack]
       refine tke ?_
       refine sk 22 rfl (by kernel_rfl) (fun _ _ _ h=>h) (by assumption) ?_
       try simp only [put_pack]
       refine sk 23 rfl (by kernel_rfl) (fun _ _ _ h=>h) (by assumption) ?_
       try simp only [put_pack]
       refine sk 24 rfl (by kernel_rfl) (fun _ _ _ h=>h) (by assumption) ?_
       try simp only [put_pack]
       refine sk 25 rfl (by kernel_rfl) (fun _ _ _ h=>h) (by assumption) ?_
       try simp only [put_pack]
       refine sk 26 rfl (by kernel_rfl) (fun _ _ _ h=>h) (by assumption) ?_
       try simp only [put_pack]
       refine sk 27 rfl (by kernel_rfl) (fun _ _ _ h=>h) (by assumption) ?_
       try simp only [put_pack]
       refine tk 28 (v:=?_) rfl (by kernel_rfl) (fun _ _ _ h=>h) (by assumption) ?_ ?_
       rotate_left
       · (intro w hSw;(try dsimp only at hSw);go_simp;try with_reducible rfl)
       try simp only [put_pack]
       refine tk 29 (v:=?_) rfl (by kernel_rfl) (fun _ _ _ h=>h) (by assumption) ?_ ?_
       rotate_left
       · (intro w hSw;(try dsimp only at hSw);go_simp;try with_reducible rfl)
       try simp only [put_pack]
       refine wpAnyH_done (by kernel_rfl) ?_ _
       go_simp
       go_wp2_with fail
       go_ret
       exact⟨false,rfl,hXW.trans hX,fun h=>nomatch h⟩
   · have d8:decide (top<=1)=false:=by simpa using e8
     refine wp_region_held_drew (S:=fun w'=>(∀ i,w'.cell? ⟨w.heap.size,i,none⟩=(#[.int .i64 2,.int .i64 base,.int .i64 loc,.int .i64 n,.int .i64 wr,.int .i64 rd,.int .i64 top]:Array Value)[i]?)/\(∀ i,w'.cell? ⟨w.heap.size+1,i,none⟩=(#[.int .i64 0,.int .i64 1099511627776,.int .i64 1,.int .i64 255,.int .i64 1,.int .i64 1099511627776,.int .i64 1048576,.int .i64 255]:Array Value)[i]?)) rfl (hS _ hX) (fun hHeld=>?_)
     refine tkb 0 ?_
     iterate 14
      refine tkn (v:=?_) rfl (by kernel_rfl) (fun _ _ _ h=>h) (by assumption) ?_ ?_
      rotate_left
      · (intro w hSw;(try dsimp only at hSw);go_simp;try with_reducible rfl)
      try simp only [put_pack]
     refine tke ?_
     refine sk 14 rfl (by kernel_rfl) (fun _ _ _ h=>h) (by assumption) ?_
     try simp only [put_pack]
     refine sk 15 rfl (by kernel_rfl) (fun _ _ _ h=>h) (by assumption) ?_
     try simp only [put_pack]
     refine sk 16 rfl (by kernel_rfl) (fun _ _ _ h=>h) (by assumption) ?_
     try simp only [put_pack]
     refine sk 17 rfl (by kernel_rfl) (fun _ _ _ h=>h) (by assumption) ?_
     try simp only [put_pack]
     refine sk 18 rfl (by kernel_rfl) (fun _ _ _ h=>h) (by assumption) ?_
     try simp only [put_pack]
     refine sk 19 rfl (by kernel_rfl) (fun _ _ _ h=>h) (by assumption) ?_
     try simp only [put_pack]
     refine tk 20 (v:=?_) rfl (by kernel_rfl) (fun _ _ _ h=>h) (by assumption) ?_ ?_
     rotate_left
     · (intro w hSw;(try dsimp only at hSw);go_simp;try with_reducible rfl)
     try simp only [put_pack]
     refine tk 21 (v:=?_) rfl (by kernel_rfl) (fun _ _ _ h=>h) (by assumption) ?_ ?_
     rotate_left
     · (intro w hSw;(try dsimp only at hSw);go_simp;try with_reducible rfl)
     try simp only [put_pack]
     refine sk 22 rfl (by kernel_rfl) (fun _ _ _ h=>h) (by assumption) ?_
     try simp only [put_pack]
     refine sk 23 rfl (by kernel_rfl) (fun _ _ _ h=>h) (by assumption) ?_
     try simp only [put_pack]
     refine sk 24 rfl (by kernel_rfl) (fun _ _ _ h=>h) (by assumption) ?_
     try simp only [put_pack]
     refine sk 25 rfl (by kernel_rfl) (fun _ _ _ h=>h) (by assumption) ?_
     try simp only [put_pack]
     refine sk 26 rfl (by kernel_rfl) (fun _ _ _ h=>h) (by assumption) ?_
     try simp only [put_pack]
     refine sk 27 rfl (by kernel_rfl) (fun _ _ _ h=>h) (by assumption) ?_
     try simp only [put_pack]
     refine tk 28 (v:=?_) rfl (by kernel_rfl) (fun _ _ _ h=>h) (by assumption) ?_ ?_
     rotate_left
     · (intro w hSw;(try dsimp only at hSw);go_simp;try with_reducible rfl)
     try simp only [put_pack]
     refine tk 29 (v:=?_) rfl (by kernel_rfl) (fun _ _ _ h=>h) (by assumption) ?_ ?_
     rotate_left
     · (intro w hSw;(try dsimp only at hSw);go_simp;try with_reducible rfl)
     try simp only [put_pack]
     refine wpAnyH_done (by kernel_rfl) ?_ _
     go_simp
     go_wp2_with fail
     go_ret
     exact⟨false,rfl,hXW.trans hX,fun h=>nomatch h⟩
 · have d7:decide (1<=top)=false:=by simpa using e7
   refine wp_region_held_drew (S:=fun w'=>(∀ i,w'.cell? ⟨w.heap.size,i,none⟩=(#[.int .i64 2,.int .i64 base,.int .i64 loc,.int .i64 n,.int .i64 wr,.int .i64 rd,.int .i64 top]:Array Value)[i]?)/\(∀ i,w'.cell? ⟨w.heap.size+1,i,none⟩=(#[.int .i64 0,.int .i64 1099511627776,.int .i64 1,.int .i64 255,.int .i64 1,.int .i64 1099511627776,.int .i64 1048576,.int .i64 255]:Array Value)[i]?)) rfl (hS _ hX) (fun hHeld=>?_)
   refine tkb 0 ?_
   iterate 4
    refine tkn (v:=?_) rfl (by kernel_rfl) (fun _ _ _ h=>h) (by assumption) ?_ ?_
    rotate_left
    · (intro w hSw;(try dsimp only at hSw);go_simp;try with_reducible rfl)
    try simp only [put_pack]
   refine tke ?_
   refine sk 4 rfl (by kernel_rfl) (fun _ _ _ h=>h) (by assumption) ?_
   try simp only [put_pack]
   refine sk 5 rfl (by kernel_rfl) (fun _ _ _ h=>h) (by assumption) ?_
   try simp only [put_pack]
   refine sk 6 rfl (by kernel_rfl) (fun _ _ _ h=>h) (by assumption) ?_
   try simp only [put_pack]
   refine sk 7 rfl (by kernel_rfl) (fun _ _ _ h=>h) (by assumption) ?_
   try simp only [put_pack]
   refine sk 8 rfl (by kernel_rfl) (fun _ _ _ h=>h) (by assumption) ?_
   try simp only [put_pack]
   refine sk 9 rfl (by kernel_rfl) (fun _ _ _ h=>h) (by assumption) ?_
   try simp only [put_pack]
   refine sk 10 rfl (by kernel_rfl) (fun _ _ _ h=>h) (by assumption) ?_
   try simp only [put_pack]
   refine sk 11 rfl (by kernel_rfl) (fun _ _ _ h=>h) (by assumption) ?_
   try simp only [put_pack]
   refine tk 12 (v:=?_) rfl (by kernel_rfl) (fun _ _ _ h=>h) (by assumption) ?_ ?_
   rotate_left
   · (intro w hSw;(try dsimp only at hSw);go_simp;try with_reducible rfl)
   try simp only [put_pack]
   refine tk 13 (v:=?_) rfl (by kernel_rfl) (fun _ _ _ h=>h) (by assumption) ?_ ?_
   rotate_left
   · (intro w hSw;(try dsimp only at hSw);go_simp;try with_reducible rfl)
   try simp only [put_pack]
   refine sk 14 rfl (by kernel_rfl) (fun _ _ _ h=>h) (by assumption) ?_
   try simp only [put_pack]
   refine sk 15 rfl (by kernel_rfl) (fun _ _ _ h=>h) (by assumption) ?_
   try simp only [put_pack]
   refine sk 16 rfl (by kernel_rfl) (fun _ _ _ h=>h) (by assumption) ?_
   try simp only [put_pack]
   refine sk 17 rfl (by kernel_rfl) (fun _ _ _ h=>h) (by assumption) ?_
   try simp only [put_pack]
   refine sk 18 rfl (by kernel_rfl) (fun _ _ _ h=>h) (by assumption) ?_
   try simp only [put_pack]
   refine sk 19 rfl (by kernel_rfl) (fun _ _ _ h=>h) (by assumption) ?_
   try simp only [put_pack]
   refine tk 20 (v:=?_) rfl (by kernel_rfl) (fun _ _ _ h=>h) (by assumption) ?_ ?_
   rotate_left
   · (intro w hSw;(try dsimp only at hSw);go_simp;try with_reducible rfl)
   try simp only [put_pack]
   refine tk 21 (v:=?_) rfl (by kernel_rfl) (fun _ _ _ h=>h) (by assumption) ?_ ?_
   rotate_left
   · (intro w hSw;(try dsimp only at hSw);go_simp;try with_reducible rfl)
   try simp only [put_pack]
   refine sk 22 rfl (by kernel_rfl) (fun _ _ _ h=>h) (by assumption) ?_
   try simp only [put_pack]
   refine sk 23 rfl (by kernel_rfl) (fun _ _ _ h=>h) (by assumption) ?_
   try simp only [put_pack]
   refine sk 24 rfl (by kernel_rfl) (fun _ _ _ h=>h) (by assumption) ?_
   try simp only [put_pack]
   refine sk 25 rfl (by kernel_rfl) (fun _ _ _ h=>h) (by assumption) ?_
   try simp only [put_pack]
   refine sk 26 rfl (by kernel_rfl) (fun _ _ _ h=>h) (by assumption) ?_
   try simp only [put_pack]
   refine sk 27 rfl (by kernel_rfl) (fun _ _ _ h=>h) (by assumption) ?_
   try simp only [put_pack]
   refine tk 28 (v:=?_) rfl (by kernel_rfl) (fun _ _ _ h=>h) (by assumption) ?_ ?_
   rotate_left
   · (intro w hSw;(try dsimp only at hSw);go_simp;try with_reducible rfl)
   try simp only [put_pack]
   refine tk 29 (v:=?_) rfl (by kernel_rfl) (fun _ _ _ h=>h) (by assumption) ?_ ?_
   rotate_left
   · (intro w hSw;(try dsimp only at hSw);go_simp;try with_reducible rfl)
   try simp only [put_pack]
   refine wpAnyH_done (by kernel_rfl) ?_ _
   go_simp
   go_wp2_with fail
   go_ret
   exact⟨false,rfl,hXW.trans hX,fun h=>nomatch h⟩
set_option maxRecDepth 100000 in
set_option maxHeartbeats 4000000 in
theorem fin3_r (base loc n wr rd top C D:Int)(w:World)(hb:0<=base/\base<=32768)(hl:0<=loc/\loc<=32768)(hn:1<=n/\n<=8)(hz:0<=C/\C<=6272/\0<=D/\D<=7072)
  (hC:∀ w,Calls Tryz.prog 138 #[.agg #[.int .i64 3,.int .i64 base,.int .i64 loc,.int .i64 n,.int .i64 wr,.int .i64 rd,.int .i64 top]] w fun e w'=>e=.returned (.int .i64 C)/\Ext w w')
  (hL:∀ w,Calls Tryz.prog 139 #[.agg #[.int .i64 3,.int .i64 base,.int .i64 loc,.int .i64 n,.int .i64 wr,.int .i64 rd,.int .i64 top]] w fun e w'=>e=.returned (.int .i64 D)/\Ext w w') :
  Calls Tryz.prog 136 #[.agg #[.int .i64 3,.int .i64 base,.int .i64 loc,.int .i64 n,.int .i64 wr,.int .i64 rd,.int .i64 top]] w (BoolPost w (thrB n wr true=true/\thrB n rd false=true/\True/\1<=top/\top<=255/\base+C<=32768/\loc+D<=32768)):=by
 have d1:decide (base<0)=false:=by simpa using hb.1
 have d2:decide (loc<0)=false:=by simpa using hl.1
 have d3:decide (n<1)=false:=by simpa using hn.1
 have d4:decide (8<n)=false:=by simpa using hn.2
 have d5:decide (32768<base)=false:=by simpa using hb.2
 have d6:decide (32768<loc)=false:=by simpa using hl.2
 have hT:=fun w=>thread_b n wr true w
 have hT2:=fun w=>thread_b n rd false w
 have hX:=Ext.refl w
 have b1:=Blk.new w (.cells #[.int .i64 3,.int .i64 base,.int .i64 loc,.int .i64 n,.int .i64 wr,.int .i64 rd,.int .i64 top] 59)
 replace hX:=hX.alloc (.cells #[.int .i64 3,.int .i64 base,.int .i64 loc,.int .i64 n,.int .i64 wr,.int .i64 rd,.int .i64 top] 59)
 have c_b1:=b1.cells
 cases t1:thrB n wr true
 · rw [t1] at hT
   go_enter Tryz.func136,Tryz.ntmps136
   go_wp2_with fail
   refine (hT _).mono ?_
   rintro e w' ⟨rfl,rfl⟩
   go_wp2_with fail
   go_ret
   exact⟨false,rfl,hX,fun h=>nomatch h⟩
 rw [t1] at hT
 cases t2:thrB n rd false
 · rw [t2] at hT2
   go_enter Tryz.func136,Tryz.ntmps136
   go_wp2_with fail
   refine (hT _).mono ?_
   rintro e w' ⟨rfl,rfl⟩
   go_wp2_with fail
   refine (hT2 _).mono ?_
   rintro e w' ⟨rfl,rfl⟩
   go_wp2_with fail
   go_ret
   exact⟨false,rfl,hX,fun h=>nomatch h⟩
 rw [t2] at hT2
 have h1w:=IntWalk.i64_in (base+C) (by omega)
 have h2w:=IntWalk.i64_in (loc+D) (by omega)
 have hf:∀ b:Bool,(b=true->1<=top/\top<=255/\base+C<=32768/\loc+D<=32768)->(b=true->true=true/\true=true/\True/\1<=top/\top<=255/\base+C<=32768/\loc+D<=32768):=fun b h hb=>⟨rfl,rfl,trivial,h hb⟩
 have hfh:=Lib.hid hf
 clear hf
 go_enter Tryz.func136,Tryz.ntmps136
 go_wp2_with fail
 refine (hT _).mono ?_
 rintro e w' ⟨rfl,rfl⟩
 go_wp2_with fail
 refine (hT2 _).mono ?_
 rintro e w' ⟨rfl,rfl⟩
 clear hT hT2 t1 t2
 go_wp2_with fail
 have k1:=b1.alloc (.cells #[.int .i64 0,.int .i64 1099511627776,.int .i64 1,.int .i64 255,.int .i64 1,.int .i64 1099511627776,.int .i64 1048576,.int .i64 255] 3)
 have k2:=Blk.new (w.alloc (.cells #[.int .i64 3,.int .i64 base,.int .i64 loc,.int .i64 n,.int .i64 wr,.int .i64 rd,.int .i64 top] 59)) (.cells #[.int .i64 0,.int .i64 1099511627776,.int .i64 1,.int .i64 255,.int .i64 1,.int .i64 1099511627776,.int .i64 1048576,.int .i64 255] 3)
 have hXW:=hX.alloc (.cells #[.int .i64 0,.int .i64 1099511627776,.int .i64 1,.int .i64 255,.int .i64 1,.int .i64 1099511627776,.int .i64 1048576,.int .i64 255] 3)
 simp only [World.size_alloc] at k2
 clear b1 c_b1 hX
 generalize World.alloc (World.alloc _ _) _=W at *
 have hX:=(Ext.refl W).drew
 have hS:∀ w',Ext W w'->(∀ i,w'.cell? ⟨w.heap.size,i,none⟩=(#[.int .i64 3,.int .i64 base,.int .i64 loc,.int .i64 n,.int .i64 wr,.int .i64 rd,.int .i64 top]:Array Value)[i]?)/\(∀ i,w'.cell? ⟨w.heap.size+1,i,none⟩=(#[.int .i64 0,.int .i64 1099511627776,.int .i64 1,.int .i64 255,.int .i64 1,.int .i64 1099511627776,.int .i64 1048576,.int .i64 255]:Array Value)[i]?):=fun w' hx=>⟨(k1.ext hx).cells,(k2.ext hx).cells⟩
 by_cases e7:1<=top
 · have d7:decide (1<=top)=true:=by simpa using e7
   by_cases e8:top<=255
   · have d8:decide (top<=255)=true:=by simpa using e8
     by_cases hc:base+C<=32768
     · have d9:decide (base+C<=32768)=true:=by simpa using hc
       go_region_held2 (fun w'=>(∀ i,w'.cell? ⟨w.heap.size,i,none⟩=(#[.int .i64 3,.int .i64 base,.int .i64 loc,.int .i64 n,.int .i64 wr,.int .i64 rd,.int .i64 top]:Array Value)[i]?)/\(∀ i,w'.cell? ⟨w.heap.size+1,i,none⟩=(#[.int .i64 0,.int .i64 1099511627776,.int .i64 1,.int .i64 255,.int .i64 1,.int .i64 1099511627776,.int .i64 1048576,.int .i64 255]:Array Value)[i]?)) (exact hS _ hX)
       (first
          | (go_at_call 138
             refine (hC _).mono ?_
             rintro e w2 ⟨rfl,hx⟩
             replace hX:=hX.trans hx
             clear hx)
          | (go_at_call 139
             refine (hL _).mono ?_
             rintro e w2 ⟨rfl,hx⟩
             replace hX:=hX.trans hx
             clear hx))
       go_wp2_with fail
       go_ret
       exact⟨_,rfl,hXW.trans hX,hfh.out _ fun h=>⟨e7,e8,hc,by simpa using h⟩⟩
     · have d9:decide (base+C<=32768)=false:=by simpa using hc
       refine wp_region_held_drew (S:=fun w'=>(∀ i,w'.cell? ⟨w.heap.size,i,none⟩=(#[.int .i64 3,.int .i64 base,.int .i64 loc,.int .i64 n,.int .i64 wr,.int .i64 rd,.int .i64 top]:Array Value)[i]?)/\(∀ i,w'.cell? ⟨w.heap.size+1,i,none⟩=(#[.int .i64 0,.int .i64 1099511627776,.int .i64 1,.int .i64 255,.int .i64 1,.int .i64 1099511627776,.int .i64 1048576,.int .i64 255]:Array Value)[i]?)) rfl (hS _ hX) (fun hHeld=>?_)
       refine tkb 0 ?_
       iterate 17
        refine tkn (v:=?_) rfl (by kernel_rfl) (fun _ _ _ h=>h) (by assumption) ?_ ?_
        rotate_left
        · (intro w hSw;(try dsimp only at hSw);go_simp;try with_reducible rfl)
        try simp only [put_pack]
       refine tke ?_
       refine wpAnyH_ready (rs:=[17]) (by kernel_rfl) (by simp) ?_
       refine AllReadyH.cons rfl (fun K hKK=>?_) (AllReadyH.nil)
       go_simp
       refine (hC _).mono ?_
       rintro e w2 ⟨rfl,hx⟩
       replace hX:=hX.trans hx
       clear hx
       refine hKK.out _ _ (hS _ hX) (fun hHeld=>?_)
       clear hKK K
       try dsimp only
       refine tkb 18 ?_
       iterate 4
        refine tkn (v:=?_) rfl (by kernel_rfl) (fun _ _ _ h=>h) (by assumption) ?_ ?_
        rotate_left
        · (intro w hSw;(try dsimp only at hSw);go_simp;try with_reducible rfl)
        try simp only [put_pack]
       refine tke ?_
       refine sk 22 rfl (by kernel_rfl) (fun _ _ _ h=>h) (by assumption) ?_
       try simp only [put_pack]
       refine sk 23 rfl (by kernel_rfl) (fun _ _ _ h=>h) (by assumption) ?_
       try simp only [put_pack]
       refine sk 24 rfl (by kernel_rfl) (fun _ _ _ h=>h) (by assumption) ?_
       try simp only [put_pack]
       refine sk 25 rfl (by kernel_rfl) (fun _ _ _ h=>h) (by assumption) ?_
       try simp only [put_pack]
       refine sk 26 rfl (by kernel_rfl) (fun _ _ _ h=>h) (by assumption) ?_
       try simp only [put_pack]
       refine sk 27 rfl (by kernel_rfl) (fun _ _ _ h=>h) (by assumption) ?_
       try simp only [put_pack]
       refine tk 28 (v:=?_) rfl (by kernel_rfl) (fun _ _ _ h=>h) (by assumption) ?_ ?_
       rotate_left
       · (intro w hSw;(try dsimp only at hSw);go_simp;try with_reducible rfl)
       try simp only [put_pack]
       refine tk 29 (v:=?_) rfl (by kernel_rfl) (fun _ _ _ h=>h) (by assumption) ?_ ?_
       rotate_left
       · (intro w hSw;(try dsimp only at hSw);go_simp;try with_reducible rfl)
       try simp only [put_pack]
       refine wpAnyH_done (by kernel_rfl) ?_ _
       go_simp
       go_wp2_with fail
       go_ret
       exact⟨false,rfl,hXW.trans hX,fun h=>nomatch h⟩
   · have d8:decide (top<=255)=false:=by simpa using e8
     refine wp_region_held_drew (S:=fun w'=>(∀ i,w'.cell? ⟨w.heap.size,i,none⟩=(#[.int .i64 3,.int .i64 base,.int .i64 loc,.int .i64 n,.int .i64 wr,.int .i64 rd,.int .i64 top]:Array Value)[i]?)/\(∀ i,w'.cell? ⟨w.heap.size+1,i,none⟩=(#[.int .i64 0,.int .i64 1099511627776,.int .i64 1,.int .i64 255,.int .i64 1,.int .i64 1099511627776,.int .i64 1048576,.int .i64 255]:Array Value)[i]?)) rfl (hS _ hX) (fun hHeld=>?_)
     refine tkb 0 ?_
     iterate 14
      refine tkn (v:=?_) rfl (by kernel_rfl) (fun _ _ _ h=>h) (by assumption) ?_ ?_
      rotate_left
      · (intro w hSw;(try dsimp only at hSw);go_simp;try with_reducible rfl)
      try simp only [put_pack]
     refine tke ?_
     refine sk 14 rfl (by kernel_rfl) (fun _ _ _ h=>h) (by assumption) ?_
     try simp only [put_pack]
     refine sk 15 rfl (by kernel_rfl) (fun _ _ _ h=>h) (by assumption) ?_
     try simp only [put_pack]
     refine sk 16 rfl (by kernel_rfl) (fun _ _ _ h=>h) (by assumption) ?_
     try simp only [put_pack]
     refine sk 17 rfl (by kernel_rfl) (fun _ _ _ h=>h) (by assumption) ?_
     try simp only [put_pack]
     refine sk 18 rfl (by kernel_rfl) (fun _ _ _ h=>h) (by assumption) ?_
     try simp only [put_pack]
     refine sk 19 rfl (by kernel_rfl) (fun _ _ _ h=>h) (by assumption) ?_
     try simp only [put_pack]
     refine tk 20 (v:=?_) rfl (by kernel_rfl) (fun _ _ _ h=>h) (by assumption) ?_ ?_
     rotate_left
     · (intro w hSw;(try dsimp only at hSw);go_simp;try with_reducible rfl)
     try simp only [put_pack]
     refine tk 21 (v:=?_) rfl (by kernel_rfl) (fun _ _ _ h=>h) (by assumption) ?_ ?_
     rotate_left
     · (intro w hSw;(try dsimp only at hSw);go_simp;try with_reducible rfl)
     try simp only [put_pack]
     refine sk 22 rfl (by kernel_rfl) (fun _ _ _ h=>h) (by assumption) ?_
     try simp only [put_pack]
     refine sk 23 rfl (by kernel_rfl) (fun _ _ _ h=>h) (by assumption) ?_
     try simp only [put_pack]
     refine sk 24 rfl (by kernel_rfl) (fun _ _ _ h=>h) (by assumption) ?_
     try simp only [put_pack]
     refine sk 25 rfl (by kernel_rfl) (fun _ _ _ h=>h) (by assumption) ?_
     try simp only [put_pack]
     refine sk 26 rfl (by kernel_rfl) (fun _ _ _ h=>h) (by assumption) ?_
     try simp only [put_pack]
     refine sk 27 rfl (by kernel_rfl) (fun _ _ _ h=>h) (by assumption) ?_
     try simp only [put_pack]
     refine tk 28 (v:=?_) rfl (by kernel_rfl) (fun _ _ _ h=>h) (by assumption) ?_ ?_
     rotate_left
     · (intro w hSw;(try dsimp only at hSw);go_simp;try with_reducible rfl)
     try simp only [put_pack]
     refine tk 29 (v:=?_) rfl (by kernel_rfl) (fun _ _ _ h=>h) (by assumption) ?_ ?_
     rotate_left
     · (intro w hSw;(try dsimp only at hSw);go_simp;try with_reducible rfl)
     try simp only [put_pack]
     refine wpAnyH_done (by kernel_rfl) ?_ _
     go_simp
     go_wp2_with fail
     go_ret
     exact⟨false,rfl,hXW.trans hX,fun h=>nomatch h⟩
 · have d7:decide (1<=top)=false:=by simpa using e7
   refine wp_region_held_drew (S:=fun w'=>(∀ i,w'.cell? ⟨w.heap.size,i,none⟩=(#[.int .i64 3,.int .i64 base,.int .i64 loc,.int .i64 n,.int .i64 wr,.int .i64 rd,.int .i64 top]:Array Value)[i]?)/\(∀ i,w'.cell? ⟨w.heap.size+1,i,none⟩=(#[.int .i64 0,.int .i64 1099511627776,.int .i64 1,.int .i64 255,.int .i64 1,.int .i64 1099511627776,.int .i64 1048576,.int .i64 255]:Array Value)[i]?)) rfl (hS _ hX) (fun hHeld=>?_)
   refine tkb 0 ?_
   iterate 4
    refine tkn (v:=?_) rfl (by kernel_rfl) (fun _ _ _ h=>h) (by assumption) ?_ ?_
    rotate_left
    · (intro w hSw;(try dsimp only at hSw);go_simp;try with_reducible rfl)
    try simp only [put_pack]
   refine tke ?_
   refine sk 4 rfl (by kernel_rfl) (fun _ _ _ h=>h) (by assumption) ?_
   try simp only [put_pack]
   refine sk 5 rfl (by kernel_rfl) (fun _ _ _ h=>h) (by assumption) ?_
   try simp only [put_pack]
   refine sk 6 rfl (by kernel_rfl) (fun _ _ _ h=>h) (by assumption) ?_
   try simp only [put_pack]
   refine sk 7 rfl (by kernel_rfl) (fun _ _ _ h=>h) (by assumption) ?_
   try simp only [put_pack]
   refine sk 8 rfl (by kernel_rfl) (fun _ _ _ h=>h) (by assumption) ?_
   try simp only [put_pack]
   refine sk 9 rfl (by kernel_rfl) (fun _ _ _ h=>h) (by assumption) ?_
   try simp only [put_pack]
   refine sk 10 rfl (by kernel_rfl) (fun _ _ _ h=>h) (by assumption) ?_
   try simp only [put_pack]
   refine sk 11 rfl (by kernel_rfl) (fun _ _ _ h=>h) (by assumption) ?_
   try simp only [put_pack]
   refine tk 12 (v:=?_) rfl (by kernel_rfl) (fun _ _ _ h=>h) (by assumption) ?_ ?_
   rotate_left
   · (intro w hSw;(try dsimp only at hSw);go_simp;try with_reducible rfl)
   try simp only [put_pack]
   refine tk 13 (v:=?_) rfl (by kernel_rfl) (fun _ _ _ h=>h) (by assumption) ?_ ?_
   rotate_left
   · (intro w hSw;(try dsimp only at hSw);go_simp;try with_reducible rfl)
   try simp only [put_pack]
   refine sk 14 rfl (by kernel_rfl) (fun _ _ _ h=>h) (by assumption) ?_
   try simp only [put_pack]
   refine sk 15 rfl (by kernel_rfl) (fun _ _ _ h=>h) (by assumption) ?_
   try simp only [put_pack]
   refine sk 16 rfl (by kernel_rfl) (fun _ _ _ h=>h) (by assumption) ?_
   try simp only [put_pack]
   refine sk 17 rfl (by kernel_rfl) (fun _ _ _ h=>h) (by assumption) ?_
   try simp only [put_pack]
   refine sk 18 rfl (by kernel_rfl) (fun _ _ _ h=>h) (by assumption) ?_
   try simp only [put_pack]
   refine sk 19 rfl (by kernel_rfl) (fun _ _ _ h=>h) (by assumption) ?_
   try simp only [put_pack]
   refine tk 20 (v:=?_) rfl (by kernel_rfl) (fun _ _ _ h=>h) (by assumption) ?_ ?_
   rotate_left
   · (intro w hSw;(try dsimp only at hSw);go_simp;try with_reducible rfl)
   try simp only [put_pack]
   refine tk 21 (v:=?_) rfl (by kernel_rfl) (fun _ _ _ h=>h) (by assumption) ?_ ?_
   rotate_left
   · (intro w hSw;(try dsimp only at hSw);go_simp;try with_reducible rfl)
   try simp only [put_pack]
   refine sk 22 rfl (by kernel_rfl) (fun _ _ _ h=>h) (by assumption) ?_
   try simp only [put_pack]
   refine sk 23 rfl (by kernel_rfl) (fun _ _ _ h=>h) (by assumption) ?_
   try simp only [put_pack]
   refine sk 24 rfl (by kernel_rfl) (fun _ _ _ h=>h) (by assumption) ?_
   try simp only [put_pack]
   refine sk 25 rfl (by kernel_rfl) (fun _ _ _ h=>h) (by assumption) ?_
   try simp only [put_pack]
   refine sk 26 rfl (by kernel_rfl) (fun _ _ _ h=>h) (by assumption) ?_
   try simp only [put_pack]
   refine sk 27 rfl (by kernel_rfl) (fun _ _ _ h=>h) (by assumption) ?_
   try simp only [put_pack]
   refine tk 28 (v:=?_) rfl (by kernel_rfl) (fun _ _ _ h=>h) (by assumption) ?_ ?_
   rotate_left
   · (intro w hSw;(try dsimp only at hSw);go_simp;try with_reducible rfl)
   try simp only [put_pack]
   refine tk 29 (v:=?_) rfl (by kernel_rfl) (fun _ _ _ h=>h) (by assumption) ?_ ?_
   rotate_left
   · (intro w hSw;(try dsimp only at hSw);go_simp;try with_reducible rfl)
   try simp only [put_pack]
   refine wpAnyH_done (by kernel_rfl) ?_ _
   go_simp
   go_wp2_with fail
   go_ret
   exact⟨false,rfl,hXW.trans hX,fun h=>nomatch h⟩
set_option maxRecDepth 100000 in
set_option maxHeartbeats 4000000 in
theorem fin4_r (base loc n wr rd top C D:Int)(w:World)(hb:0<=base/\base<=32768)(hl:0<=loc/\loc<=32768)(hn:1<=n/\n<=8)(hz:0<=C/\C<=6272/\0<=D/\D<=7072)
  (hC:∀ w,Calls Tryz.prog 138 #[.agg #[.int .i64 4,.int .i64 base,.int .i64 loc,.int .i64 n,.int .i64 wr,.int .i64 rd,.int .i64 top]] w fun e w'=>e=.returned (.int .i64 C)/\Ext w w')
  (hL:∀ w,Calls Tryz.prog 139 #[.agg #[.int .i64 4,.int .i64 base,.int .i64 loc,.int .i64 n,.int .i64 wr,.int .i64 rd,.int .i64 top]] w fun e w'=>e=.returned (.int .i64 D)/\Ext w w') :
  Calls Tryz.prog 136 #[.agg #[.int .i64 4,.int .i64 base,.int .i64 loc,.int .i64 n,.int .i64 wr,.int .i64 rd,.int .i64 top]] w (BoolPost w (thrB n wr true=true/\thrB n rd true=true/\wr≠rd/\1<=top/\top<=1/\base+C<=32768/\loc+D<=32768)):=by
 have d1:decide (base<0)=false:=by simpa using hb.1
 have d2:decide (loc<0)=false:=by simpa using hl.1
 have d3:decide (n<1)=false:=by simpa using hn.1
 have d4:decide (8<n)=false:=by simpa using hn.2
 have d5:decide (32768<base)=false:=by simpa using hb.2
 have d6:decide (32768<loc)=false:=by simpa using hl.2
 have hT:=fun w=>thread_b n wr true w
 have hT2:=fun w=>thread_b n rd true w
 have hX:=Ext.refl w
 have b1:=Blk.new w (.cells #[.int .i64 4,.int .i64 base,.int .i64 loc,.int .i64 n,.int .i64 wr,.int .i64 rd,.int .i64 top] 59)
 replace hX:=hX.alloc (.cells #[.int .i64 4,.int .i64 base,.int .i64 loc,.int .i64 n,.int .i64 wr,.int .i64 rd,.int .i64 top] 59)
 have c_b1:=b1.cells
 cases t1:thrB n wr true
 · rw [t1] at hT
   go_enter Tryz.func136,Tryz.ntmps136
   go_wp2_with fail
   refine (hT _).mono ?_
   rintro e w' ⟨rfl,rfl⟩
   go_wp2_with fail
   go_ret
   exact⟨false,rfl,hX,fun h=>nomatch h⟩
 rw [t1] at hT
 cases t2:thrB n rd true
 · rw [t2] at hT2
   go_enter Tryz.func136,Tryz.ntmps136
   go_wp2_with fail
   refine (hT _).mono ?_
   rintro e w' ⟨rfl,rfl⟩
   go_wp2_with fail
   refine (hT2 _).mono ?_
   rintro e w' ⟨rfl,rfl⟩
   go_wp2_with fail
   go_ret
   exact⟨false,rfl,hX,fun h=>nomatch h⟩
 rw [t2] at hT2
 by_cases t3:wr=rd
 · have t4:(wr==rd)=true:=by rw [beq_iff_eq];exact t3
   clear t3
   go_enter Tryz.func136,Tryz.ntmps136
   go_wp2_with fail
   refine (hT _).mono ?_
   rintro e w' ⟨rfl,rfl⟩
   go_wp2_with fail
   refine (hT2 _).mono ?_
   rintro e w' ⟨rfl,rfl⟩
   go_wp2_with fail
   go_ret
   exact⟨false,rfl,hX,fun h=>nomatch h⟩
 have t4:(wr==rd)=false:=by rw [beq_eq_false_iff_ne];exact t3
 have h1w:=IntWalk.i64_in (base+C) (by omega)
 have h2w:=IntWalk.i64_in (loc+D) (by omega)
 have hf:∀ b:Bool,(b=true->1<=top/\top<=1/\base+C<=32768/\loc+D<=32768)->(b=true->true=true/\true=true/\wr≠rd/\1<=top/\top<=1/\base+C<=32768/\loc+D<=32768):=fun b h hb=>⟨rfl,rfl,t3,h hb⟩
 have hfh:=Lib.hid hf
 clear hf t3
 go_enter Tryz.func136,Tryz.ntmps136
 go_wp2_with fail
 refine (hT _).mono ?_
 rintro e w' ⟨rfl,rfl⟩
 go_wp2_with fail
 refine (hT2 _).mono ?_
 rintro e w' ⟨rfl,rfl⟩
 clear hT hT2 t1 t2
 go_wp2_with fail
 have k1:=b1.alloc (.cells #[.int .i64 0,.int .i64 1099511627776,.int .i64 1,.int .i64 255,.int .i64 1,.int .i64 1099511627776,.int .i64 1048576,.int .i64 255] 3)
 have k2:=Blk.new (w.alloc (.cells #[.int .i64 4,.int .i64 base,.int .i64 loc,.int .i64 n,.int .i64 wr,.int .i64 rd,.int .i64 top] 59)) (.cells #[.int .i64 0,.int .i64 1099511627776,.int .i64 1,.int .i64 255,.int .i64 1,.int .i64 1099511627776,.int .i64 1048576,.int .i64 255] 3)
 have hXW:=hX.alloc (.cells #[.int .i64 0,.int .i64 1099511627776,.int .i64 1,.int .i64 255,.int .i64 1,.int .i64 1099511627776,.int .i64 1048576,.int .i64 255] 3)
 simp only [World.size_alloc] at k2
 clear b1 c_b1 hX
 generalize World.alloc (World.alloc _ _) _=W at *
 have hX:=(Ext.refl W).drew
 have hS:∀ w',Ext W w'->(∀ i,w'.cell? ⟨w.heap.size,i,none⟩=(#[.int .i64 4,.int .i64 base,.int .i64 loc,.int .i64 n,.int .i64 wr,.int .i64 rd,.int .i64 top]:Array Value)[i]?)/\(∀ i,w'.cell? ⟨w.heap.size+1,i,none⟩=(#[.int .i64 0,.int .i64 1099511627776,.int .i64 1,.int .i64 255,.int .i64 1,.int .i64 1099511627776,.int .i64 1048576,.int .i64 255]:Array Value)[i]?):=fun w' hx=>⟨(k1.ext hx).cells,(k2.ext hx).cells⟩
 by_cases e7:1<=top
 · have d7:decide (1<=top)=true:=by simpa using e7
   by_cases e8:top<=1
   · have d8:decide (top<=1)=true:=by simpa using e8
     by_cases hc:base+C<=32768
     · have d9:decide (base+C<=32768)=true:=by simpa using hc
       go_region_held2 (fun w'=>(∀ i,w'.cell? ⟨w.heap.size,i,none⟩=(#[.int .i64 4,.int .i64 base,.int .i64 loc,.int .i64 n,.int .i64 wr,.int .i64 rd,.int .i64 top]:Array Value)[i]?)/\(∀ i,w'.cell? ⟨w.heap.size+1,i,none⟩=(#[.int .i64 0,.int .i64 1099511627776,.int .i64 1,.int .i64 255,.int .i64 1,.int .i64 1099511627776,.int .i64 1048576,.int .i64 255]:Array Value)[i]?)) (exact hS _ hX)
       (first
          | (go_at_call 138
             refine (hC _).mono ?_
             rintro e w2 ⟨rfl,hx⟩
             replace hX:=hX.trans hx
             clear hx)
          | (go_at_call 139
             refine (hL _).mono ?_
             rintro e w2 ⟨rfl,hx⟩
             replace hX:=hX.trans hx
             clear hx))
       go_wp2_with fail
       go_ret
       exact⟨_,rfl,hXW.trans hX,hfh.out _ fun h=>⟨e7,e8,hc,by simpa using h⟩⟩
     · have d9:decide (base+C<=32768)=false:=by simpa using hc
       refine wp_region_held_drew (S:=fun w'=>(∀ i,w'.cell? ⟨w.heap.size,i,none⟩=(#[.int .i64 4,.int .i64 base,.int .i64 loc,.int .i64 n,.int .i64 wr,.int .i64 rd,.int .i64 top]:Array Value)[i]?)/\(∀ i,w'.cell? ⟨w.heap.size+1,i,none⟩=(#[.int .i64 0,.int .i64 1099511627776,.int .i64 1,.int .i64 255,.int .i64 1,.int .i64 1099511627776,.int .i64 1048576,.int .i64 255]:Array Value)[i]?)) rfl (hS _ hX) (fun hHeld=>?_)
       refine tkb 0 ?_
       iterate 17
        refine tkn (v:=?_) rfl (by kernel_rfl) (fun _ _ _ h=>h) (by assumption) ?_ ?_
        rotate_left
        · (intro w hSw;(try dsimp only at hSw);go_simp;try with_reducible rfl)
        try simp only [put_pack]
       refine tke ?_
       refine wpAnyH_ready (rs:=[17]) (by kernel_rfl) (by simp) ?_
       refine AllReadyH.cons rfl (fun K hKK=>?_) (AllReadyH.nil)
       go_simp
       refine (hC _).mono ?_
       rintro e w2 ⟨rfl,hx⟩
       replace hX:=hX.trans hx
       clear hx
       refine hKK.out _ _ (hS _ hX) (fun hHeld=>?_)
       clear hKK K
       try dsimp only
       refine tkb 18 ?_
       iterate 4
        refine tkn (v:=?_) rfl (by kernel_rfl) (fun _ _ _ h=>h) (by assumption) ?_ ?_
        rotate_left
        · (intro w hSw;(try dsimp only at hSw);go_simp;try with_reducible rfl)
        try simp only [put_pack]
       refine tke ?_
       refine sk 22 rfl (by kernel_rfl) (fun _ _ _ h=>h) (by assumption) ?_
       try simp only [put_pack]
       refine sk 23 rfl (by kernel_rfl) (fun _ _ _ h=>h) (by assumption) ?_
       try simp only [put_pack]
       refine sk 24 rfl (by kernel_rfl) (fun _ _ _ h=>h) (by assumption) ?_
       try simp only [put_pack]
       refine sk 25 rfl (by kernel_rfl) (fun _ _ _ h=>h) (by assumption) ?_
       try simp only [put_pack]
       refine sk 26 rfl (by kernel_rfl) (fun _ _ _ h=>h) (by assumption) ?_
       try simp only [put_pack]
       refine sk 27 rfl (by kernel_rfl) (fun _ _ _ h=>h) (by assumption) ?_
       try simp only [put_pack]
       refine tk 28 (v:=?_) rfl (by kernel_rfl) (fun _ _ _ h=>h) (by assumption) ?_ ?_
       rotate_left
       · (intro w hSw;(try dsimp only at hSw);go_simp;try with_reducible rfl)
       try simp only [put_pack]
       refine tk 29 (v:=?_) rfl (by kernel_rfl) (fun _ _ _ h=>h) (by assumption) ?_ ?_
       rotate_left
       · (intro w hSw;(try dsimp only at hSw);go_simp;try with_reducible rfl)
       try simp only [put_pack]
       refine wpAnyH_done (by kernel_rfl) ?_ _
       go_simp
       go_wp2_with fail
       go_ret
       exact⟨false,rfl,hXW.trans hX,fun h=>nomatch h⟩
   · have d8:decide (top<=1)=false:=by simpa using e8
     refine wp_region_held_drew (S:=fun w'=>(∀ i,w'.cell? ⟨w.heap.size,i,none⟩=(#[.int .i64 4,.int .i64 base,.int .i64 loc,.int .i64 n,.int .i64 wr,.int .i64 rd,.int .i64 top]:Array Value)[i]?)/\(∀ i,w'.cell? ⟨w.heap.size+1,i,none⟩=(#[.int .i64 0,.int .i64 1099511627776,.int .i64 1,.int .i64 255,.int .i64 1,.int .i64 1099511627776,.int .i64 1048576,.int .i64 255]:Array Value)[i]?)) rfl (hS _ hX) (fun hHeld=>?_)
     refine tkb 0 ?_
     iterate 14
      refine tkn (v:=?_) rfl (by kernel_rfl) (fun _ _ _ h=>h) (by assumption) ?_ ?_
      rotate_left
      · (intro w hSw;(try dsimp only at hSw);go_simp;try with_reducible rfl)
      try simp only [put_pack]
     refine tke ?_
     refine sk 14 rfl (by kernel_rfl) (fun _ _ _ h=>h) (by assumption) ?_
     try simp only [put_pack]
     refine sk 15 rfl (by kernel_rfl) (fun _ _ _ h=>h) (by assumption) ?_
     try simp only [put_pack]
     refine sk 16 rfl (by kernel_rfl) (fun _ _ _ h=>h) (by assumption) ?_
     try simp only [put_pack]
     refine sk 17 rfl (by kernel_rfl) (fun _ _ _ h=>h) (by assumption) ?_
     try simp only [put_pack]
     refine sk 18 rfl (by kernel_rfl) (fun _ _ _ h=>h) (by assumption) ?_
     try simp only [put_pack]
     refine sk 19 rfl (by kernel_rfl) (fun _ _ _ h=>h) (by assumption) ?_
     try simp only [put_pack]
     refine tk 20 (v:=?_) rfl (by kernel_rfl) (fun _ _ _ h=>h) (by assumption) ?_ ?_
     rotate_left
     · (intro w hSw;(try dsimp only at hSw);go_simp;try with_reducible rfl)
     try simp only [put_pack]
     refine tk 21 (v:=?_) rfl (by kernel_rfl) (fun _ _ _ h=>h) (by assumption) ?_ ?_
     rotate_left
     · (intro w hSw;(try dsimp only at hSw);go_simp;try with_reducible rfl)
     try simp only [put_pack]
     refine sk 22 rfl (by kernel_rfl) (fun _ _ _ h=>h) (by assumption) ?_
     try simp only [put_pack]
     refine sk 23 rfl (by kernel_rfl) (fun _ _ _ h=>h) (by assumption) ?_
     try simp only [put_pack]
     refine sk 24 rfl (by kernel_rfl) (fun _ _ _ h=>h) (by assumption) ?_
     try simp only [put_pack]
     refine sk 25 rfl (by kernel_rfl) (fun _ _ _ h=>h) (by assumption) ?_
     try simp only [put_pack]
     refine sk 26 rfl (by kernel_rfl) (fun _ _ _ h=>h) (by assumption) ?_
     try simp only [put_pack]
     refine sk 27 rfl (by kernel_rfl) (fun _ _ _ h=>h) (by assumption) ?_
     try simp only [put_pack]
     refine tk 28 (v:=?_) rfl (by kernel_rfl) (fun _ _ _ h=>h) (by assumption) ?_ ?_
     rotate_left
     · (intro w hSw;(try dsimp only at hSw);go_simp;try with_reducible rfl)
     try simp only [put_pack]
     refine tk 29 (v:=?_) rfl (by kernel_rfl) (fun _ _ _ h=>h) (by assumption) ?_ ?_
     rotate_left
     · (intro w hSw;(try dsimp only at hSw);go_simp;try with_reducible rfl)
     try simp only [put_pack]
     refine wpAnyH_done (by kernel_rfl) ?_ _
     go_simp
     go_wp2_with fail
     go_ret
     exact⟨false,rfl,hXW.trans hX,fun h=>nomatch h⟩
 · have d7:decide (1<=top)=false:=by simpa using e7
   refine wp_region_held_drew (S:=fun w'=>(∀ i,w'.cell? ⟨w.heap.size,i,none⟩=(#[.int .i64 4,.int .i64 base,.int .i64 loc,.int .i64 n,.int .i64 wr,.int .i64 rd,.int .i64 top]:Array Value)[i]?)/\(∀ i,w'.cell? ⟨w.heap.size+1,i,none⟩=(#[.int .i64 0,.int .i64 1099511627776,.int .i64 1,.int .i64 255,.int .i64 1,.int .i64 1099511627776,.int .i64 1048576,.int .i64 255]:Array Value)[i]?)) rfl (hS _ hX) (fun hHeld=>?_)
   refine tkb 0 ?_
   iterate 4
    refine tkn (v:=?_) rfl (by kernel_rfl) (fun _ _ _ h=>h) (by assumption) ?_ ?_
    rotate_left
    · (intro w hSw;(try dsimp only at hSw);go_simp;try with_reducible rfl)
    try simp only [put_pack]
   refine tke ?_
   refine sk 4 rfl (by kernel_rfl) (fun _ _ _ h=>h) (by assumption) ?_
   try simp only [put_pack]
   refine sk 5 rfl (by kernel_rfl) (fun _ _ _ h=>h) (by assumption) ?_
   try simp only [put_pack]
   refine sk 6 rfl (by kernel_rfl) (fun _ _ _ h=>h) (by assumption) ?_
   try simp only [put_pack]
   refine sk 7 rfl (by kernel_rfl) (fun _ _ _ h=>h) (by assumption) ?_
   try simp only [put_pack]
   refine sk 8 rfl (by kernel_rfl) (fun _ _ _ h=>h) (by assumption) ?_
   try simp only [put_pack]
   refine sk 9 rfl (by kernel_rfl) (fun _ _ _ h=>h) (by assumption) ?_
   try simp only [put_pack]
   refine sk 10 rfl (by kernel_rfl) (fun _ _ _ h=>h) (by assumption) ?_
   try simp only [put_pack]
   refine sk 11 rfl (by kernel_rfl) (fun _ _ _ h=>h) (by assumption) ?_
   try simp only [put_pack]
   refine tk 12 (v:=?_) rfl (by kernel_rfl) (fun _ _ _ h=>h) (by assumption) ?_ ?_
   rotate_left
   · (intro w hSw;(try dsimp only at hSw);go_simp;try with_reducible rfl)
   try simp only [put_pack]
   refine tk 13 (v:=?_) rfl (by kernel_rfl) (fun _ _ _ h=>h) (by assumption) ?_ ?_
   rotate_left
   · (intro w hSw;(try dsimp only at hSw);go_simp;try with_reducible rfl)
   try simp only [put_pack]
   refine sk 14 rfl (by kernel_rfl) (fun _ _ _ h=>h) (by assumption) ?_
   try simp only [put_pack]
   refine sk 15 rfl (by kernel_rfl) (fun _ _ _ h=>h) (by assumption) ?_
   try simp only [put_pack]
   refine sk 16 rfl (by kernel_rfl) (fun _ _ _ h=>h) (by assumption) ?_
   try simp only [put_pack]
   refine sk 17 rfl (by kernel_rfl) (fun _ _ _ h=>h) (by assumption) ?_
   try simp only [put_pack]
   refine sk 18 rfl (by kernel_rfl) (fun _ _ _ h=>h) (by assumption) ?_
   try simp only [put_pack]
   refine sk 19 rfl (by kernel_rfl) (fun _ _ _ h=>h) (by assumption) ?_
   try simp only [put_pack]
   refine tk 20 (v:=?_) rfl (by kernel_rfl) (fun _ _ _ h=>h) (by assumption) ?_ ?_
   rotate_left
   · (intro w hSw;(try dsimp only at hSw);go_simp;try with_reducible rfl)
   try simp only [put_pack]
   refine tk 21 (v:=?_) rfl (by kernel_rfl) (fun _ _ _ h=>h) (by assumption) ?_ ?_
   rotate_left
   · (intro w hSw;(try dsimp only at hSw);go_simp;try with_reducible rfl)
   try simp only [put_pack]
   refine sk 22 rfl (by kernel_rfl) (fun _ _ _ h=>h) (by assumption) ?_
   try simp only [put_pack]
   refine sk 23 rfl (by kernel_rfl) (fun _ _ _ h=>h) (by assumption) ?_
   try simp only [put_pack]
   refine sk 24 rfl (by kernel_rfl) (fun _ _ _ h=>h) (by assumption) ?_
   try simp only [put_pack]
   refine sk 25 rfl (by kernel_rfl) (fun _ _ _ h=>h) (by assumption) ?_
   try simp only [put_pack]
   refine sk 26 rfl (by kernel_rfl) (fun _ _ _ h=>h) (by assumption) ?_
   try simp only [put_pack]
   refine sk 27 rfl (by kernel_rfl) (fun _ _ _ h=>h) (by assumption) ?_
   try simp only [put_pack]
   refine tk 28 (v:=?_) rfl (by kernel_rfl) (fun _ _ _ h=>h) (by assumption) ?_ ?_
   rotate_left
   · (intro w hSw;(try dsimp only at hSw);go_simp;try with_reducible rfl)
   try simp only [put_pack]
   refine tk 29 (v:=?_) rfl (by kernel_rfl) (fun _ _ _ h=>h) (by assumption) ?_ ?_
   rotate_left
   · (intro w hSw;(try dsimp only at hSw);go_simp;try with_reducible rfl)
   try simp only [put_pack]
   refine wpAnyH_done (by kernel_rfl) ?_ _
   go_simp
   go_wp2_with fail
   go_ret
   exact⟨false,rfl,hXW.trans hX,fun h=>nomatch h⟩
set_option maxRecDepth 100000 in
set_option maxHeartbeats 4000000 in
theorem fin5_r (base loc n wr rd top C D:Int)(w:World)(hb:0<=base/\base<=32768)(hl:0<=loc/\loc<=32768)(hn:1<=n/\n<=8)(hz:0<=C/\C<=6272/\0<=D/\D<=7072)
  (hC:∀ w,Calls Tryz.prog 138 #[.agg #[.int .i64 5,.int .i64 base,.int .i64 loc,.int .i64 n,.int .i64 wr,.int .i64 rd,.int .i64 top]] w fun e w'=>e=.returned (.int .i64 C)/\Ext w w')
  (hL:∀ w,Calls Tryz.prog 139 #[.agg #[.int .i64 5,.int .i64 base,.int .i64 loc,.int .i64 n,.int .i64 wr,.int .i64 rd,.int .i64 top]] w fun e w'=>e=.returned (.int .i64 D)/\Ext w w') :
  Calls Tryz.prog 136 #[.agg #[.int .i64 5,.int .i64 base,.int .i64 loc,.int .i64 n,.int .i64 wr,.int .i64 rd,.int .i64 top]] w (BoolPost w (thrB n wr true=true/\thrB n rd true=true/\wr≠rd/\1<=top/\top<=1099511627776/\base+C<=32768/\loc+D<=32768)):=by
 have d1:decide (base<0)=false:=by simpa using hb.1
 have d2:decide (loc<0)=false:=by simpa using hl.1
 have d3:decide (n<1)=false:=by simpa using hn.1
 have d4:decide (8<n)=false:=by simpa using hn.2
 have d5:decide (32768<base)=false:=by simpa using hb.2
 have d6:decide (32768<loc)=false:=by simpa using hl.2
 have hT:=fun w=>thread_b n wr true w
 have hT2:=fun w=>thread_b n rd true w
 have hX:=Ext.refl w
 have b1:=Blk.new w (.cells #[.int .i64 5,.int .i64 base,.int .i64 loc,.int .i64 n,.int .i64 wr,.int .i64 rd,.int .i64 top] 59)
 replace hX:=hX.alloc (.cells #[.int .i64 5,.int .i64 base,.int .i64 loc,.int .i64 n,.int .i64 wr,.int .i64 rd,.int .i64 top] 59)
 have c_b1:=b1.cells
 cases t1:thrB n wr true
 · rw [t1] at hT
   go_enter Tryz.func136,Tryz.ntmps136
   go_wp2_with fail
   refine (hT _).mono ?_
   rintro e w' ⟨rfl,rfl⟩
   go_wp2_with fail
   go_ret
   exact⟨false,rfl,hX,fun h=>nomatch h⟩
 rw [t1] at hT
 cases t2:thrB n rd true
 · rw [t2] at hT2
   go_enter Tryz.func136,Tryz.ntmps136
   go_wp2_with fail
   refine (hT _).mono ?_
   rintro e w' ⟨rfl,rfl⟩
   go_wp2_with fail
   refine (hT2 _).mono ?_
   rintro e w' ⟨rfl,rfl⟩
   go_wp2_with fail
   go_ret
   exact⟨false,rfl,hX,fun h=>nomatch h⟩
 rw [t2] at hT2
 by_cases t3:wr=rd
 · have t4:(wr==rd)=true:=by rw [beq_iff_eq];exact t3
   clear t3
   go_enter Tryz.func136,Tryz.ntmps136
   go_wp2_with fail
   refine (hT _).mono ?_
   rintro e w' ⟨rfl,rfl⟩
   go_wp2_with fail
   refine (hT2 _).mono ?_
   rintro e w' ⟨rfl,rfl⟩
   go_wp2_with fail
   go_ret
   exact⟨false,rfl,hX,fun h=>nomatch h⟩
 have t4:(wr==rd)=false:=by rw [beq_eq_false_iff_ne];exact t3
 have h1w:=IntWalk.i64_in (base+C) (by omega)
 have h2w:=IntWalk.i64_in (loc+D) (by omega)
 have hf:∀ b:Bool,(b=true->1<=top/\top<=1099511627776/\base+C<=32768/\loc+D<=32768)->(b=true->true=true/\true=true/\wr≠rd/\1<=top/\top<=1099511627776/\base+C<=32768/\loc+D<=32768):=fun b h hb=>⟨rfl,rfl,t3,h hb⟩
 have hfh:=Lib.hid hf
 clear hf t3
 go_enter Tryz.func136,Tryz.ntmps136
 go_wp2_with fail
 refine (hT _).mono ?_
 rintro e w' ⟨rfl,rfl⟩
 go_wp2_with fail
 refine (hT2 _).mono ?_
 rintro e w' ⟨rfl,rfl⟩
 clear hT hT2 t1 t2
 go_wp2_with fail
 have k1:=b1.alloc (.cells #[.int .i64 0,.int .i64 1099511627776,.int .i64 1,.int .i64 255,.int .i64 1,.int .i64 1099511627776,.int .i64 1048576,.int .i64 255] 3)
 have k2:=Blk.new (w.alloc (.cells #[.int .i64 5,.int .i64 base,.int .i64 loc,.int .i64 n,.int .i64 wr,.int .i64 rd,.int .i64 top] 59)) (.cells #[.int .i64 0,.int .i64 1099511627776,.int .i64 1,.int .i64 255,.int .i64 1,.int .i64 1099511627776,.int .i64 1048576,.int .i64 255] 3)
 have hXW:=hX.alloc (.cells #[.int .i64 0,.int .i64 1099511627776,.int .i64 1,.int .i64 255,.int .i64 1,.int .i64 1099511627776,.int .i64 1048576,.int .i64 255] 3)
 simp only [World.size_alloc] at k2
 clear b1 c_b1 hX
 generalize World.alloc (World.alloc _ _) _=W at *
 have hX:=(Ext.refl W).drew
 have hS:∀ w',Ext W w'->(∀ i,w'.cell? ⟨w.heap.size,i,none⟩=(#[.int .i64 5,.int .i64 base,.int .i64 loc,.int .i64 n,.int .i64 wr,.int .i64 rd,.int .i64 top]:Array Value)[i]?)/\(∀ i,w'.cell? ⟨w.heap.size+1,i,none⟩=(#[.int .i64 0,.int .i64 1099511627776,.int .i64 1,.int .i64 255,.int .i64 1,.int .i64 1099511627776,.int .i64 1048576,.int .i64 255]:Array Value)[i]?):=fun w' hx=>⟨(k1.ext hx).cells,(k2.ext hx).cells⟩
 by_cases e7:1<=top
 · have d7:decide (1<=top)=true:=by simpa using e7
   by_cases e8:top<=1099511627776
   · have d8:decide (top<=1099511627776)=true:=by simpa using e8
     by_cases hc:base+C<=32768
     · have d9:decide (base+C<=32768)=true:=by simpa using hc
       go_region_held2 (fun w'=>(∀ i,w'.cell? ⟨w.heap.size,i,none⟩=(#[.int .i64 5,.int .i64 base,.int .i64 loc,.int .i64 n,.int .i64 wr,.int .i64 rd,.int .i64 top]:Array Value)[i]?)/\(∀ i,w'.cell? ⟨w.heap.size+1,i,none⟩=(#[.int .i64 0,.int .i64 1099511627776,.int .i64 1,.int .i64 255,.int .i64 1,.int .i64 1099511627776,.int .i64 1048576,.int .i64 255]:Array Value)[i]?)) (exact hS _ hX)
       (first
          | (go_at_call 138
             refine (hC _).mono ?_
             rintro e w2 ⟨rfl,hx⟩
             replace hX:=hX.trans hx
             clear hx)
          | (go_at_call 139
             refine (hL _).mono ?_
             rintro e w2 ⟨rfl,hx⟩
             replace hX:=hX.trans hx
             clear hx))
       go_wp2_with fail
       go_ret
       exact⟨_,rfl,hXW.trans hX,hfh.out _ fun h=>⟨e7,e8,hc,by simpa using h⟩⟩
     · have d9:decide (base+C<=32768)=false:=by simpa using hc
       refine wp_region_held_drew (S:=fun w'=>(∀ i,w'.cell? ⟨w.heap.size,i,none⟩=(#[.int .i64 5,.int .i64 base,.int .i64 loc,.int .i64 n,.int .i64 wr,.int .i64 rd,.int .i64 top]:Array Value)[i]?)/\(∀ i,w'.cell? ⟨w.heap.size+1,i,none⟩=(#[.int .i64 0,.int .i64 1099511627776,.int .i64 1,.int .i64 255,.int .i64 1,.int .i64 1099511627776,.int .i64 1048576,.int .i64 255]:Array Value)[i]?)) rfl (hS _ hX) (fun hHeld=>?_)
       refine tkb 0 ?_
       iterate 17
        refine tkn (v:=?_) rfl (by kernel_rfl) (fun _ _ _ h=>h) (by assumption) ?_ ?_
        rotate_left
        · (intro w hSw;(try dsimp only at hSw);go_simp;try with_reducible rfl)
        try simp only [put_pack]
       refine tke ?_
       refine wpAnyH_ready (rs:=[17]) (by kernel_rfl) (by simp) ?_
       refine AllReadyH.cons rfl (fun K hKK=>?_) (AllReadyH.nil)
       go_simp
       refine (hC _).mono ?_
       rintro e w2 ⟨rfl,hx⟩
       replace hX:=hX.trans hx
       clear hx
       refine hKK.out _ _ (hS _ hX) (fun hHeld=>?_)
       clear hKK K
       try dsimp only
       refine tkb 18 ?_
       iterate 4
        refine tkn (v:=?_) rfl (by kernel_rfl) (fun _ _ _ h=>h) (by assumption) ?_ ?_
        rotate_left
        · (intro w hSw;(try dsimp only at hSw);go_simp;try with_reducible rfl)
        try simp only [put_pack]
       refine tke ?_
       refine sk 22 rfl (by kernel_rfl) (fun _ _ _ h=>h) (by assumption) ?_
       try simp only [put_pack]
       refine sk 23 rfl (by kernel_rfl) (fun _ _ _ h=>h) (by assumption) ?_
       try simp only [put_pack]
       refine sk 24 rfl (by kernel_rfl) (fun _ _ _ h=>h) (by assumption) ?_
       try simp only [put_pack]
       refine sk 25 rfl (by kernel_rfl) (fun _ _ _ h=>h) (by assumption) ?_
       try simp only [put_pack]
       refine sk 26 rfl (by kernel_rfl) (fun _ _ _ h=>h) (by assumption) ?_
       try simp only [put_pack]
       refine sk 27 rfl (by kernel_rfl) (fun _ _ _ h=>h) (by assumption) ?_
       try simp only [put_pack]
       refine tk 28 (v:=?_) rfl (by kernel_rfl) (fun _ _ _ h=>h) (by assumption) ?_ ?_
       rotate_left
       · (intro w hSw;(try dsimp only at hSw);go_simp;try with_reducible rfl)
       try simp only [put_pack]
       refine tk 29 (v:=?_) rfl (by kernel_rfl) (fun _ _ _ h=>h) (by assumption) ?_ ?_
       rotate_left
       · (intro w hSw;(try dsimp only at hSw);go_simp;try with_reducible rfl)
       try simp only [put_pack]
       refine wpAnyH_done (by kernel_rfl) ?_ _
       go_simp
       go_wp2_with fail
       go_ret
       exact⟨false,rfl,hXW.trans hX,fun h=>nomatch h⟩
   · have d8:decide (top<=1099511627776)=false:=by simpa using e8
     refine wp_region_held_drew (S:=fun w'=>(∀ i,w'.cell? ⟨w.heap.size,i,none⟩=(#[.int .i64 5,.int .i64 base,.int .i64 loc,.int .i64 n,.int .i64 wr,.int .i64 rd,.int .i64 top]:Array Value)[i]?)/\(∀ i,w'.cell? ⟨w.heap.size+1,i,none⟩=(#[.int .i64 0,.int .i64 1099511627776,.int .i64 1,.int .i64 255,.int .i64 1,.int .i64 1099511627776,.int .i64 1048576,.int .i64 255]:Array Value)[i]?)) rfl (hS _ hX) (fun hHeld=>?_)
     refine tkb 0 ?_
     iterate 14
      refine tkn (v:=?_) rfl (by kernel_rfl) (fun _ _ _ h=>h) (by assumption) ?_ ?_
      rotate_left
      · (intro w hSw;(try dsimp only at hSw);go_simp;try with_reducible rfl)
      try simp only [put_pack]
     refine tke ?_
     refine sk 14 rfl (by kernel_rfl) (fun _ _ _ h=>h) (by assumption) ?_
     try simp only [put_pack]
     refine sk 15 rfl (by kernel_rfl) (fun _ _ _ h=>h) (by assumption) ?_
     try simp only [put_pack]
     refine sk 16 rfl (by kernel_rfl) (fun _ _ _ h=>h) (by assumption) ?_
     try simp only [put_pack]
     refine sk 17 rfl (by kernel_rfl) (fun _ _ _ h=>h) (by assumption) ?_
     try simp only [put_pack]
     refine sk 18 rfl (by kernel_rfl) (fun _ _ _ h=>h) (by assumption) ?_
     try simp only [put_pack]
     refine sk 19 rfl (by kernel_rfl) (fun _ _ _ h=>h) (by assumption) ?_
     try simp only [put_pack]
     refine tk 20 (v:=?_) rfl (by kernel_rfl) (fun _ _ _ h=>h) (by assumption) ?_ ?_
     rotate_left
     · (intro w hSw;(try dsimp only at hSw);go_simp;try with_reducible rfl)
     try simp only [put_pack]
     refine tk 21 (v:=?_) rfl (by kernel_rfl) (fun _ _ _ h=>h) (by assumption) ?_ ?_
     rotate_left
     · (intro w hSw;(try dsimp only at hSw);go_simp;try with_reducible rfl)
     try simp only [put_pack]
     refine sk 22 rfl (by kernel_rfl) (fun _ _ _ h=>h) (by assumption) ?_
     try simp only [put_pack]
     refine sk 23 rfl (by kernel_rfl) (fun _ _ _ h=>h) (by assumption) ?_
     try simp only [put_pack]
     refine sk 24 rfl (by kernel_rfl) (fun _ _ _ h=>h) (by assumption) ?_
     try simp only [put_pack]
     refine sk 25 rfl (by kernel_rfl) (fun _ _ _ h=>h) (by assumption) ?_
     try simp only [put_pack]
     refine sk 26 rfl (by kernel_rfl) (fun _ _ _ h=>h) (by assumption) ?_
     try simp only [put_pack]
     refine sk 27 rfl (by kernel_rfl) (fun _ _ _ h=>h) (by assumption) ?_
     try simp only [put_pack]
     refine tk 28 (v:=?_) rfl (by kernel_rfl) (fun _ _ _ h=>h) (by assumption) ?_ ?_
     rotate_left
     · (intro w hSw;(try dsimp only at hSw);go_simp;try with_reducible rfl)
     try simp only [put_pack]
     refine tk 29 (v:=?_) rfl (by kernel_rfl) (fun _ _ _ h=>h) (by assumption) ?_ ?_
     rotate_left
     · (intro w hSw;(try dsimp only at hSw);go_simp;try with_reducible rfl)
     try simp only [put_pack]
     refine wpAnyH_done (by kernel_rfl) ?_ _
     go_simp
     go_wp2_with fail
     go_ret
     exact⟨false,rfl,hXW.trans hX,fun h=>nomatch h⟩
 · have d7:decide (1<=top)=false:=by simpa using e7
   refine wp_region_held_drew (S:=fun w'=>(∀ i,w'.cell? ⟨w.heap.size,i,none⟩=(#[.int .i64 5,.int .i64 base,.int .i64 loc,.int .i64 n,.int .i64 wr,.int .i64 rd,.int .i64 top]:Array Value)[i]?)/\(∀ i,w'.cell? ⟨w.heap.size+1,i,none⟩=(#[.int .i64 0,.int .i64 1099511627776,.int .i64 1,.int .i64 255,.int .i64 1,.int .i64 1099511627776,.int .i64 1048576,.int .i64 255]:Array Value)[i]?)) rfl (hS _ hX) (fun hHeld=>?_)
   refine tkb 0 ?_
   iterate 4
    refine tkn (v:=?_) rfl (by kernel_rfl) (fun _ _ _ h=>h) (by assumption) ?_ ?_
    rotate_left
    · (intro w hSw;(try dsimp only at hSw);go_simp;try with_reducible rfl)
    try simp only [put_pack]
   refine tke ?_
   refine sk 4 rfl (by kernel_rfl) (fun _ _ _ h=>h) (by assumption) ?_
   try simp only [put_pack]
   refine sk 5 rfl (by kernel_rfl) (fun _ _ _ h=>h) (by assumption) ?_
   try simp only [put_pack]
   refine sk 6 rfl (by kernel_rfl) (fun _ _ _ h=>h) (by assumption) ?_
   try simp only [put_pack]
   refine sk 7 rfl (by kernel_rfl) (fun _ _ _ h=>h) (by assumption) ?_
   try simp only [put_pack]
   refine sk 8 rfl (by kernel_rfl) (fun _ _ _ h=>h) (by assumption) ?_
   try simp only [put_pack]
   refine sk 9 rfl (by kernel_rfl) (fun _ _ _ h=>h) (by assumption) ?_
   try simp only [put_pack]
   refine sk 10 rfl (by kernel_rfl) (fun _ _ _ h=>h) (by assumption) ?_
   try simp only [put_pack]
   refine sk 11 rfl (by kernel_rfl) (fun _ _ _ h=>h) (by assumption) ?_
   try simp only [put_pack]
   refine tk 12 (v:=?_) rfl (by kernel_rfl) (fun _ _ _ h=>h) (by assumption) ?_ ?_
   rotate_left
   · (intro w hSw;(try dsimp only at hSw);go_simp;try with_reducible rfl)
   try simp only [put_pack]
   refine tk 13 (v:=?_) rfl (by kernel_rfl) (fun _ _ _ h=>h) (by assumption) ?_ ?_
   rotate_left
   · (intro w hSw;(try dsimp only at hSw);go_simp;try with_reducible rfl)
   try simp only [put_pack]
   refine sk 14 rfl (by kernel_rfl) (fun _ _ _ h=>h) (by assumption) ?_
   try simp only [put_pack]
   refine sk 15 rfl (by kernel_rfl) (fun _ _ _ h=>h) (by assumption) ?_
   try simp only [put_pack]
   refine sk 16 rfl (by kernel_rfl) (fun _ _ _ h=>h) (by assumption) ?_
   try simp only [put_pack]
   refine sk 17 rfl (by kernel_rfl) (fun _ _ _ h=>h) (by assumption) ?_
   try simp only [put_pack]
   refine sk 18 rfl (by kernel_rfl) (fun _ _ _ h=>h) (by assumption) ?_
   try simp only [put_pack]
   refine sk 19 rfl (by kernel_rfl) (fun _ _ _ h=>h) (by assumption) ?_
   try simp only [put_pack]
   refine tk 20 (v:=?_) rfl (by kernel_rfl) (fun _ _ _ h=>h) (by assumption) ?_ ?_
   rotate_left
   · (intro w hSw;(try dsimp only at hSw);go_simp;try with_reducible rfl)
   try simp only [put_pack]
   refine tk 21 (v:=?_) rfl (by kernel_rfl) (fun _ _ _ h=>h) (by assumption) ?_ ?_
   rotate_left
   · (intro w hSw;(try dsimp only at hSw);go_simp;try with_reducible rfl)
   try simp only [put_pack]
   refine sk 22 rfl (by kernel_rfl) (fun _ _ _ h=>h) (by assumption) ?_
   try simp only [put_pack]
   refine sk 23 rfl (by kernel_rfl) (fun _ _ _ h=>h) (by assumption) ?_
   try simp only [put_pack]
   refine sk 24 rfl (by kernel_rfl) (fun _ _ _ h=>h) (by assumption) ?_
   try simp only [put_pack]
   refine sk 25 rfl (by kernel_rfl) (fun _ _ _ h=>h) (by assumption) ?_
   try simp only [put_pack]
   refine sk 26 rfl (by kernel_rfl) (fun _ _ _ h=>h) (by assumption) ?_
   try simp only [put_pack]
   refine sk 27 rfl (by kernel_rfl) (fun _ _ _ h=>h) (by assumption) ?_
   try simp only [put_pack]
   refine tk 28 (v:=?_) rfl (by kernel_rfl) (fun _ _ _ h=>h) (by assumption) ?_ ?_
   rotate_left
   · (intro w hSw;(try dsimp only at hSw);go_simp;try with_reducible rfl)
   try simp only [put_pack]
   refine tk 29 (v:=?_) rfl (by kernel_rfl) (fun _ _ _ h=>h) (by assumption) ?_ ?_
   rotate_left
   · (intro w hSw;(try dsimp only at hSw);go_simp;try with_reducible rfl)
   try simp only [put_pack]
   refine wpAnyH_done (by kernel_rfl) ?_ _
   go_simp
   go_wp2_with fail
   go_ret
   exact⟨false,rfl,hXW.trans hX,fun h=>nomatch h⟩
end Go.Proofs.YtponihangpiooaaGreat
