/-
  SnapCosts holds: looking takes n + 2 collects at most, on native cells, whatever they tell; putting takes one write more, without conditions.
-/
import Derived.Test.YtbphlkaihfbgeaaJSnapCostsSaid2
import Derived.Deep.RegionHeld2
import Derived.Laws.MakeOwn
namespace Kv
def scanL (was is:List Int):Nat->Nat->(Nat->Nat)->(Nat->Nat) ⊕ Nat
 | 0,_,mv=>.inl mv
 | k+1,t,mv=>if is.getD t 0=was.getD t 0 then scanL was is k (t+1) mv else if 1<mv t+1 then .inr t else scanL was is k (t+1) (fun s=>if s=t then mv t+1 else mv s)
def lookT (n:Nat):Nat->List Int->(Nat->Nat)->Prog Int
 | 0,_,_=>.ret 0
 | k+1,was,mv=>(collT n 0 []).bind fun is=>if is=was then .ret (viewT (fun i=>wordV n (is.getD i 0)) n) else
    match scanL was is n 0 mv with
    | .inl mv'=>lookT n k is mv'
    | .inr t=>.ret (is.getD t 0 % 4 ^ n)
def lookP (n D:Nat):Prog Int:=(collT n 0 []).bind fun was=>lookT n D was fun _=>0
end Kv
namespace Go.Proofs.Ytbphlkaihfbgeaa
open Go.RowKit Kv
def arrM (mv:Nat->Nat):Array Value:=#[.int .i64 (mv 0),.int .i64 (mv 1),.int .i64 (mv 2),.int .i64 (mv 3)]
theorem arrM_at (mv:Nat->Nat){j:Nat}(hj:j<4):(arrM mv)[j]?=some (.int .i64 (mv j)):=by
 have:j=0∨j=1∨j=2∨j=3:=by omega
 rcases this with rfl | rfl | rfl | rfl <;> rfl
theorem arrM_put (mv:Nat->Nat){j:Nat}(hj:j<4)(x:Nat):(arrM mv).setIfInBounds j (.int .i64 x)=arrM (fun s=>if s=j then x else mv s):=by
 have:j=0∨j=1∨j=2∨j=3:=by omega
 rcases this with rfl | rfl | rfl | rfl <;> rfl
set_option maxRecDepth 100000 in
set_option maxHeartbeats 2000000 in
theorem snlook_p (B p n me D:Nat)(S:TS)(rs:List Reg)(b c:Nat)(w:World)(h:Plays B w p S)(hta:TameA S)(hl:RegsAt [2,3,4] w p b rs)(he:NRegs n rs)(h1:1<=n)(h4:n<=4)(hme:me<n)(hD:S.left<D) :
  Calls Try.prog 35 #[.pointer (some ⟨p,0,none⟩),.slice (some ⟨b,0,none⟩) n c,.int .i64 me] w (Post encI B p w ((lookP n D).run S)):=by
 generalize hR:Post encI B p w ((lookP n D).run S)=R
 have hO:Owes R encI B p w ((lookP n D).run S):=hR▸owes _ _ _ _ _
 clear hR
 unfold lookP at hO
 have d1:decide ((n:Int)<1)=false:=by rw [decide_eq_false_iff_not];omega
 have d2:decide ((4:Int)<(n:Int))=false:=by rw [decide_eq_false_iff_not];omega
 have d3:decide (n<1)=false:=by rw [decide_eq_false_iff_not];omega
 have d4:decide (4<n)=false:=by rw [decide_eq_false_iff_not];omega
 have hK:=Keep.refl [2,3,4] B p w
 have hP:=h
 have hBw:=h.le
 clear h
 have heh:=Lib.hid he
 have hOh:=Lib.hid hO
 clear he hO
 go_enter Try.func35,Try.ntmps35
 go_wp2_with fail
 have b1:=hP.held (.cells #[.int .i64 0,.int .i64 0,.int .i64 0,.int .i64 0] 50)
 replace hl:=hl.extL ((Ext.refl w).alloc (.cells #[.int .i64 0,.int .i64 0,.int .i64 0,.int .i64 0] 50)) hP.lt
 replace hK:=hK.trans (Keep.alloc (.cells #[.int .i64 0,.int .i64 0,.int .i64 0,.int .i64 0] 50) hP.lt hP.le)
 replace hP:=hP.alloc (.cells #[.int .i64 0,.int .i64 0,.int .i64 0,.int .i64 0] 50)
 refine tstepA (notes_collT n 0 []) hOh.out hK (snread_p B p n me S rs b c _ hP hl heh.out h1 h4 hme) (fun _ h=>⟨rfl,h⟩) ?_
 clear hOh hK hP
 intro was S2 wn hrun hlf hla hnn hP hk hK hO
 replace b1:=b1.keep hk
 replace hl:=hl.keep hk
 have hzlt:=b1.lt
 clear hk
 generalize hz8:w.heap.size=z8 at *
 unfold encC
 obtain⟨x0,x1,x2,x3,hxs⟩:∃ x0 x1 x2 x3:Int,arrC was=#[.int .i64 x0,.int .i64 x1,.int .i64 x2,.int .i64 x3]:=⟨_,_,_,_,rfl⟩
 rw [hxs]
 have hOh:=Lib.hid hO
 clear hO
 go_wp2_with fail
 have b2:=hP.held (.cells #[.int .i64 x0,.int .i64 x1,.int .i64 x2,.int .i64 x3] 99)
 replace b1:=b1.alloc (.cells #[.int .i64 x0,.int .i64 x1,.int .i64 x2,.int .i64 x3] 99) hP.lt
 replace hl:=hl.extL ((Ext.refl wn).alloc (.cells #[.int .i64 x0,.int .i64 x1,.int .i64 x2,.int .i64 x3] 99)) hP.lt
 replace hK:=hK.trans (Keep.alloc (.cells #[.int .i64 x0,.int .i64 x1,.int .i64 x2,.int .i64 x3] 99) hP.lt hP.le)
 replace hP:=hP.alloc (.cells #[.int .i64 x0,.int .i64 x1,.int .i64 x2,.int .i64 x3] 99)
 have hz8w:w.heap.size<=z8:=by omega
 have hz89:z8<wn.heap.size:=by have:=hzlt;omega
 have hz9w:w.heap.size<=wn.heap.size:=by omega
 generalize hz9:wn.heap.size=z9 at *
 have hBw':B<=w.heap.size:=by omega
 clear hz8 hz9 hzlt
 go_loopw [] (fun wr=>∃ (k:Nat) (was:List Int) (mv:Nat->Nat) (S5:TS),Plays B wr p S5/\KeepP B p w wr/\HeldP wr p z8 (.cells (arrM mv) 50)/\HeldP wr p z9 (.cells (arrC was) 99)/\RegsAt [2,3,4] wr p b rs/\S5.left<k/\TameA S5/\was.length=n/\(∀ s,mv s<=1)/\Hid (Owes R encI B p w ((lookT n k was mv).run S5))) (fun wr=>leftW 1 3 wr p)
 case atStart=>exact⟨D,was,fun _=>0,S2,hP,hK,b1,by rw [hxs];exact b2,hl,by omega,hta.run hrun,by have:=collT_len _ _ _ _ _ _ hrun;simpa using this,fun _=>Nat.zero_le _,hOh⟩
 case round =>
  clear hP hK b1 b2 hl hOh
  obtain⟨k,was,mv,S5,hP,hK,b1,b2,hl,hk,hta5,hwl,hmv,hOh⟩:=hrel
  cases k with
  | zero=>omega
  | succ k =>
  have hO:=hOh.out
  clear hOh
  have hlw:=Lib.hid hP.left
  unfold lookT at hO
  have hOh:=Lib.hid hO
  clear hO
  go_wp2_with fail
  refine tstepA (notes_collT n 0 []) hOh.out hK (snread_p B p n me S5 rs b c _ hP hl heh.out h1 h4 hme) (fun _ h=>⟨rfl,h⟩) ?_
  clear hOh hK hP
  intro is S6 wm hrun hlf hla hnn hP hk6 hK hO
  replace b1:=b1.keep hk6
  replace b2:=b2.keep hk6
  replace hl:=hl.keep hk6
  clear hk6
  have hlt8':=b1.lt
  have hlt9':=b2.lt
  unfold encC
  obtain⟨i0,i1,i2,i3,his⟩:∃ i0 i1 i2 i3:Int,arrC is=#[.int .i64 i0,.int .i64 i1,.int .i64 i2,.int .i64 i3]:=⟨_,_,_,_,rfl⟩
  obtain⟨y0,y1,y2,y3,hys⟩:∃ i0 i1 i2 i3:Int,arrC was=#[.int .i64 i0,.int .i64 i1,.int .i64 i2,.int .i64 i3]:=⟨_,_,_,_,rfl⟩
  rw [his]
  rw [hys] at b2
  have hOh:=Lib.hid hO
  clear hO
  go_upto_region 7 with fail
  have b3:=hP.held (.cells #[.int .i64 i0,.int .i64 i1,.int .i64 i2,.int .i64 i3] 99)
  replace b1:=b1.alloc (.cells #[.int .i64 i0,.int .i64 i1,.int .i64 i2,.int .i64 i3] 99) hP.lt
  replace b2:=b2.alloc (.cells #[.int .i64 i0,.int .i64 i1,.int .i64 i2,.int .i64 i3] 99) hP.lt
  replace hl:=hl.extL ((Ext.refl wm).alloc (.cells #[.int .i64 i0,.int .i64 i1,.int .i64 i2,.int .i64 i3] 99)) hP.lt
  replace hK:=hK.trans (Keep.alloc (.cells #[.int .i64 i0,.int .i64 i1,.int .i64 i2,.int .i64 i3] 99) hP.lt hP.le)
  replace hP:=hP.alloc (.cells #[.int .i64 i0,.int .i64 i1,.int .i64 i2,.int .i64 i3] 99)
  have hlt9:z9<wm.heap.size:=hlt9'
  have hlt8:z8<wm.heap.size:=hlt8'
  clear hlt8' hlt9'
  generalize hz10:wm.heap.size=z10 at *
  generalize World.alloc wm _=W1 at *
  have hz910:z9<z10/\z8<z10:=⟨hlt9,hlt8⟩
  clear hz10 hlt8 hlt9
  have hisl:=collT_len _ _ _ _ _ _ hrun
  simp only [List.length_nil,Nat.zero_add] at hisl
  have hisb:=Lib.hid (collT_bd _ _ _ _ _ _ hta5 (by simp) hrun)
  have hta6:=hta5.run hrun
  have hS6:S6.left<S5.left:=hla (by obtain⟨n',rfl⟩:∃ n',n=n'+1:=⟨n-1,by omega⟩;exact asks_collT n' 0 [])
  clear hrun hla hlf hnn
  have c_b2:=b2.cells
  have c_b3:=b3.cells
  by_cases he:is=was
  · have heq:(decide (i0=y0)&&(decide (i1=y1)&&(decide (i2=y2)&&decide (i3=y3))))=true:=by
     rw [he,hys] at his
     simp only [Array.mk.injEq,List.cons.injEq,Value.int.injEq,true_and,and_true] at his
     obtain⟨rfl,rfl,rfl,rfl⟩:=his
     simp
    have hgd:∀ j,j<4->is.getD j 0=([i0,i1,i2,i3]:List Int).getD j 0:=fun j hj=>by
     have h:=arrC_at is hj
     rw [his] at h
     have:j=0∨j=1∨j=2∨j=3:=by omega
     rcases this with rfl | rfl | rfl | rfl <;> (simp only [List.getElem?_toArray,List.getElem?_cons_zero,List.getElem?_cons_succ,Option.some.injEq,Value.int.injEq,true_and] at h;exact h.symm)
    have hbd:∀ x∈([i0,i1,i2,i3]:List Int),0<=x/\x<2 ^ 62:=by
     have hz:∀ j,j<4->0<=is.getD j 0/\is.getD j 0<2 ^ 62:=fun j _=>by
      rw [List.getD_eq_getElem?_getD]
      cases hq:is[j]? with
      | none=>simp
      | some x =>
        have:=hisb.out x (List.mem_of_getElem? hq)
        simp only [Option.getD_some]
        omega
     intro x hx
     simp only [List.mem_cons,List.not_mem_nil,or_false] at hx
     rcases hx with rfl | rfl | rfl | rfl
     · have h:=hz 0 (by omega);rw [hgd 0 (by omega)] at h;exact h
     · have h:=hz 1 (by omega);rw [hgd 1 (by omega)] at h;exact h
     · have h:=hz 2 (by omega);rw [hgd 2 (by omega)] at h;exact h
     · have h:=hz 3 (by omega);rw [hgd 3 (by omega)] at h;exact h
    have hO:=hOh.out
    rw [if_pos he,viewT_same n (g:=fun i=>wordV n (([i0,i1,i2,i3]:List Int).getD i 0)) (fun i hi=>by rw [hgd i (by omega)])] at hO
    have hq:=Lib.hid (values_p W1 n [i0,i1,i2,i3] i0 i1 i2 i3 h1 h4 rfl hbd)
    have hO2:=Lib.hid hO
    clear hO hOh hgd hbd he b1 b2 b3 hl his hys
    generalize viewT (fun i=>wordV n (([i0,i1,i2,i3]:List Int).getD i 0)) n=vw at *
    go_wp2_with fail
    refine hq.out.mono ?_
    rintro e w2 ⟨rfl,hx⟩
    have hf:=Owes.done (v:=vw) hO2.out (hP.ext hx) (hK.trans (Keep.of_ext hx hP.lt hP.le))
    clear hO2 hP hK hx hq c_b2 c_b3
    go_wp2_with fail
    first | with_reducible exact hf | (go_simp;exact hf) | (go_ret;exact hf) | (go_ret2;exact hf)
  · have heq:(decide (i0=y0)&&(decide (i1=y1)&&(decide (i2=y2)&&decide (i3=y3))))=false:=by
     rw [Bool.eq_false_iff]
     intro h
     simp only [Bool.and_eq_true,decide_eq_true_eq] at h
     obtain⟨rfl,rfl,rfl,rfl⟩:=h
     exact he (arrC_inj (by omega) (by omega) (his.trans hys.symm))
    have hO:=hOh.out
    rw [if_neg he] at hO
    have hOh2:=Lib.hid hO
    clear hO hOh
    have hbz:=hl.ne (heh.out.at_ 0 (by omega)).choose_spec.1 b1.1 (by simp [arrM])
    have hbz9:=hl.ne (heh.out.at_ 0 (by omega)).choose_spec.1 b2.1 (by simp)
    have hish:=Lib.hid his
    have hysh:=Lib.hid hys
    have hmvh:=Lib.hid hmv
    clear his hys hmv he
    go_wp2_with fail
    clear c_b2 c_b3
    go_loopw [35] (fun a35 wr'=>∃ (t:Nat) (mv2:Nat->Nat),a35=.int .i64 t/\t<=n/\Plays B wr' p S6/\KeepP B p w wr'/\HeldP wr' p z8 (.cells (arrM mv2) 50)/\HeldP wr' p z9 (.cells #[.int .i64 y0,.int .i64 y1,.int .i64 y2,.int .i64 y3] 99)/\HeldP wr' p z10 (.cells #[.int .i64 i0,.int .i64 i1,.int .i64 i2,.int .i64 i3] 99)/\RegsAt [2,3,4] wr' p b rs/\(∀ s,mv2 s<=1)/\Hid (scanL was is (n-t) t mv2=scanL was is n 0 mv)) (fun a35 _=>n-(intOf a35).toNat)
    case atStart=>exact⟨0,mv,rfl,by omega,hP,hK,b1,b2,b3,hl,hmvh.out,Lib.hid rfl⟩
    case round =>
     clear hP hK b1 b2 b3 hl
     obtain⟨t,mv2,rfl,ht,hP,hK,b1,b2,b3,hl,hmv2,hsc⟩:=hrel
     by_cases htn:t<n
     · have dt:decide ((t:Int)<(n:Int))=true:=by rw [decide_eq_true_eq];omega
       have ht4:t<4:=by omega
       have ht4i:(t:Int)<4:=by omega
       have ht0:(0:Int)<=(t:Int):=by omega
       obtain⟨xi,hxi⟩:∃ x,is.getD t 0=x:=⟨_,rfl⟩
       obtain⟨xw,hxw⟩:∃ x,was.getD t 0=x:=⟨_,rfl⟩
       have hI:∀ W,HeldP W p z10 (.cells #[.int .i64 i0,.int .i64 i1,.int .i64 i2,.int .i64 i3] 99)->W.cell? ⟨z10,t,none⟩=some (.int .i64 xi):=fun W hW=>by
        rw [hW.cells t,<- hish.out,arrC_at is ht4,hxi]
       have hW:∀ W,HeldP W p z9 (.cells #[.int .i64 y0,.int .i64 y1,.int .i64 y2,.int .i64 y3] 99)->W.cell? ⟨z9,t,none⟩=some (.int .i64 xw):=fun W hW=>by
        rw [hW.cells t,<- hysh.out,arrC_at was ht4,hxw]
       have hsc2:scanL was is (n-t) t mv2=if xi=xw then scanL was is (n-(t+1)) (t+1) mv2 else if 1<mv2 t+1 then .inr t else scanL was is (n-(t+1)) (t+1) (fun s=>if s=t then mv2 t+1 else mv2 s):=by
        rw [show n-t=(n-(t+1))+1 from by omega,<- hxi,<- hxw]
        rfl
       have hsch:Hid ((if xi=xw then scanL was is (n-(t+1)) (t+1) mv2 else if 1<mv2 t+1 then .inr t else scanL was is (n-(t+1)) (t+1) (fun s=>if s=t then mv2 t+1 else mv2 s))=scanL was is n 0 mv):=Lib.hid (hsc2.symm.trans hsc.out)
       clear hsc hsc2
       go_upto_region 12 with fail
       have hP2:=hP.drew
       have hK2:=hK.drew
       have b1':=b1.drew
       have b2':=b2.drew
       have b3':=b3.drew
       have hl2:=hl.extL (Ext.refl _).drew hP.lt
       have hS:=And.intro (hI _ b3') (hW _ b2')
       have hIh:=Lib.hid hI
       have hxih:=Lib.hid hxi
       clear hP hK b1 b2 b3 hl hI hW hxi hxw
       refine wp_region_held_drew (S:=fun w'=>w'.cell? ⟨z10,t,none⟩=some (.int .i64 xi)/\w'.cell? ⟨z9,t,none⟩=some (.int .i64 xw)) rfl hS (fun hHeld=>?_)
       refine tkb 0 ?_
       iterate 7
        refine tkn (v:=?_) rfl (by kernel_rfl) (fun _ _ _ h=>h) (by assumption) ?_ ?_
        rotate_left
        · (intro w hSw;(try dsimp only at hSw);go_simp;try with_reducible rfl)
        try simp only [put_pack]
       refine tke ?_
       refine wpAnyH_done (by kernel_rfl) ?_ _
       go_simp
       clear hHeld hS
       generalize World.drew _=W2 at *
       by_cases hx:xi=xw
       · have dx:(xi==xw)=true:=by simpa using hx
         have hs3:=hsch.out
         rw [if_pos hx] at hs3
         have hs4:=Lib.hid hs3
         clear hs3 hx
         go_wp2_with fail
         refine⟨⟨t+1,mv2,by first | rfl | go_num,by omega,hP2,hK2,b1',b2',b3',hl2,hmv2,hs4⟩,?_⟩
         simp [intOf];omega
       · have dx:(xi==xw)=false:=by simpa using hx
         have hs3:=hsch.out
         rw [if_neg hx] at hs3
         clear hx
         have hm1:=hmv2 t
         have hwm:=IntWalk.i64_in ((mv2 t:Int)+1) (by omega)
         have c_M:W2.cell? ⟨z8,t,none⟩=some (.int .i64 (mv2 t)):=(b1'.cells t).trans (arrM_at mv2 ht4)
         have hfM:W2.frozen? ⟨z8,t,none⟩=false:=frozen_of_heap b1'.1 t
         have hs4:=Lib.hid hs3
         clear hs3
         go_upto_region 14 with fail
         have o:=OneB.setCell W2 z8 t (.int .i64 ((mv2 t:Int)+1))
         have hP3:=hP2.one o b1'.2 (by omega)
         have hK3:=hK2.one o hz8w b1'.2 hBw'
         have e1:HeldP (W2.setCell ⟨z8,t,none⟩ (.int .i64 ((mv2 t:Int)+1))) p z8 (.cells (arrM (fun s=>if s=t then mv2 t+1 else mv2 s)) 50):=by
          rw [<- arrM_put mv2 ht4]
          exact b1'.setB t _
         have e2:=b2'.one o (by omega) b1'.2
         have e3:=b3'.one o (by omega) b1'.2
         have hl3:=hl2.one o hbz b1'.2
         clear hP2 hK2 b1' b2' b3' hl2 o c_M hfM
         generalize World.setCell W2 _ _=W3 at *
         have c_M:W3.cell? ⟨z8,t,none⟩=some (.int .i64 ((mv2 t:Int)+1)):=(e1.cells t).trans ((arrM_at _ ht4).trans (by simp))
         by_cases hm2:1<mv2 t+1
         · have dm:decide ((1:Int)<(mv2 t:Int)+1)=true:=by rw [decide_eq_true_eq];omega
           have hs5:=hs4.out
           rw [if_pos hm2] at hs5
           have hO:=hOh2.out
           rw [<- hs5] at hO
           replace hO:Owes R encI B p w ((Prog.ret (is.getD t 0 % 4 ^ n)).run S6):=hO
           rw [hxih.out] at hO
           have hO2:=Lib.hid hO
           clear hO hs5 hm2
           have hxb:0<=xi/\xi<=1048576:=by
            rw [<- hxih.out,List.getD_eq_getElem?_getD]
            cases hq:is[t]? with
            | none=>simp
            | some x=>simpa using hisb.out x (List.mem_of_getElem? hq)
           have hand:∀ i:Nat,i<=62->bits .and .i64 xi (2 ^ i-1)=xi % 2 ^ i:=fun i hi=>bits_mask .i64 62 (by decide) wraps_i64' i hi xi hxb.1 (by omega)
           have a1:=hand 2 (by decide)
           have a2:=hand 4 (by decide)
           have a3:=hand 6 (by decide)
           have a4:=hand 8 (by decide)
           simp only [Int.reducePow,Int.reduceSub] at a1 a2 a3 a4
           go_upto_region 15 with fail
           have hwk2:IntKind.i64.wrap 2=2:=by kernel_rfl
           have hwv2:IntKind.i64.wrap 3=3:=by kernel_rfl
           have hsk2:∀ w,(Op.shift .shl .i64 1 .i64 2).run Try.prog w=.ok (.int .i64 4) w:=fun _=>by kernel_rfl
           have hwk4:IntKind.i64.wrap 4=4:=by kernel_rfl
           have hwx4:IntKind.i64.wrap 16=16:=by kernel_rfl
           have hwv4:IntKind.i64.wrap 15=15:=by kernel_rfl
           have hsk4:∀ w,(Op.shift .shl .i64 1 .i64 4).run Try.prog w=.ok (.int .i64 16) w:=fun _=>by kernel_rfl
           have hwk6:IntKind.i64.wrap 6=6:=by kernel_rfl
           have hwx6:IntKind.i64.wrap 64=64:=by kernel_rfl
           have hwv6:IntKind.i64.wrap 63=63:=by kernel_rfl
           have hsk6:∀ w,(Op.shift .shl .i64 1 .i64 6).run Try.prog w=.ok (.int .i64 64) w:=fun _=>by kernel_rfl
           have hwk8:IntKind.i64.wrap 8=8:=by kernel_rfl
           have hwx8:IntKind.i64.wrap 256=256:=by kernel_rfl
           have hwv8:IntKind.i64.wrap 255=255:=by kernel_rfl
           have hsk8:∀ w,(Op.shift .shl .i64 1 .i64 8).run Try.prog w=.ok (.int .i64 256) w:=fun _=>by kernel_rfl
           have hP4:=hP3.drew
           have hK4:=hK3.drew
           have hf:=Owes.done (v:=xi % 4 ^ n) hO2.out hP4 hK4
           have hS:=hIh.out _ e3.drew
           have hfh:=Lib.hid hf
           clear hP3 hK3 e1 e2 e3 hl3 hP4 hK4 hO2 hOh2 c_M hm1 hmv2 hf
           refine wp_region_held_drew (S:=fun w'=>w'.cell? ⟨z10,t,none⟩=some (.int .i64 xi)) rfl hS (fun hHeld=>?_)
           have hn4:n=1∨n=2∨n=3∨n=4:=by omega
           rcases hn4 with rfl | rfl | rfl | rfl
           all_goals
            refine tkb 0 ?_
            iterate 9
             refine tkn (v:=?_) rfl (by kernel_rfl) (fun _ _ _ h=>h) (by assumption) ?_ ?_
             rotate_left
             · (intro w hSw;(try dsimp only at hSw);go_simp;try with_reducible rfl)
             try simp only [put_pack]
            refine tke ?_
            refine wpAnyH_done (by kernel_rfl) ?_ _
            go_simp
            have hf:=hfh.out
            simp only [Int.reducePow,encI] at hf
            clear hHeld hS a1 a2 a3 a4 hfh
            go_wp2_with fail
            first | with_reducible exact hf | (go_simp;exact hf) | (go_ret;exact hf) | (go_ret2;exact hf)
         · have dm:decide ((1:Int)<(mv2 t:Int)+1)=false:=by rw [decide_eq_false_iff_not];omega
           have hs5:=hs4.out
           rw [if_neg hm2] at hs5
           have hs6:=Lib.hid hs5
           clear hs5
           go_wp2_with fail
           refine⟨⟨t+1,_,by first | rfl | go_num,by omega,hP3,hK3,e1,e2,e3,hl3,fun s=>?_,hs6⟩,?_⟩
           · show (if s=t then mv2 t+1 else mv2 s)<=1
             split
             · omega
             · exact hmv2 s
           · simp [intOf];omega
     · have dt:decide ((t:Int)<(n:Int))=false:=by rw [decide_eq_false_iff_not];omega
       have hs3:=hsc.out
       rw [show n-t=0 from by omega] at hs3
       have hO:=hOh2.out
       rw [<- hs3] at hO
       replace hO:Owes R encI B p w ((lookT n k is mv2).run S6):=hO
       have hO2:=Lib.hid hO
       clear hO hs3 hsc
       obtain⟨e2,hP4,hK4,o⟩:=held4 b2 hP hK hBw' (by omega) (.int .i64 i0) (.int .i64 i1) (.int .i64 i2) (.int .i64 i3)
       have e1:=b1.one o (by omega) b2.2
       have hl4:=hl.one o hbz9 b2.2
       have c_b2:=b2.cells
       have c_b3:=b3.cells
       have hfz:∀ i,wr.frozen? ⟨z9,i,none⟩=false:=fun i=>frozen_of_heap b2.1 i
       have hlv:=Lib.hid hP4.left
       clear hP hK b1 b2 b3 hl o
       go_wp2_with fail
       refine⟨⟨k,is,mv2,S6,hP4,hK4,e1,by rw [hish.out];exact e2,hl4,by omega,hta6,hisl,hmv2,hO2⟩,?_⟩
       rw [hlw.out,hlv.out]
       omega
end Go.Proofs.Ytbphlkaihfbgeaa
namespace Kv
theorem left_put' {S:TS}{v:Int}(h:S.next=some v)(a:Acc):(S.put a).left+1=S.left:=by
 have h1:S.acc.length<S.ans.length:=(List.getElem?_eq_some_iff.1 (show S.ans[S.acc.length]?=some v from h)).1
 unfold TS.left TS.put
 simp only [List.length_append,List.length_cons,List.length_nil]
 omega
theorem next_left {S:TS}(h:0<S.left):∃ v,S.next=some v:=by
 unfold TS.left at h
 exact⟨_,List.getElem?_eq_getElem (show S.acc.length<S.ans.length by omega)⟩
theorem collT_run:∀ (k i:Nat) (acc:List Int) (S:TS),k<=S.left->∃ l S',(collT k i acc).run S=(some l,S')/\l.length=acc.length+k/\S'.acc.length=S.acc.length+k/\S'.left+k=S.left
 | 0,_,acc,S,_=>⟨acc,S,rfl,rfl,rfl,rfl⟩
 | k+1,i,acc,S,h=>by
   obtain⟨v,hv⟩:=next_left (S:=S) (by omega)
   have hl:=left_put' hv ⟨1,(i:Int),0⟩
   obtain⟨l,S',h1,h2,h3,h4⟩:=collT_run k (i+1) (acc++[v]) (S.put ⟨1,(i:Int),0⟩) (by omega)
   refine⟨l,S',?_,by simp at h2;omega,?_,by omega⟩
   · show Prog.run (.read (i:Int) fun v=>collT k (i+1) (acc++[v])) S=_
     simp only [Prog.run,hv]
     exact h1
   · rw [h3]
     simp [TS.put]
     omega
def sumM (mv:Nat->Nat):Nat->Nat
 | 0=>0
 | n+1=>sumM mv n+mv n
theorem sumM_le {mv:Nat->Nat}(h:∀ s,mv s<=1):∀ n,sumM mv n<=n
 | 0=>Nat.le_refl _
 | n+1=>by have:=sumM_le h n;have:=h n;rw [sumM];omega
theorem sumM_mono {mv mv':Nat->Nat}(h:∀ s,mv s<=mv' s):∀ n,sumM mv n<=sumM mv' n
 | 0=>Nat.le_refl _
 | n+1=>by have:=sumM_mono h n;have:=h n;rw [sumM,sumM];omega
theorem sumM_lt {mv mv':Nat->Nat}(h:∀ s,mv s<=mv' s){j:Nat}(hj:mv j<mv' j):∀ n,j<n->sumM mv n<sumM mv' n
 | 0,h0=>absurd h0 (by omega)
 | n+1,hn=>by
   have h1:=h n
   rw [sumM,sumM]
   by_cases e:j=n
   · subst e
     have:=sumM_mono h j
     omega
   · have:=sumM_lt h hj n (by omega)
     omega
theorem scanL_inl {was is:List Int}:∀ (k t:Nat) (mv mv':Nat->Nat),scanL was is k t mv=.inl mv'->(∀ s,mv s<=1)->(∀ s,mv' s<=1)/\(∀ s,mv s<=mv' s)/\(∀ j,t<=j->j<t+k->is.getD j 0≠was.getD j 0->∃ i,i<t+k/\mv i<mv' i)
 | 0,t,mv,mv',h,hm=>by
   have h:(Sum.inl mv:(Nat->Nat) ⊕ Nat)=.inl mv':=h
   injection h with h
   subst h
   exact⟨hm,fun _=>Nat.le_refl _,fun j h1 h2=>absurd h2 (by omega)⟩
 | k+1,t,mv,mv',h,hm=>by
   unfold scanL at h
   split at h
   · rename_i he
     obtain⟨a,b,c⟩:=scanL_inl k (t+1) mv mv' h hm
     refine⟨a,b,fun j h1 h2 hne=>?_⟩
     by_cases e:j=t
     · subst e;exact absurd he hne
     · obtain⟨i,h3,h4⟩:=c j (by omega) (by omega) hne
       exact⟨i,by omega,h4⟩
   · split at h
     · cases h
     · rename_i h2
       have hm':∀ s,(fun s=>if s=t then mv t+1 else mv s) s<=1:=fun s=>by
        show (if s=t then mv t+1 else mv s)<=1
        split
        · omega
        · exact hm s
       obtain⟨a,b,c⟩:=scanL_inl k (t+1) _ mv' h hm'
       have hb:∀ s,mv s<=mv' s:=fun s=>by
        have:=b s
        by_cases e:s=t
        · subst e;simp at this;omega
        · simpa [e] using this
       refine⟨a,hb,fun j h1 h3 hne=>⟨t,by omega,?_⟩⟩
       have:=b t
       simp at this
       omega
theorem list_ne {l l':List Int}(h:l.length=l'.length)(hne:l≠l'):∃ j,j<l.length/\l.getD j 0≠l'.getD j 0:=by
 refine Classical.byContradiction fun hc=>hne ?_
 apply List.ext_getElem?
 intro j
 by_cases hj:j<l.length
 · have h1:l.getD j 0=l'.getD j 0:=Classical.byContradiction fun h=>hc ⟨j,hj,h⟩
   rw [List.getElem?_eq_getElem hj,List.getElem?_eq_getElem (by omega)]
   rw [List.getD_eq_getElem?_getD,List.getD_eq_getElem?_getD,List.getElem?_eq_getElem hj,List.getElem?_eq_getElem (show j<l'.length by omega)] at h1
   simp only [Option.getD_some] at h1
   rw [h1]
 · rw [List.getElem?_eq_none (by omega),List.getElem?_eq_none (by omega)]
theorem lookT_run (n:Nat)(h1:1<=n):∀ (m k:Nat) (was:List Int) (mv:Nat->Nat) (S:TS),was.length=n->(∀ s,mv s<=1)->sumM mv n+m=n->m<k->n*(m+1)<=S.left ->
  ∃ v S',(lookT n k was mv).run S=(some v,S')/\0<=v/\v<4 ^ n/\S'.acc.length<=S.acc.length+n*(m+1)/\S.left<=S'.left+n*(m+1)
 | m,0,_,_,_,_,_,_,h,_=>absurd h (by omega)
 | m,k+1,was,mv,S,hw,hmv,hs,hk,hl=>by
   have hmul:n*(m+1)=n*m+n:=Nat.mul_succ n m
   obtain⟨is,S1,hr,q1,q2,q3⟩:=collT_run n 0 [] S (by omega)
   simp only [List.length_nil,Nat.zero_add] at q1
   have hp:(0:Int)<4 ^ n:=Int.pow_pos (by decide)
   unfold lookT
   rw [Prog.run_bind_some hr]
   by_cases he:is=was
   · rw [if_pos he]
     have hv:=viewT_bd (fun i=>wordV n (is.getD i 0)) n
     exact⟨_,S1,rfl,hv.1,hv.2,by omega,by omega⟩
   · rw [if_neg he]
     cases hsc:scanL was is n 0 mv with
     | inr t=>exact⟨_,S1,rfl,Int.emod_nonneg _ (by omega),Int.emod_lt_of_pos _ hp,by omega,by omega⟩
     | inl mv' =>
       obtain⟨a,b,c⟩:=scanL_inl n 0 mv mv' hsc hmv
       obtain⟨j,hj1,hj2⟩:=list_ne (q1.trans hw.symm) he
       obtain⟨i,hi1,hi2⟩:=c j (Nat.zero_le _) (by omega) hj2
       have hlt:=sumM_lt b hi2 n (by omega)
       have hle:=sumM_le a n
       cases m with
       | zero=>omega
       | succ m =>
         have hmul2:n*(m+1)=n*m+n:=Nat.mul_succ n m
         obtain⟨m',hm'⟩:∃ m',sumM mv' n+m'=n:=⟨n-sumM mv' n,by omega⟩
         have hmm:n*(m'+1)<=n*(m+1):=Nat.mul_le_mul_left n (by omega)
         obtain⟨v,S2,r1,r2,r3,r4,r5⟩:=lookT_run n h1 m' k is mv' S1 q1 a hm' (by omega) (by omega)
         exact⟨v,S2,r1,r2,r3,by omega,by omega⟩
theorem lookP_run (n D:Nat)(h1:1<=n)(hD:n<D)(S:TS)(hl:n*(n+2)<=S.left):∃ v S',(lookP n D).run S=(some v,S')/\0<=v/\v<4 ^ n/\S'.acc.length<=S.acc.length+n*(n+2)/\S.left<=S'.left+n*(n+2):=by
 have hmul:n*(n+2)=n*(n+1)+n:=Nat.mul_succ n (n+1)
 obtain⟨was,S1,hr,q1,q2,q3⟩:=collT_run n 0 [] S (by omega)
 simp only [List.length_nil,Nat.zero_add] at q1
 have hz:∀ n,sumM (fun _=>0) n=0:=fun n=>by
  induction n with
  | zero=>rfl
  | succ n ih=>rw [sumM,ih]
 obtain⟨v,S2,r1,r2,r3,r4,r5⟩:=lookT_run n h1 n D was (fun _=>0) S1 q1 (fun _=>Nat.zero_le _) (by rw [hz];omega) hD (by omega)
 exact⟨v,S2,by unfold lookP;rw [Prog.run_bind_some hr];exact r1,r2,r3,by omega,by omega⟩
theorem sets_collT:∀ (k i:Nat) (acc:List Int),(collT k i acc).Sets 0 0
 | 0,_,acc=>.ret acc
 | k+1,i,_=>(sets_rd 0 0 (i:Int)).bind fun _=>sets_collT k (i+1) _
theorem sets_lookT (n:Nat):∀ (k:Nat) (was:List Int) (mv:Nat->Nat),(lookT n k was mv).Sets 0 0
 | 0,_,_=>.ret _
 | k+1,was,mv=>by
   unfold lookT
   refine (sets_collT n 0 []).bind fun is=>?_
   split
   · exact .ret _
   · split
     · exact sets_lookT n k _ _
     · exact .ret _
theorem sets_lookP (n D:Nat):(lookP n D).Sets 0 0:=(sets_collT n 0 []).bind fun _=>sets_lookT n D _ _
theorem notes_lookT (n:Nat):∀ (k:Nat) (was:List Int) (mv:Nat->Nat),(lookT n k was mv).Notes 0
 | 0,_,_=>.ret _ _
 | k+1,was,mv=>by
   unfold lookT
   refine (notes_collT n 0 []).bind0 fun is=>?_
   split
   · exact .ret _ _
   · split
     · exact notes_lookT n k _ _
     · exact .ret _ _
theorem notes_lookP (n D:Nat):(lookP n D).Notes 0:=(notes_collT n 0 []).bind0 fun _=>notes_lookT n D _ _
theorem lookT_bd (n:Nat):∀ (k:Nat) (was:List Int) (mv:Nat->Nat) (S S':TS) (v:Int),(lookT n k was mv).run S=(some v,S')->0<=v/\v<4 ^ n
 | 0,_,_,S,S',v,h=>by
   obtain⟨rfl,-⟩:=ret_run h
   exact⟨by omega,Int.pow_pos (by decide)⟩
 | k+1,was,mv,S,S',v,h=>by
   unfold lookT at h
   obtain⟨is,S1,_,h2⟩:=Prog.bind_some h
   split at h2
   · obtain⟨rfl,-⟩:=ret_run h2
     exact viewT_bd _ _
   · split at h2
     · exact lookT_bd n k _ _ _ _ _ h2
     · obtain⟨rfl,-⟩:=ret_run h2
       have hp:(0:Int)<4 ^ n:=Int.pow_pos (by decide)
       exact⟨Int.emod_nonneg _ (by omega),Int.emod_lt_of_pos _ hp⟩
theorem lookP_bd {n D:Nat}{S S':TS}{v:Int}(h:(lookP n D).run S=(some v,S')):0<=v/\v<4 ^ n:=by
 obtain⟨was,S1,_,h2⟩:=Prog.bind_some h
 exact lookT_bd n D _ _ _ _ _ h2
def putS (n D me:Nat) (seq v:Int):Prog Unit:=(lookP n D).bind fun view=>(gt seq).bind fun x=>(st seq (min (x+1) 1023)).bind fun _=>wr (me:Int) ((4*min (x+1) 1023+digM v)*4 ^ n+view)
end Kv
namespace Go.Proofs.Ytbphlkaihfbgeaa
open Go.RowKit Kv
set_option maxRecDepth 100000 in
set_option maxHeartbeats 2000000 in
theorem snput_p (B p n me D:Nat)(seq v:Int)(S:TS)(rs:List Reg)(b c:Nat)(w:World)(h:Plays B w p S)(hta:TameA S)(hl:RegsAt [2,3,4] w p b rs)(he:NRegs n rs)(h1:1<=n)(h4:n<=4)(hme:me<n)(hD:S.left<D)(hx:0<=S.got seq/\S.got seq<=1000000) :
  Calls Try.prog 37 #[.pointer (some ⟨p,0,none⟩),.slice (some ⟨b,0,none⟩) n c,.int .i64 seq,.int .i64 me,.int .i64 v] w (Post encU B p w ((putS n D me seq v).run S)):=by
 generalize hR:Post encU B p w ((putS n D me seq v).run S)=R
 have hO:Owes R encU B p w ((putS n D me seq v).run S):=hR▸owes _ _ _ _ _
 clear hR
 unfold putS at hO
 have d1:decide ((n:Int)<1)=false:=by rw [decide_eq_false_iff_not];omega
 have d2:decide ((4:Int)<(n:Int))=false:=by rw [decide_eq_false_iff_not];omega
 have d3:decide (n<1)=false:=by rw [decide_eq_false_iff_not];omega
 have d4:decide (4<n)=false:=by rw [decide_eq_false_iff_not];omega
 have d5:decide ((me:Int)<0)=false:=by rw [decide_eq_false_iff_not];omega
 have d6:decide ((n:Int)<=(me:Int))=false:=by rw [decide_eq_false_iff_not];omega
 have d7:decide (n<=me)=false:=by rw [decide_eq_false_iff_not];omega
 have hK:=Keep.refl [2,3,4] B p w
 have hP:=h
 clear h
 obtain⟨r,q1,q2,q3,q4,q5⟩:=he.at_ me hme
 have heh:=Lib.hid he
 have hOh:=Lib.hid hO
 clear he hO
 go_enter Try.func37,Try.ntmps37
 go_wp2_with fail
 refine tstepA (notes_lookP n D) hOh.out hK (snlook_p B p n me D S rs b c _ hP hta hl heh.out h1 h4 hme hD) (fun _ h=>⟨rfl,h⟩) ?_
 clear hOh hK hP
 intro view S2 wn hrun hlf hla hnn hP hk hK hO
 replace hl:=hl.keep hk
 have hvb:=lookP_bd hrun
 have hgot:S2.got seq=S.got seq:=by
  have h:=Prog.Sets.got (sets_lookP n D) (i:=seq) (by omega) S
  rw [hrun] at h
  exact h
 clear hk hrun hla hlf hnn
 rw [run_gt] at hO
 obtain⟨x,hxe⟩:∃ x,S2.got seq=x:=⟨_,rfl⟩
 rw [hxe] at hO
 have hxb:0<=x/\x<=1000000:=by rw [<- hxe,hgot];exact hx
 have hw1:=IntWalk.i64_in (x+1) (by omega)
 obtain⟨nx,hnx⟩:∃ nx,min (x+1) 1023=nx:=⟨_,rfl⟩
 rw [hnx] at hO
 have hnb:0<=nx/\nx<=1023:=by omega
 have hOh:=Lib.hid hO
 clear hO hgot hx
 go_wp2_with fail
 refine (get_p B p S2 seq _ hP).mono ?_
 rintro e w' ⟨rfl,rfl⟩
 rw [hxe]
 clear hxe
 go_wp2_with fail
 refine tstep hOh.out hK (setO hP) (fun _ h=>⟨rfl,h⟩) ?_
 clear hOh hK hP
 intro u S3 wm hrun hP hk hK hO
 replace hl:=hl.keep hk
 clear hk hrun
 have hOh:=Lib.hid hO
 clear hO
 have hq:Hid (∀ W u,Plays B W p S3->Calls Try.prog 42 #[.pointer (some ⟨p,0,none⟩),.agg #[.int .i64 r.kind,.int .i64 r.base,.int .i64 r.loc,.int .i64 r.n,.int .i64 r.wr,.int .i64 r.rd,.int .i64 r.top],.int .i64 me,.int .i64 u] W (Post encU B p W ((wr (me:Int) u).run S3))):=Lib.hid fun W u hP=>by
  have h:=reg_write_p B p S3 r me u W hP q2 ⟨by omega,by omega⟩
  rw [show regW r me u=wr r.base u from if_pos q3,q4] at h
  exact h
 clear q2 q3 q4 q5
 have hdb:=digM_bd v
 have hp:(4:Int) ^ n<=256:=by
  have:n=1∨n=2∨n=3∨n=4:=by omega
  rcases this with rfl | rfl | rfl | rfl <;> decide
 have hp0:(0:Int)<4 ^ n:=Int.pow_pos (by decide)
 have hw2:=IntWalk.i64_in (2*(n:Int)) (by omega)
 have hw4:=IntWalk.i64_in (4*nx) (by omega)
 have hw5:=IntWalk.i64_in (4*nx+digM v) (by omega)
 have hb2:(4*nx+digM v)*4 ^ n<=5000*256:=by
  have h1:(4*nx+digM v)*4 ^ n<=(4*nx+digM v)*256:=Int.mul_le_mul_of_nonneg_left hp (by omega)
  omega
 have hb3:0<=(4*nx+digM v)*4 ^ n:=Int.mul_nonneg (by omega) (by omega)
 have hw6:wrap64 ((4*nx+digM v)*2 ^ (2*n))=(4*nx+digM v)*4 ^ n:=by
  rw [<- four_two]
  unfold wrap64
  omega
 have hw8:IntKind.i64.wrap ((4*nx+digM v)*2 ^ (2*(n:Int)).toNat)=(4*nx+digM v)*4 ^ n:=by
  rw [show (2*(n:Int)).toNat=2*n from by omega,<- four_two]
  exact IntWalk.i64_in _ (by omega)
 have hw7:=IntWalk.i64_in ((4*nx+digM v)*4 ^ n+view) (by omega)
 have hln:(me:Int)<(n:Int):=by omega
 have hl0:(0:Int)<=(me:Int):=by omega
 obtain⟨X,hX⟩:∃ X,(4*nx+digM v)*4 ^ n=X:=⟨_,rfl⟩
 rw [hX] at hw6 hw7 hw8 hOh
 clear hX hb2 hb3 hp hp0
 obtain⟨dv,hdv⟩:∃ d,digM v=d:=⟨_,rfl⟩
 have hdig:=fun W=>digit_p v W
 rw [hdv] at hw5 hw6 hw8 hdig hdb
 go_upto_region 5 with fail
 have hlt:=hP.lt
 replace hP:=hP.drew
 replace hK:=hK.drew
 replace hl:=hl.extL (Ext.refl _).drew hlt
 obtain⟨a0,a1,a2,a3,a4,a5,a6⟩:=hl.nth q1
 have hS:(World.drew wm).cell? ⟨b,me*7,none⟩=some (.int .i64 r.kind)/\(World.drew wm).cell? ⟨b,me*7+1,none⟩=some (.int .i64 r.base)/\(World.drew wm).cell? ⟨b,me*7+2,none⟩=some (.int .i64 r.loc)/\(World.drew wm).cell? ⟨b,me*7+3,none⟩=some (.int .i64 r.n)/\(World.drew wm).cell? ⟨b,me*7+4,none⟩=some (.int .i64 r.wr)/\(World.drew wm).cell? ⟨b,me*7+5,none⟩=some (.int .i64 r.rd)/\(World.drew wm).cell? ⟨b,me*7+6,none⟩=some (.int .i64 r.top):=⟨a0,a1,a2,a3,a4,a5,a6⟩
 clear a0 a1 a2 a3 a4 a5 a6
 refine wp_region_held_drew (S:=fun w'=>w'.cell? ⟨b,me*7,none⟩=some (.int .i64 r.kind)/\w'.cell? ⟨b,me*7+1,none⟩=some (.int .i64 r.base)/\w'.cell? ⟨b,me*7+2,none⟩=some (.int .i64 r.loc)/\w'.cell? ⟨b,me*7+3,none⟩=some (.int .i64 r.n)/\w'.cell? ⟨b,me*7+4,none⟩=some (.int .i64 r.wr)/\w'.cell? ⟨b,me*7+5,none⟩=some (.int .i64 r.rd)/\w'.cell? ⟨b,me*7+6,none⟩=some (.int .i64 r.top)) rfl hS (fun hHeld=>?_)
 refine tkb 0 ?_
 iterate 9
  refine tkn (v:=?_) rfl (by kernel_rfl) (fun _ _ _ h=>h) (by assumption) ?_ ?_
  rotate_left
  · (intro w hSw;(try dsimp only at hSw);go_simp;try with_reducible rfl)
  try simp only [put_pack]
 refine tke ?_
 refine tk 11 (v:=?_) rfl (by kernel_rfl) (fun _ _ _ h=>h) (by assumption) ?_ ?_
 rotate_left
 · (intro w hSw;(try dsimp only at hSw);go_simp;try with_reducible rfl)
 try simp only [put_pack]
 refine tk 12 (v:=?_) rfl (by kernel_rfl) (fun _ _ _ h=>h) (by assumption) ?_ ?_
 rotate_left
 · (intro w hSw;(try dsimp only at hSw);go_simp;try with_reducible rfl)
 try simp only [put_pack]
 refine tk 14 (v:=?_) rfl (by kernel_rfl) (fun _ _ _ h=>h) (by assumption) ?_ ?_
 rotate_left
 · (intro w hSw;(try dsimp only at hSw);go_simp;try with_reducible rfl)
 try simp only [put_pack]
 refine wpAnyH_ready (rs:=[9]) (by kernel_rfl) (by simp) ?_
 refine AllReadyH.cons rfl (fun K hKK=>?_) (AllReadyH.nil)
 go_simp
 refine (hdig _).mono ?_
 rintro e w' ⟨rfl,rfl⟩
 refine hKK.out _ _ hS (fun hHeld=>?_)
 clear hKK K
 try dsimp only
 refine tk 10 (v:=?_) rfl (by kernel_rfl) (fun _ _ _ h=>h) (by assumption) ?_ ?_
 rotate_left
 · (intro w hSw;(try dsimp only at hSw);go_simp;try with_reducible rfl)
 try simp only [put_pack]
 refine tk 13 (v:=?_) rfl (by kernel_rfl) (fun _ _ _ h=>h) (by assumption) ?_ ?_
 rotate_left
 · (intro w hSw;(try dsimp only at hSw);go_simp;try with_reducible rfl)
 try simp only [put_pack]
 refine tk 15 (v:=?_) rfl (by kernel_rfl) (fun _ _ _ h=>h) (by assumption) ?_ ?_
 rotate_left
 · (intro w hSw;(try dsimp only at hSw);go_simp;try with_reducible rfl)
 try simp only [put_pack]
 refine wpAnyH_ready (rs:=[16]) (by kernel_rfl) (by simp) ?_
 refine AllReadyH.cons rfl (fun K hKK=>?_) (AllReadyH.nil)
 go_simp
 refine tlast hOh.out hK (hq.out _ _ hP) (fun _ h=>⟨rfl,h⟩) ?_
 clear hOh hK hP hS hdig
 intro u S4 wq hrun hP hk hK hO
 replace hl:=hl.keep hk
 obtain⟨a0,a1,a2,a3,a4,a5,a6⟩:=hl.nth q1
 refine hKK.out _ _ ⟨a0,a1,a2,a3,a4,a5,a6⟩ (fun hHeld=>?_)
 clear hKK K a0 a1 a2 a3 a4 a5 a6
 try dsimp only
 refine wpAnyH_done (by kernel_rfl) ?_ _
 go_simp
 have hf:=hO.done hP hK
 clear hO hP hK hl
 go_wp2_with fail
 first | exact hf | (refine bodyPost_end (results_none rfl _ _ _) rfl ?_;exact hf) | (refine bodyPost_ret (results_none rfl _ _ _) rfl ?_;exact hf) | (go_ret;exact hf)
end Go.Proofs.Ytbphlkaihfbgeaa
namespace Kv
def zeros (n:Nat):List Int:=List.replicate n 0
end Kv
namespace Go.Proofs.Ytbphlkaihfbgeaa
open Go.RowKit Kv
theorem make_ints (l:Int)(k:Nat)(hl:l=k)(hk:k<=100000)(w:World) :
  (Instr.makeSlice 28 (.int .i64 l) (.int .i64 l)).run Try.prog w=.ok (.slice (some ⟨w.heap.size,0,none⟩) k k) (w.alloc (.cells ((zeros k).map (Value.int .i64)).toArray 3)):=by
 subst hl
 obtain⟨i0,hi,hz0,hz1,hz2⟩:=info_parts info_int
 have hr:=run_makeSlice (P:=Try.prog) w 28 3 i0 (.int .i64 0) Try.underlying28 hi hz0 .i64 .i64 k k (by omega) (by omega) (by rw [hz1];simp;omega) (by rw [hz2];omega) (by omega)
 rw [Int.toNat_natCast,hz1,Nat.mul_one] at hr
 have he:madeCells (Value.int .i64 0).cells k=((zeros k).map (Value.int .i64)).toArray:=by
  unfold zeros madeCells
  apply Array.ext'
  rw [List.map_replicate]
  apply List.ext_getElem?
  intro j
  by_cases hj:j<k
  · simp [hj,Nat.mod_one,Value.cells]
  · simp [hj]
 rw [hr,he]
set_option maxRecDepth 100000 in
set_option maxHeartbeats 2000000 in
theorem snfine1_p (base loc n wr top C D:Int)(w:World)(hb:0<=base/\base<=100)(hl:0<=loc)(hn:1<=n/\n<=8)(hw:-1<=wr/\wr<n)(ht:1<=top/\top<=1048576)(hz:0<=C/\C<=6272/\0<=D/\D<=7072)
  (hC:∀ w,Calls Try.prog 45 #[.agg #[.int .i64 1,.int .i64 base,.int .i64 loc,.int .i64 n,.int .i64 wr,.int .i64 (-1),.int .i64 top]] w fun e w'=>e=.returned (.int .i64 C)/\Ext w w')
  (hL:∀ w,Calls Try.prog 46 #[.agg #[.int .i64 1,.int .i64 base,.int .i64 loc,.int .i64 n,.int .i64 wr,.int .i64 (-1),.int .i64 top]] w fun e w'=>e=.returned (.int .i64 D)/\Ext w w') :
  Calls Try.prog 87 #[.agg #[.int .i64 1,.int .i64 base,.int .i64 loc,.int .i64 n,.int .i64 wr,.int .i64 (-1),.int .i64 top]] w fun e w'=>e=.returned (.bool (decide (base<=32768)&&decide (loc<=32768)&&decide (base+C<=32768)&&decide (loc+D<=32768)))/\Ext w w':=by
 have d3:decide (n<1)=false:=by simpa using hn.1
 have d4:decide (8<n)=false:=by simpa using hn.2
 have d5:decide (top<1)=false:=by simpa using ht.1
 have d6:decide (1099511627776<top)=false:=by rw [decide_eq_false_iff_not];omega
 have d7:decide (wr < -1)=false:=by rw [decide_eq_false_iff_not];omega
 have d8:decide (n<=wr)=false:=by rw [decide_eq_false_iff_not];omega
 have d9:decide (n<=-1)=false:=by rw [decide_eq_false_iff_not];omega
 have hX:=Ext.refl w
 have b1:=Blk.new w (.cells #[.int .i64 1,.int .i64 base,.int .i64 loc,.int .i64 n,.int .i64 wr,.int .i64 (-1),.int .i64 top] 56)
 replace hX:=hX.alloc (.cells #[.int .i64 1,.int .i64 base,.int .i64 loc,.int .i64 n,.int .i64 wr,.int .i64 (-1),.int .i64 top] 56)
 have c_b1:=b1.cells
 have hW1:=fun w=>within_p base C w ⟨hb.1,by omega⟩
 have hW2:=fun w=>within_p loc D w ⟨hl,by omega⟩
 have he:(decide (base<=32768)&&decide (loc<=32768)&&decide (base+C<=32768)&&decide (loc+D<=32768))=((decide (base<=32768)&&decide (base+C<=32768))&&(decide (loc<=32768)&&decide (loc+D<=32768))):=by
  cases decide (base<=32768) <;> cases decide (loc<=32768) <;> simp
 rw [he]
 clear he
 have hF1:Hid (true=(decide (base<=32768)&&decide (base+C<=32768))):=Lib.hid (by rw [decide_eq_true (by omega:base<=32768),decide_eq_true (by omega:base+C<=32768)];rfl)
 generalize (decide (base<=32768)&&decide (base+C<=32768))=F1 at *
 generalize (decide (loc<=32768)&&decide (loc+D<=32768))=F2 at *
 clear hz hb hl hn hw ht
 go_enter Try.func87,Try.ntmps87
 go_wp2_with fail
 generalize w.alloc (.cells #[.int .i64 1,.int .i64 base,.int .i64 loc,.int .i64 n,.int .i64 wr,.int .i64 (-1),.int .i64 top] 56)=W0 at *
 have hE:=hX.drew
 replace b1:=b1.drew
 clear hX c_b1
 have hX:=hE
 have c_b1:=b1.cells
 go_region_held2 (fun w'=>∀ i,w'.cell? ⟨w.heap.size,i,none⟩=(#[.int .i64 1,.int .i64 base,.int .i64 loc,.int .i64 n,.int .i64 wr,.int .i64 (-1),.int .i64 top]:Array Value)[i]?) (exact c_b1)
  (first
    | (go_at_call 145
       refine (greatest1_p _).mono ?_
       rintro e w' ⟨rfl,rfl⟩))
 rename_i hh
 clear hh hE
 generalize W0.drew=W at *
 go_wp2_with fail
 have hS:∀ w',Ext W w'->(∀ i,w'.cell? ⟨w.heap.size,i,none⟩=(#[.int .i64 1,.int .i64 base,.int .i64 loc,.int .i64 n,.int .i64 wr,.int .i64 (-1),.int .i64 top]:Array Value)[i]?):=fun w' hx=>(b1.ext hx).cells
 have hXW:=hX
 clear hX c_b1
 have hX:=(Ext.refl W).drew
 have hF2:=hF1.out
 clear hF1
 subst hF2
 go_region_held2 (fun w'=>∀ i,w'.cell? ⟨w.heap.size,i,none⟩=(#[.int .i64 1,.int .i64 base,.int .i64 loc,.int .i64 n,.int .i64 wr,.int .i64 (-1),.int .i64 top]:Array Value)[i]?) (exact hS _ hX)
  (first
     | (go_at_call 45
        refine (hC _).mono ?_
        rintro e w2 ⟨rfl,hx⟩
        replace hX:=hX.trans hx
        clear hx)
     | (go_at_call 46
        refine (hL _).mono ?_
        rintro e w2 ⟨rfl,hx⟩
        replace hX:=hX.trans hx
        clear hx)
     | (go_at_call_of 146 (Value.int IntKind.i64 base)
        refine (hW1 _).mono ?_
        rintro e w' ⟨rfl,rfl⟩)
     | (go_at_call_of 146 (Value.int IntKind.i64 loc)
        refine (hW2 _).mono ?_
        rintro e w' ⟨rfl,rfl⟩))
 go_wp2_with fail
 go_ret
 exact⟨rfl,hXW.trans hX⟩
theorem snfine_p (j n:Nat)(w:World)(hj:j<n)(h4:n<=4):Calls Try.prog 87 #[.agg #[.int .i64 1,.int .i64 j,.int .i64 0,.int .i64 n,.int .i64 j,.int .i64 (-1),.int .i64 1048576]] w fun e w'=>e=.returned (.bool true)/\Ext w w':=by
 refine (snfine1_p j 0 n j 1048576 1 0 w (by omega) (by omega) (by omega) (by omega) (by decide) (by decide) (fun w=>cells_all ⟨1,j,0,n,j,-1,1048576⟩ w (.inl rfl) ⟨by show (1:Int)<=n;omega,by show (n:Int)<=8;omega⟩) (fun w=>locals_p ⟨1,j,0,n,j,-1,1048576⟩ w (.inl rfl) ⟨by show (1:Int)<=n;omega,by show (n:Int)<=8;omega⟩)).mono ?_
 rintro e w' ⟨rfl,hx⟩
 refine⟨?_,hx⟩
 rw [decide_eq_true (by omega:(j:Int)<=32768),decide_eq_true (by omega:(0:Int)<=32768),decide_eq_true (by omega:(j:Int)+1<=32768),decide_eq_true (by omega:(0:Int)+0<=32768)]
 rfl
def snReg (n j:Nat):Reg:=⟨1,j,0,n,j,-1,1048576⟩
def snRegs (n:Nat):List Reg:=(List.range n).map (snReg n)
theorem snRegs_ok (n:Nat)(h1:1<=n)(h4:n<=4):NRegs n (snRegs n):=by
 refine⟨by simp [snRegs],fun i hi=>⟨snReg n i,by simp [snRegs,hi],⟨.inl rfl,?_,?_,?_,fun h=>by cases h⟩,rfl,rfl,rfl⟩⟩
 · show (0:Int)<=(i:Int)/\(i:Int)<=32768;omega
 · show (0:Int)<=0/\(0:Int)<=32768;omega
 · show (1:Int)<=(n:Int)/\(n:Int)<=8;omega
def regRow (f:Nat->Reg) (n:Nat):List Value:=((List.range n).map f).flatMap regVals
theorem regRow_succ (f:Nat->Reg)(j:Nat):regRow f (j+1)=regRow f j++regVals (f j):=by
 unfold regRow
 rw [List.range_succ,List.map_append,List.flatMap_append]
 simp
set_option maxRecDepth 100000 in
theorem snregs_p (n:Nat)(w:World)(h1:1<=n)(h4:n<=4):Calls Try.prog 32 #[.int .i64 n,.int .i64 1,.int .i64 0,.int .i64 0] w fun e w'=>∃ b c,e=.returned (.tuple #[.slice (some ⟨b,0,none⟩) n c,.int .i64 0,.int .i64 0])/\Ext w w'/\b<w'.heap.size/\(∀ (i:Nat) u,((snRegs n).flatMap regVals)[i]?=some u->w'.cell? ⟨b,i,none⟩=some u):=by
 have d1:decide ((n:Int)<1)=false:=by rw [decide_eq_false_iff_not];omega
 have d2:decide ((4:Int)<(n:Int))=false:=by rw [decide_eq_false_iff_not];omega
 have d3:decide (n<1)=false:=by rw [decide_eq_false_iff_not];omega
 have d4:decide (4<n)=false:=by rw [decide_eq_false_iff_not];omega
 go_enter Try.func32,Try.ntmps32
 go_wp2_with fail
 go_loopw [2,3,12,39] (fun a2 a3 a12 a39 wr=>∃ j:Nat,a2=.int .i64 j/\a3=.int .i64 0/\a39=.int .i64 j/\j<=n/\wr.ownsRow w.heap.size 56 7 a12 j (regRow (snReg n) j)/\Ext w wr) (fun _ _ _ a39 _=>n-(intOf a39).toNat)
 case atStart=>exact⟨0,rfl,rfl,rfl,by omega,World.ownsRow_nil _ _ _ _,Ext.refl _⟩
 case round =>
  obtain⟨j,rfl,rfl,rfl,hj,hown,hE⟩:=hrel
  by_cases hl:j<n
  · have dj:decide ((j:Int)<(n:Int))=true:=by rw [decide_eq_true_eq];omega
    have hff:=fun W=>snfine_p j n W hl h4
    have hcc:∀ W,Calls Try.prog 45 #[.agg #[.int .i64 1,.int .i64 j,.int .i64 0,.int .i64 n,.int .i64 j,.int .i64 (-1),.int .i64 1048576]] W fun e w'=>e=.returned (.int .i64 1)/\Ext W w':=fun W=>cells_all ⟨1,j,0,n,j,-1,1048576⟩ W (.inl rfl) ⟨by show (1:Int)<=n;omega,by show (n:Int)<=8;omega⟩
    have hll:∀ W,Calls Try.prog 46 #[.agg #[.int .i64 1,.int .i64 j,.int .i64 0,.int .i64 n,.int .i64 j,.int .i64 (-1),.int .i64 1048576]] W fun e w'=>e=.returned (.int .i64 0)/\Ext W w':=fun W=>locals_p ⟨1,j,0,n,j,-1,1048576⟩ W (.inl rfl) ⟨by show (1:Int)<=n;omega,by show (n:Int)<=8;omega⟩
    have g1:=Blk.new wr (.cells #[.int .i64 1,.int .i64 j,.int .i64 0,.int .i64 n,.int .i64 j,.int .i64 (-1),.int .i64 1048576] 56)
    have hown2:=row_ext hown ((Ext.refl wr).alloc (.cells #[.int .i64 1,.int .i64 j,.int .i64 0,.int .i64 n,.int .i64 j,.int .i64 (-1),.int .i64 1048576] 56))
    have hE2:=hE.alloc (.cells #[.int .i64 1,.int .i64 j,.int .i64 0,.int .i64 n,.int .i64 j,.int .i64 (-1),.int .i64 1048576] 56)
    have hgn:Hid (∀ k,u12.ownBlock=some k->k≠wr.heap.size):=Lib.hid fun k e=>by have:=(World.ownsRow.lt hown _ e).2;omega
    go_upto_region 14 with fail
    generalize hz3:wr.heap.size=z3 at *
    generalize hW3:World.alloc wr _=W3 at *
    clear hz3 hW3
    have c_1:=g1.cells
    go_wp2_with fail
    refine (hff _).mono ?_
    rintro e w4 ⟨rfl,hx⟩
    replace g1:=g1.ext hx
    replace hown2:=row_ext hown2 hx
    replace hE2:=hE2.trans hx
    clear hx c_1 hff hown hE
    have c_1:=g1.cells
    have hownh:=Lib.hid hown2
    clear hown2
    go_wp2_with (at_builtin;refine append_rec info_reg Try.underlying44 rfl (by decide) (by decide) rfl _ _ rfl _ j (regRow (snReg n) j) [.int .i64 1,.int .i64 j,.int .i64 0,.int .i64 n,.int .i64 j,.int .i64 (-1),.int .i64 1048576] hE2 hownh.out rfl rfl rfl (by simp [Value.oneCell']) (by omega) ?_)
    intro v' w5 ho4 hx4 hbk
    have g4:Blk w5 z3 (.cells #[.int .i64 1,.int .i64 j,.int .i64 0,.int .i64 n,.int .i64 j,.int .i64 (-1),.int .i64 1048576] 56):=(hbk _ g1.lt (fun e=>hgn.out _ e rfl)).trans g1
    have c_4:=g4.cells
    clear hbk hownh hE2 c_1 hgn g1
    go_wp2_with fail
    refine (hcc _).mono ?_
    rintro e w6 ⟨rfl,hx⟩
    replace g4:=g4.ext hx
    replace ho4:=row_ext ho4 hx
    replace hx4:=hx4.trans hx
    clear c_4 hx hcc
    have c_4:=g4.cells
    have hw1:=IntWalk.i64_in ((j:Int)+1) (by omega)
    go_wp2_with fail
    refine (hll _).mono ?_
    rintro e w7 ⟨rfl,hx⟩
    replace ho4:=row_ext ho4 hx
    replace hx4:=hx4.trans hx
    clear c_4 g4 hx hll
    have ho5:Hid (w7.ownsRow w.heap.size 56 7 v' (j+1) (regRow (snReg n) (j+1))):=by
     rw [regRow_succ]
     exact ho4
    clear ho4
    go_wp2_with fail
    refine⟨⟨j+1,by first | rfl | go_num,rfl,by first | rfl | go_num,by omega,ho5.out,hx4⟩,?_⟩
    simp [intOf];omega
  · obtain rfl:j=n:=by omega
    have dj:decide ((j:Int)<(j:Int))=false:=by simp
    have hlen:(snRegs j).length=j:=by simp [snRegs]
    obtain⟨Ar,cr,hu,r1,r2,hV⟩:=Recs.of_row (xs:=(snRegs j).flatMap regVals) hown
    obtain⟨b,rfl,hb,hc⟩:=hV (by
     obtain⟨k,rfl⟩:∃ k,j=k+1:=⟨j-1,by omega⟩
     simp [snRegs,List.range_succ,regVals])
    subst hu
    have hch:=Lib.hid hc
    have hEh:=Lib.hid hE
    clear hown hc hV hE
    go_wp2_with fail
    refine bodyPost_ret (v:=.tuple #[.slice (some ⟨b,0,none⟩) j cr,.int .i64 0,.int .i64 0]) (by simp [results,Try.results32,go_sem]) rfl ?_
    exact⟨b,cr,rfl,hEh.out,hb,hch.out⟩
theorem snregs_5 (w:World):Calls Try.prog 32 #[.int .i64 5,.int .i64 1,.int .i64 0,.int .i64 0] w fun e w'=>e=.returned (.tuple #[.slice none 0 0,.int .i64 0,.int .i64 1])/\Ext w w':=by
 go_enter Try.func32,Try.ntmps32
 go_wp2_with fail
 refine bodyPost_ret (v:=.tuple #[.slice none 0 0,.int .i64 0,.int .i64 1]) (by simp [results,Try.results32,go_sem]) rfl ?_
 exact⟨rfl,Ext.refl w⟩
theorem snat_p (w:World):Calls Try.prog 86 #[.int .i64 49,.int .i64 2] w fun e w'=>e=.returned (.int .i64 3)/\w=w':=by
 have h1:∀ w,(Op.shift .shr .i64 49 .i64 4).run Try.prog w=.ok (.int .i64 3) w:=fun _=>by kernel_rfl
 have h2:bits .and .i64 3 3=3:=by kernel_rfl
 have h3:IntKind.i64.wrap 4=4:=by kernel_rfl
 go_enter Try.func86,Try.ntmps86
 go_wp2_with fail
 first | exact⟨rfl,rfl⟩ | (go_ret;exact⟨rfl,rfl⟩)
end Go.Proofs.Ytbphlkaihfbgeaa
namespace Kv
end Kv
namespace Go.Proofs.Ytbphlkaihfbgeaa
open Go.RowKit Kv
@[go_sem] theorem build_lock3 (a b c:Int) (w:World):(Instr.build 23 #[(0,.int .i64 a),(1,.int .i64 b),(2,.int .i64 c)]).run Try.prog w=.ok (.agg #[.int .i64 a,.int .i64 b,.int .i64 c,.int .i64 0,.int .i64 0,.int .i64 0]) w:=run_build w 23 _ _ (by kernel_rfl)
@[go_sem] theorem build_acc3 (a b c:Int) (w:World):(Instr.build 54 #[(0,.int .i64 a),(1,.int .i64 b),(2,.int .i64 c)]).run Try.prog w=.ok (.agg #[.int .i64 a,.int .i64 b,.int .i64 c]) w:=run_build w 54 _ _ (by kernel_rfl)
theorem snal1 (B p D:Nat)(S:TS)(b c bl:Nat)(w:World)(h:Plays B w p S)(hta:TameA S)(hl:RegsAt [2,3,4] w p b (snRegs 2))(hD:S.left<D)(c_0:w.cell? ⟨bl,0,none⟩=some (.slice (some ⟨b,0,none⟩) 2 c)) :
  Calls Try.prog 83 #[.pointer (some ⟨p,0,none⟩),.pointer (some ⟨bl,0,none⟩)] w (Post encI B p w ((lookP 2 D).run S)):=by
 have hq:=snlook_p B p 2 0 D S (snRegs 2) b c w h hta hl (snRegs_ok 2 (by first | decide | assumption) (by first | decide | assumption)) (by first | decide | assumption) (by first | decide | assumption) (by first | decide | assumption) hD
 generalize hR:Post encI B p w ((lookP 2 D).run S)=R
 have hO:Owes R encI B p w ((lookP 2 D).run S):=hR▸owes _ _ _ _ _
 clear hR
 have hK:=Keep.refl [2,3,4] B p w
 go_enter Try.func83,Try.ntmps83
 go_wp2_with fail
 clear c_0
 refine tlast hO hK hq (fun _ h=>⟨rfl,h⟩) ?_
 intro v S1 w1 hr hP1 hk1 hK1 hO1
 have hf:=hO1.done hP1 hK1
 clear hO1 hP1 hK1 hr hk1 hO h hK hq hl
 go_wp2_with fail
 first | exact hf | (go_ret;exact hf)
theorem snal2 (B p D:Nat)(S:TS)(b c bl bs:Nat)(w:World)(h:Plays B w p S)(hta:TameA S)(hl:RegsAt [2,3,4] w p b (snRegs 2))(hD:S.left<D)(hx:0<=S.got 0/\S.got 0<=1000000)(c_0:w.cell? ⟨bl,0,none⟩=some (.slice (some ⟨b,0,none⟩) 2 c))(c_1:w.cell? ⟨bs,0,none⟩=some (.int .i64 0)) :
  Calls Try.prog 84 #[.pointer (some ⟨p,0,none⟩),.pointer (some ⟨bl,0,none⟩),.pointer (some ⟨bs,0,none⟩)] w (Post encI B p w (((putS 2 D 1 0 2).bind fun _=>Prog.ret (0:Int)).run S)):=by
 have hq:=snput_p B p 2 1 D 0 2 S (snRegs 2) b c w h hta hl (snRegs_ok 2 (by first | decide | assumption) (by first | decide | assumption)) (by first | decide | assumption) (by first | decide | assumption) (by first | decide | assumption) hD hx
 generalize hR:Post encI B p w (((putS 2 D 1 0 2).bind fun _=>Prog.ret (0:Int)).run S)=R
 have hO:Owes R encI B p w (((putS 2 D 1 0 2).bind fun _=>Prog.ret (0:Int)).run S):=hR▸owes _ _ _ _ _
 clear hR
 have hK:=Keep.refl [2,3,4] B p w
 go_enter Try.func84,Try.ntmps84
 go_wp2_with fail
 clear c_0 c_1
 refine tstep hO hK hq (fun _ h=>⟨rfl,h⟩) ?_
 intro u S1 w1 hr hP1 hk1 hK1 hO1
 have hf:=Owes.done (v:=(0:Int)) hO1 hP1 hK1
 clear hO1 hP1 hK1 hr hk1 hO h hK hq hl
 go_wp2_with fail
 first | exact hf | (go_ret;exact hf)
theorem sncl1 (B p D:Nat)(S:TS)(b c bl bt:Nat)(n t:Nat)(h1:1<=n)(h4:n<=4)(ht:t<n)(w:World)(h:Plays B w p S)(hta:TameA S)(hl:RegsAt [2,3,4] w p b (snRegs n))(hD:S.left<D)(c_0:w.cell? ⟨bl,0,none⟩=some (.slice (some ⟨b,0,none⟩) n c))(c_1:w.cell? ⟨bt,0,none⟩=some (.int .i64 t)) :
  Calls Try.prog 34 #[.pointer (some ⟨p,0,none⟩),.pointer (some ⟨bl,0,none⟩),.pointer (some ⟨bt,0,none⟩)] w (Post encI B p w ((lookP n D).run S)):=by
 have hq:=snlook_p B p n t D S (snRegs n) b c w h hta hl (snRegs_ok n (by first | decide | assumption) (by first | decide | assumption)) (by first | decide | assumption) (by first | decide | assumption) (by first | decide | assumption) hD
 generalize hR:Post encI B p w ((lookP n D).run S)=R
 have hO:Owes R encI B p w ((lookP n D).run S):=hR▸owes _ _ _ _ _
 clear hR
 have hK:=Keep.refl [2,3,4] B p w
 go_enter Try.func34,Try.ntmps34
 go_wp2_with fail
 clear c_0 c_1
 refine tlast hO hK hq (fun _ h=>⟨rfl,h⟩) ?_
 intro v S1 w1 hr hP1 hk1 hK1 hO1
 have hf:=hO1.done hP1 hK1
 clear hO1 hP1 hK1 hr hk1 hO h hK hq hl
 go_wp2_with fail
 first | exact hf | (go_ret;exact hf)
theorem sncl2 (B p D:Nat)(S:TS)(b c bl bs bt bv:Nat)(n t:Nat)(v:Int)(h1:1<=n)(h4:n<=4)(ht:t<n)(w:World)(h:Plays B w p S)(hta:TameA S)(hl:RegsAt [2,3,4] w p b (snRegs n))(hD:S.left<D)(hx:0<=S.got 0/\S.got 0<=1000000)(c_0:w.cell? ⟨bl,0,none⟩=some (.slice (some ⟨b,0,none⟩) n c))(c_1:w.cell? ⟨bs,0,none⟩=some (.int .i64 0))(c_2:w.cell? ⟨bt,0,none⟩=some (.int .i64 t))(c_3:w.cell? ⟨bv,0,none⟩=some (.int .i64 v)) :
  Calls Try.prog 36 #[.pointer (some ⟨p,0,none⟩),.pointer (some ⟨bl,0,none⟩),.pointer (some ⟨bs,0,none⟩),.pointer (some ⟨bt,0,none⟩),.pointer (some ⟨bv,0,none⟩)] w (Post encI B p w (((putS n D t 0 v).bind fun _=>Prog.ret (0:Int)).run S)):=by
 have hq:=snput_p B p n t D 0 v S (snRegs n) b c w h hta hl (snRegs_ok n (by first | decide | assumption) (by first | decide | assumption)) (by first | decide | assumption) (by first | decide | assumption) (by first | decide | assumption) hD hx
 generalize hR:Post encI B p w (((putS n D t 0 v).bind fun _=>Prog.ret (0:Int)).run S)=R
 have hO:Owes R encI B p w (((putS n D t 0 v).bind fun _=>Prog.ret (0:Int)).run S):=hR▸owes _ _ _ _ _
 clear hR
 have hK:=Keep.refl [2,3,4] B p w
 go_enter Try.func36,Try.ntmps36
 go_wp2_with fail
 clear c_0 c_1 c_2 c_3
 refine tstep hO hK hq (fun _ h=>⟨rfl,h⟩) ?_
 intro u S1 w1 hr hP1 hk1 hK1 hO1
 have hf:=Owes.done (v:=(0:Int)) hO1 hP1 hK1
 clear hO1 hP1 hK1 hr hk1 hO h hK hq hl
 go_wp2_with fail
 first | exact hf | (go_ret;exact hf)
set_option maxRecDepth 100000 in
set_option maxHeartbeats 2000000 in
theorem alive51 (w:World):Calls Try.prog 31 #[] w fun e w'=>e=.returned (.bool true)/\Ext w w':=by
 have hmf:∀ (fn:Fn) (first cap:Array Value) (w:World),(Instr.makeFunc fn first cap).run Try.prog w=.ok (.func fn first cap) w:=fun _ _ _ _=>rfl
 go_enter Try.func31,Try.ntmps31
 go_wp2_with fail
 refine (snregs_p 2 w (by decide) (by decide)).mono ?_
 rintro e w2 ⟨b,c,rfl,hX,hb,hc⟩
 go_upto_region 2 with fail
 have g1:=(Blk.new w2 (.cells #[.slice (some ⟨b,0,none⟩) 2 c] 44)).alloc (.cells #[.int .i64 0] 3)
 have g2:=Blk.new (w2.alloc (.cells #[.slice (some ⟨b,0,none⟩) 2 c] 44)) (.cells #[.int .i64 0] 3)
 have x1:=((Ext.refl w2).alloc (.cells #[.slice (some ⟨b,0,none⟩) 2 c] 44)).alloc (.cells #[.int .i64 0] 3)
 simp only [World.size_alloc] at g1 g2 x1
 generalize World.alloc (World.alloc w2 _) _=W0 at *
 go_wp2_with fail
 refine (snregs_5 _).mono ?_
 rintro e w3 ⟨rfl,hx3⟩
 replace g1:=g1.ext hx3
 replace g2:=g2.ext hx3
 replace x1:=x1.trans hx3
 clear hx3
 have c_g1:=g1.cells
 go_upto_region 5 with fail
 have hA:=ints_new w3 [0,117,0,117] (by simp)
 have x3:=(Ext.refl w3).alloc (.cells (([0,117,0,117]:List Int).map (Value.int .i64)).toArray 3)
 replace g1:=g1.ext x3
 replace g2:=g2.ext x3
 replace x1:=x1.trans x3
 simp only [List.map_cons,List.map_nil,List.length_cons,List.length_nil] at hA g1 g2 x1 x3
 have hsz:w3.heap.size<(World.alloc w3 (.cells #[.int .i64 0,.int .i64 117,.int .i64 0,.int .i64 117] 3)).heap.size:=by simp
 clear x3 c_g1
 go_wp2_with fail
 generalize World.alloc w3 _=W1 at *
 refine (play_int 83 #[.pointer (some ⟨w2.heap.size,0,none⟩)] (lookP 2 5) none 0 [] (some ⟨w3.heap.size,0,none⟩) 4 [0,117,0,117] W1 (Ints.nil _) (by simp) hA (by decide) (fun k hk=>by simp only [Value.ownBlock,Option.some.injEq] at hk;omega) (fun _ _=>rfl) (fun W p hxW hP=>snal1 _ p 5 _ b c w2.heap.size W hP (show TameA (TS0 [] [0,117,0,117]) from by unfold TameA TS0;simp) (regsP hb hc (x1.trans hxW) hP x1.size) (by decide) ((g1.ext hxW).cells 0))).mono ?_
 rintro e y1 ⟨v1,rfl,hO,hx1⟩
 have e1:((lookP 2 5).run (TS0 [] [0,117,0,117])).1=some 12:=by rfl
 have e2:((lookP 2 5).run (TS0 [] [0,117,0,117])).2.acc.length=4:=by rfl
 rw [e1] at hO ⊢
 generalize ((lookP 2 5).run (TS0 [] [0,117,0,117])).2=S1 at *
 obtain⟨A1,c1,A1',c1',As1,k1,n1,rfl⟩:=hO.parts
 rw [e2] at *
 simp only [Option.getD_some,Option.isSome_some]
 replace g1:=g1.ext hx1
 replace g2:=g2.ext hx1
 replace x1:=x1.trans hx1
 clear e1 e2 hO hA hsz hx1
 go_upto_region 6 with fail
 have g3:=Blk.new y1 (.cells #[.bool true,.slice A1 4 c1,.slice A1' S1.nts.length c1',.slice As1 n1 k1] 30)
 have x3:=(Ext.refl y1).alloc (.cells #[.bool true,.slice A1 4 c1,.slice A1' S1.nts.length c1',.slice As1 n1 k1] 30)
 have hA:=ints_new (y1.alloc (.cells #[.bool true,.slice A1 4 c1,.slice A1' S1.nts.length c1',.slice As1 n1 k1] 30)) [0,0,0,0,0] (by simp)
 have hmk:=make_ints 5 5 rfl (by decide) (y1.alloc (.cells #[.bool true,.slice A1 4 c1,.slice A1' S1.nts.length c1',.slice As1 n1 k1] 30))
 replace g3:=g3.alloc (.cells (([0,0,0,0,0]:List Int).map (Value.int .i64)).toArray 3)
 replace x3:=x3.alloc (.cells (([0,0,0,0,0]:List Int).map (Value.int .i64)).toArray 3)
 replace g1:=g1.ext x3
 replace g2:=g2.ext x3
 replace x1:=x1.trans x3
 simp only [World.size_alloc,zeros,List.replicate,List.map_cons,List.map_nil,List.length_cons,List.length_nil] at hA g1 g2 g3 x1 x3 hmk
 have hsz:y1.heap.size+1<(World.alloc (World.alloc y1 (.cells #[.bool true,.slice A1 4 c1,.slice A1' S1.nts.length c1',.slice As1 n1 k1] 30)) (.cells #[.int .i64 0,.int .i64 0,.int .i64 0,.int .i64 0,.int .i64 0] 3)).heap.size:=by simp
 clear x3
 go_wp2_with fail
 clear hmk
 generalize World.alloc (World.alloc y1 _) _=W2 at *
 refine (play_int 84 #[.pointer (some ⟨w2.heap.size,0,none⟩),.pointer (some ⟨w2.heap.size+1,0,none⟩)] ((putS 2 6 1 0 2).bind fun _=>.ret 0) none 0 [] (some ⟨y1.heap.size+1,0,none⟩) 5 [0,0,0,0,0] W2 (Ints.nil _) (by simp) hA (by decide) (fun k hk=>by simp only [Value.ownBlock,Option.some.injEq] at hk;omega) (fun _ _=>rfl) (fun W p hxW hP=>snal2 _ p 6 _ b c w2.heap.size (w2.heap.size+1) W hP (show TameA (TS0 [] [0,0,0,0,0]) from by unfold TameA TS0;simp) (regsP hb hc (x1.trans hxW) hP x1.size) (by decide) (by decide) ((g1.ext hxW).cells 0) ((g2.ext hxW).cells 0))).mono ?_
 rintro e y2 ⟨v2,rfl,hO,hx2⟩
 have e1:(((putS 2 6 1 0 2).bind fun _=>Prog.ret (0:Int)).run (TS0 [] [0,0,0,0,0])).1=some 0:=by rfl
 have e2:(((putS 2 6 1 0 2).bind fun _=>Prog.ret (0:Int)).run (TS0 [] [0,0,0,0,0])).2.acc.length=5:=by rfl
 have e3:(((putS 2 6 1 0 2).bind fun _=>Prog.ret (0:Int)).run (TS0 [] [0,0,0,0,0])).2.acc[4]?=some ⟨2,1,96⟩:=by rfl
 rw [e1] at hO ⊢
 generalize (((putS 2 6 1 0 2).bind fun _=>Prog.ret (0:Int)).run (TS0 [] [0,0,0,0,0])).2=S2 at *
 obtain⟨A2,d2,A2',d2',vs2,L2,rfl,hO⟩:=hO
 obtain⟨As2,k2,hvs2,_,_⟩:=hO.locs.slice
 subst hvs2
 obtain⟨u2,rfl,hu2,z20,z21,z22⟩:=hO.accs.at_ e3
 simp only [Nat.reduceMul,Nat.reduceAdd] at z20 z21 z22
 unfold outV
 rw [e2] at *
 simp only [Option.getD_some,Option.isSome_some]
 have s2:=(Ext.refl y2).alloc (.cells #[.bool true,.slice (some ⟨u2,0,none⟩) 5 d2,.slice A2' S2.nts.length d2',.slice As2 (shortL L2).length k2] 30)
 have n2:=Blk.new y2 (.cells #[.bool true,.slice (some ⟨u2,0,none⟩) 5 d2,.slice A2' S2.nts.length d2',.slice As2 (shortL L2).length k2] 30)
 replace g3:=(g3.ext hx2).ext s2
 replace hX:=(hX.trans ((x1.trans hx2).trans s2))
 replace z20:=(s2.cell (p:=⟨u2,12,none⟩) hu2).trans z20
 replace z21:=(s2.cell (p:=⟨u2,13,none⟩) hu2).trans z21
 replace z22:=(s2.cell (p:=⟨u2,14,none⟩) hu2).trans z22
 have hu2':=Nat.lt_of_lt_of_le hu2 s2.size
 clear e1 e2 e3 hO hx2 hA hsz g1 g2 x1
 go_upto_region 7 with fail
 clear s2
 generalize World.alloc y2 _=W3 at *
 have hA:=ints_new W3 [1,0,3] (by simp)
 have s3:=(Ext.refl W3).alloc (.cells (([1,0,3]:List Int).map (Value.int .i64)).toArray 3)
 simp only [List.map_cons,List.map_nil,List.length_cons,List.length_nil] at hA s3
 have hV:=fun W (h:Ints W (.slice (some ⟨W3.heap.size,0,none⟩) 3 3) [1,0,3])=>view_p (some ⟨W3.heap.size,0,none⟩) [1,0,3] 3 3 (fun i=>([1,0,3]:List Int).getD i 0) W h rfl (by decide) (by decide) (fun i v hi=>by simp [List.getD,hi])
 have hv49:viewT (fun i=>([1,0,3]:List Int).getD i 0) 3=49:=by rfl
 rw [hv49] at hV
 clear hv49
 replace hV:=hV _ hA
 have hXh:=Lib.hid (hX.trans s3)
 replace g3:=g3.ext s3
 replace n2:=n2.ext s3
 replace z20:=(s3.cell (p:=⟨u2,12,none⟩) hu2').trans z20
 replace z21:=(s3.cell (p:=⟨u2,13,none⟩) hu2').trans z21
 replace z22:=(s3.cell (p:=⟨u2,14,none⟩) hu2').trans z22
 clear hA s3 hX
 go_wp2_with fail
 refine hV.mono ?_
 rintro e w' ⟨rfl,rfl⟩
 go_wp2_with fail
 refine (snat_p _).mono ?_
 rintro e w' ⟨rfl,rfl⟩
 have c_g3:=g3.cells
 have c_n2:=n2.cells
 clear g3 n2 hV hmf
 go_wp2_with fail
 first | (go_ret;exact⟨rfl,hXh.out⟩) | exact⟨rfl,hXh.out⟩
end Go.Proofs.Ytbphlkaihfbgeaa
namespace Go.Proofs.Ytbphlkaihfbgeaa
open Go.ChangeShapes Go.WideShapes Go.ChangeAt Go.RowKit Kv
def U8s (w:World) (v:Value) (l:List Int):Prop :=
 ∃ A c,v=.slice A l.length c/\l.length<=c/\c<=9223372036854775807/\(l≠[]->∃ b off,A=some ⟨b,off,none⟩/\b<w.heap.size/\∀ i x,l[i]?=some x->w.cell? ⟨b,off+i,none⟩=some (.int .u8 x))
theorem U8s.ext {w w':World}{v:Value}{l:List Int}(h:U8s w v l)(hx:Ext w w'):U8s w' v l:=by
 obtain⟨A,c,rfl,h1,h2,h3⟩:=h
 refine⟨A,c,rfl,h1,h2,fun hl=>?_⟩
 obtain⟨b,off,rfl,hb,hc⟩:=h3 hl
 exact⟨b,off,rfl,Nat.lt_of_lt_of_le hb (Ext.size hx),fun i x hi=>(Ext.cell hx (p:=⟨b,off+i,none⟩) hb).trans (hc i x hi)⟩
theorem U8s.at_ {w:World}{A:Option Addr}{n c:Nat}{l:List Int}(h:U8s w (.slice A n c) l){i:Nat}{x:Int}(hi:l[i]?=some x) :
  ∃ b off,A=some ⟨b,off,none⟩/\b<w.heap.size/\w.cell? ⟨b,off+i,none⟩=some (.int .u8 x):=by
 obtain⟨A',c',he,h1,h2,h3⟩:=h
 injection he with e1 e2 e3
 subst e1 e2 e3
 have hl:l≠[]:=by rintro rfl;simp at hi
 obtain⟨b,off,rfl,hb,hc⟩:=h3 hl
 exact⟨b,off,rfl,hb,hc i x hi⟩
end Go.Proofs.Ytbphlkaihfbgeaa
namespace Kv
theorem putS_run {n D me:Nat}{seq v vw:Int}{S S1:TS}(h:(lookP n D).run S=(some vw,S1))(hl:1<=S1.left):∃ S2,((putS n D me seq v).bind fun _=>Prog.ret (0:Int)).run S=(some 0,S2)/\S2.acc.length=S1.acc.length+1:=by
 unfold putS
 rw [Prog.bind_assoc,Prog.run_bind_some h]
 have hu:∀ i x,(S1.upd i x).left=S1.left:=fun i x=>by unfold TS.left;rw [TS.upd_ans,TS.upd_acc]
 obtain⟨u,hu2⟩:=next_left (S:=S1.upd seq (min (S1.got seq+1) 1023)) (by rw [hu];omega)
 show ∃ S2,Prog.run (.write (me:Int) ((4*min (S1.got seq+1) 1023+digM v)*4 ^ n+vw) fun _=>Prog.ret (0:Int)) (S1.upd seq (min (S1.got seq+1) 1023))=(some 0,S2)/\_
 simp only [Prog.run,hu2]
 exact⟨_,rfl,by simp [TS.put,TS.upd_acc]⟩
end Kv
namespace Go.Proofs.Ytbphlkaihfbgeaa
open Go.RowKit Kv
theorem append_zq {ops:Array Oper}{rest:List Oper}{o:Oper}{a:Act}{Q:Exit->Act->World->Prop}{w:World}(hgd:o.guard=none)(s x:Operand)
  (ho:o.op=.call { callee:=.builtin .append,args:=#[s,x],argTypes:=#[28,3] })(v v':Value)(k:Int)(w':World)(hs:a.eval s=v)(hx:a.eval x=.int .i64 k)
  (hr:(Builtin.append_ #[28,3] o.type #[v,.int .i64 k]).run Try.prog w=.ok v' w')(h:wpList Try.prog ops Q rest (a.put o.dst v') w'):wpList Try.prog ops Q (o :: rest) a w :=
 wpList_plain hgd fun _ hK=>by
  unfold Oper.wp execOp
  simp only [ho,resolve,invoke,builtin,Sem.run_bind,Sem.run_pure,Result.andThen_ok,List.map_toArray,List.map_cons,List.map_nil,hs,hx,hr]
  exact hK _ _ h
theorem tame_zeros (vA:Value)(La:List Int)(top:Int)(k:Nat)(V0:World)(hA:Ints V0 vA La)(hlen:La.length<=300)(hk0:0<k)(hk:k<=1000)(ht:0<=top/\top<=1048575) :
  Calls Try.prog 33 #[vA,.int .i64 top] V0 fun e w1=>∃ v1 g cap w2 F,e=.returned v1/\(Builtin.append_ #[28,3] 28 #[v1,.int .i64 k]).run Try.prog w1=.ok (.slice (some ⟨g,0,none⟩) (F:List Int).length cap) w2/\Ext V0 w2/\V0.heap.size<=g/\IntRow w2 V0.heap.size (.slice (some ⟨g,0,none⟩) F.length cap) F/\k<=F.length/\F.length<=300+k/\TameA (TS0 [] F):=by
 refine (tame_r _ La top _ hA).mono ?_
 rintro e w1 ⟨v1,rfl,hrow,hx1⟩
 obtain⟨A1,c1,rfl,q1,q2⟩:=hrow.ints.slice
 obtain⟨i0,hi0,hz0,hz1,hz2⟩:=info_parts info_int
 have hTl:(tameL La top).length<=300:=by unfold tameL;simp;omega
 have hTb:∀ v∈tameL La top,0<=v/\v<=1048576:=by
  intro v hv
  unfold tameL at hv
  obtain⟨x,_,rfl⟩:=List.mem_map.1 hv
  have h1:=wrapI_bd x top
  have h2:clamp top 1099511627776=top:=by unfold clamp within;omega
  omega
 obtain⟨Tl,hTe⟩:∃ Tl,Tl=tameL La top:=⟨_,rfl⟩
 rw [<- hTe] at hrow hTl hTb q1 ⊢
 clear hTe
 obtain⟨g,cap,w2,hrun,hown,hgr,hat⟩:=run_append_zeros (P:=Try.prog) (w:=w1) 28 3 28 V0.heap.size 3 i0 (.int .i64 0) 8 .i64 Try.underlying28 Try.underlying3 hi0 hz0 hz1 hz2 rfl rfl (.slice A1 Tl.length c1) Tl.length (Tl.map (Value.int .i64)) hrow k hk0 (by unfold maxLen;omega) (by omega) hx1.size
 have hX1:Ext V0 w2:=by
  refine Below.grown hx1 hgr hx1.size fun k hk=>?_
  obtain⟨_,h2⟩:=hrow
  rcases h2 with⟨e,_⟩ | ⟨g,cap,cur,e,hgb,_⟩
  · rw [e] at hk;simp [Value.ownBlock] at hk
  · rw [e] at hk
    simp [Value.ownBlock] at hk
    omega
 have hGl:(Tl++zeros k).length=Tl.length+k:=by simp [zeros]
 have hG:IntRow w2 V0.heap.size (.slice (some ⟨g,0,none⟩) (Tl++zeros k).length cap) (Tl++zeros k):=by
  unfold IntRow
  rw [hGl,List.map_append,show (zeros k).map (Value.int .i64)=List.replicate k (Value.int .i64 0) from by unfold zeros;rw [List.map_replicate]]
  exact hown
 refine⟨_,g,cap,w2,Tl++zeros k,rfl,by rw [hGl];exact hrun,hX1,(World.ownsRow.lt hG g rfl).1,hG,by omega,by omega,fun v hv=>?_⟩
 rcases List.mem_append.1 (show v∈Tl++zeros k from hv) with hv | hv
 · exact hTb v hv
 · obtain rfl:=List.eq_of_mem_replicate (show v∈List.replicate k (0:Int) from hv)
   omega
set_option maxRecDepth 100000 in
set_option maxHeartbeats 4000000 in
theorem sncosts_walk (n me:Nat)(vA:Value)(La:List Int)(v:Int)(w:World)(hn:n<256)(hme:me<256)(hA:Ints w vA La) :
  Calls Try.prog 6 #[.int .u8 n,.int .u8 me,vA,.int .i64 v] w fun e w'=>e=.returned (.bool true)/\Ext w w':=by
 have hmf:∀ (fn:Fn) (first cap:Array Value) (w:World),(Instr.makeFunc fn first cap).run Try.prog w=.ok (.func fn first cap) w:=fun _ _ _ _=>rfl
 obtain⟨m,hm⟩:∃ m:Nat,1+(n:Int) % 4=m:=⟨1+n % 4,by omega⟩
 have m1:1<=m:=by omega
 have m4:m<=4:=by omega
 obtain⟨Aa,ca,rfl,p3,p4⟩:=hA.slice
 have bV:=Blk.new w (.cells #[.int .i64 v] 3)
 have hX:=(Ext.refl w).alloc (.cells #[.int .i64 v] 3)
 have hA1:=hA.ext hX
 go_enter Try.func6,Try.ntmps6
 by_cases hl:300<La.length
 · have d1:decide ((300:Int)<(La.length:Int))=true:=by rw [decide_eq_true_eq];omega
   go_wp2_with fail
   refine (alive51 _).mono ?_
   rintro e w7 ⟨rfl,hx7⟩
   have hf:=Lib.hid (hX.trans hx7)
   clear hx7
   go_wp2_with fail
   go_ret
   exact⟨rfl,hf.out⟩
 have d1:decide ((300:Int)<(La.length:Int))=false:=by rw [decide_eq_false_iff_not];omega
 go_upto_region 4 with fail
 generalize hbv:w.heap.size=bv at *
 generalize World.alloc w _=V0 at *
 go_wp2_with fail
 refine (snregs_p m _ m1 m4).mono ?_
 rintro e w2 ⟨b,c,rfl,hx2,hb,hc⟩
 replace bV:=bV.ext hx2
 replace hX:=hX.trans hx2
 replace hA1:=hA1.ext hx2
 clear hx2
 obtain⟨t,htt⟩:∃ t:Nat,((me:Int)).tmod (m:Int)=t:=⟨(((me:Int)).tmod (m:Int)).toNat,by
  have:=Int.tmod_nonneg (m:Int) (show (0:Int)<=me by omega)
  omega⟩
 have htm:t<m:=by
  have:=Int.tmod_lt_of_pos (me:Int) (show (0:Int)<m by omega)
  omega
 have hm0:¬ m=0:=by omega
 have hwy:=IntWalk.i64_in (me:Int) (by omega)
 go_upto_region 8 with fail
 have gL:=((Blk.new w2 (.cells #[.slice (some ⟨b,0,none⟩) m c] 44)).alloc (.cells #[.int .i64 0] 3)).alloc (.cells #[.int .i64 t] 3)
 have gS:=(Blk.new (w2.alloc (.cells #[.slice (some ⟨b,0,none⟩) m c] 44)) (.cells #[.int .i64 0] 3)).alloc (.cells #[.int .i64 t] 3)
 have gT:=Blk.new ((w2.alloc (.cells #[.slice (some ⟨b,0,none⟩) m c] 44)).alloc (.cells #[.int .i64 0] 3)) (.cells #[.int .i64 t] 3)
 have x1:=(((Ext.refl w2).alloc (.cells #[.slice (some ⟨b,0,none⟩) m c] 44)).alloc (.cells #[.int .i64 0] 3)).alloc (.cells #[.int .i64 t] 3)
 simp only [World.size_alloc] at gS gT
 replace bV:=bV.ext x1
 replace hA1:=hA1.ext x1
 clear htt hwy
 generalize hz2:w2.heap.size=z2 at *
 generalize World.alloc (World.alloc (World.alloc w2 _) _) _=V1 at *
 go_wp2_with fail
 refine (tame_zeros _ La 1048575 60 V1 hA1 (by omega) (by decide) (by decide) (by decide)).mono ?_
 rintro e w3 ⟨v1,g,cap,w4,F,rfl,hrun,hx4,hgB,hG,hF1,hF2,hta⟩
 have hrunh:=Lib.hid hrun
 clear hrun
 go_wp2_with (at_builtin;refine append_zq rfl _ _ rfl _ _ _ _ rfl rfl hrunh.out ?_)
 replace bV:=bV.ext hx4
 replace gL:=gL.ext hx4
 replace gS:=gS.ext hx4
 replace gT:=gT.ext hx4
 replace x1:=x1.trans hx4
 have hFlt:∀ k,(Value.slice (some ⟨g,0,none⟩) F.length cap).ownBlock=some k->k<w4.heap.size:=fun k hk=>(World.ownsRow.lt hG k hk).2
 have hmn:m*(m+2)<=24:=by
  have:m=1∨m=2∨m=3∨m=4:=by omega
  rcases this with rfl | rfl | rfl | rfl <;> decide
 have hleft:(TS0 [] F).left=F.length:=by unfold TS.left TS0;simp
 obtain⟨vw,S1,hr1,v0,v4,q3,q4⟩:=lookP_run m (F.length+1) m1 (by omega) (TS0 [] F) (by omega)
 rw [hleft] at q4
 have q3':S1.acc.length<=m*(m+2):=by
  have:(TS0 [] F).acc.length=0:=rfl
  omega
 obtain⟨S2,hr2,q5⟩:=putS_run (n:=m) (D:=F.length+1) (me:=t) (seq:=0) (v:=v) hr1 (by omega)
 have hP1:=fun W (hx:Ext w4 W)=>play_int 34 #[.pointer (some ⟨z2,0,none⟩),.pointer (some ⟨z2+1+1,0,none⟩)] (lookP m (F.length+1)) none 0 [] (some ⟨g,0,none⟩) cap F W (Ints.nil _) (by simp) (hG.ints.ext hx) (by unfold maxAns;omega) (fun k hk=>Nat.lt_of_lt_of_le (hFlt k hk) hx.size) (fun _ _=>rfl)
  (fun W' p hxW hP=>sncl1 _ p (F.length+1) _ b c z2 (z2+1+1) m t m1 m4 htm W' hP hta (regsP (show b<w2.heap.size from hz2▸hb) hc ((x1.trans hx).trans hxW) hP (x1.trans hx).size) (by rw [hleft];omega) (((gL.ext hx).ext hxW).cells 0) (((gT.ext hx).ext hxW).cells 0))
 have hP2:=fun W (hx:Ext w4 W)=>play_int 36 #[.pointer (some ⟨z2,0,none⟩),.pointer (some ⟨z2+1,0,none⟩),.pointer (some ⟨z2+1+1,0,none⟩),.pointer (some ⟨bv,0,none⟩)] ((putS m (F.length+1) t 0 v).bind fun _=>Prog.ret (0:Int)) none 0 [] (some ⟨g,0,none⟩) cap F W (Ints.nil _) (by simp) (hG.ints.ext hx) (by unfold maxAns;omega) (fun k hk=>Nat.lt_of_lt_of_le (hFlt k hk) hx.size) (fun _ _=>rfl)
  (fun W' p hxW hP=>sncl2 _ p (F.length+1) _ b c z2 (z2+1) (z2+1+1) bv m t v m1 m4 htm W' hP hta (regsP (show b<w2.heap.size from hz2▸hb) hc ((x1.trans hx).trans hxW) hP (x1.trans hx).size) (by rw [hleft];omega) (show (0:Int)<=0/\(0:Int)<=1000000 from by decide) (((gL.ext hx).ext hxW).cells 0) (((gS.ext hx).ext hxW).cells 0) (((gT.ext hx).ext hxW).cells 0) (((bV.ext hx).ext hxW).cells 0))
 rw [hr1] at hP1
 rw [hr2] at hP2
 simp only [Option.getD_some,Option.isSome_some] at hP1 hP2
 have hP2h:=Lib.hid hP2
 have hP1h:=Lib.hid hP1
 have hXh:=Lib.hid (hX.trans (show Ext w2 w4 from x1))
 clear hP1 hP2 hX bV gL gS gT hA hA1 hG hta hrunh hx4 hr1 hr2 hFlt hleft hb hc x1 hgB q4
 go_wp2_with fail
 refine (hP1h.out _ (Ext.refl w4)).mono ?_
 rintro e y1 ⟨w1,rfl,hO,hx1⟩
 obtain⟨A1,c1,A1',c1',As1,k1,n1,rfl⟩:=hO.parts
 generalize S1.acc.length=a1 at *
 have o1:=Blk.new y1 (.cells #[.bool true,.slice A1 a1 c1,.slice A1' S1.nts.length c1',.slice As1 n1 k1] 30)
 have x2:=hx1.alloc (.cells #[.bool true,.slice A1 a1 c1,.slice A1' S1.nts.length c1',.slice As1 n1 k1] 30)
 clear hO hx1 hP1h
 go_wp2_with fail
 refine (hP2h.out _ x2).mono ?_
 rintro e y2 ⟨w2',rfl,hO,hx2⟩
 obtain⟨A2,c2,A2',c2',As2,k2,n2,rfl⟩:=hO.parts
 rw [q5] at *
 have o2:=Blk.new y2 (.cells #[.bool true,.slice A2 (a1+1) c2,.slice A2' S2.nts.length c2',.slice As2 n2 k2] 30)
 replace o1:=(o1.ext hx2).alloc (.cells #[.bool true,.slice A2 (a1+1) c2,.slice A2' S2.nts.length c2',.slice As2 n2 k2] 30)
 have hXX:=Lib.hid (((hXh.out.trans x2).trans hx2).alloc (.cells #[.bool true,.slice A2 (a1+1) c2,.slice A2' S2.nts.length c2',.slice As2 n2 k2] 30))
 clear hO hx2 hP2h hXh x2 hmf
 have c_o1:=o1.cells
 have c_o2:=o2.cells
 clear q5 q3
 have hw1:=IntWalk.i64_in ((a1:Int)+1) (by omega)
 have hn4:m=1∨m=2∨m=3∨m=4:=by omega
 rcases hn4 with rfl | rfl | rfl | rfl
 all_goals
  simp only [Nat.reduceMul,Nat.reduceAdd,Int.reducePow] at q3' v4
  have dv0:decide (0<=vw)=true:=decide_eq_true v0
  have dv4:=decide_eq_true v4
  have hs2:∀ w,(Op.shift .shl .i64 1 .i64 2).run Try.prog w=.ok (.int .i64 4) w:=fun _=>by kernel_rfl
  have hs4:∀ w,(Op.shift .shl .i64 1 .i64 4).run Try.prog w=.ok (.int .i64 16) w:=fun _=>by kernel_rfl
  have hs6:∀ w,(Op.shift .shl .i64 1 .i64 6).run Try.prog w=.ok (.int .i64 64) w:=fun _=>by kernel_rfl
  have hs8:∀ w,(Op.shift .shl .i64 1 .i64 8).run Try.prog w=.ok (.int .i64 256) w:=fun _=>by kernel_rfl
  have da:=decide_eq_true q3'
  have db:decide ((a1:Int)<=3)=decide (a1<=3):=by congr 1;exact propext (by omega)
  clear hm m1 m4 htm hm0 v0
  go_wp2_with fail
  refine (alive51 _).mono ?_
  rintro e w7 ⟨rfl,hx7⟩
  have hf:=Lib.hid (hXX.out.trans hx7)
  clear hx7 hXX
  go_wp2_with fail
  first | exact⟨rfl,hf.out⟩ | (go_ret;exact⟨rfl,hf.out⟩) | (go_ret2;exact⟨rfl,hf.out⟩)
end Go.Proofs.Ytbphlkaihfbgeaa
namespace Go.Proofs.Ytbphlkaihfbgeaa.snapCosts
open Go.ChangeShapes Go.WideShapes Go.ChangeAt Go.RowKit Kv
set_option maxRecDepth 100000 in
theorem main (H:Type)(enc:TypeId × Value->H)(W:World)(base:Nat)(args:Array Value)(ds:List (DataW H))(p:List MemPlace)
  (hval:∀ (j:Nat) t v,Try.f6.params[j]?=some t->args[j]?=some v->Value.okWide Try.prog W .any base t v)
  (hA:DataW.TrodAll enc Try.prog W 0 (fun _=>true) true Try.f6.params.toList args.toList ds p)(_hL:laidMetH Try.prog Rows.snapCostsRow.laid W) :
  Calls Try.prog 6 args W fun e w'=>e=.returned (.bool true)/\Ext W w':=by
 rw [Try.params6] at hA hval
 obtain⟨v0,vs0,d0,ds0,p0,q0,hargs,rfl,rfl,h0,r0⟩:=trodAll_cons hA
 obtain⟨v1,vs1,d1,ds1,p1,q1,rfl,rfl,rfl,h1,r1⟩:=trodAll_cons r0
 obtain⟨v2,vs2,d2,ds2,p2,q2,rfl,rfl,rfl,h2,r2⟩:=trodAll_cons r1
 obtain⟨v3,vs3,d3,ds3,p3,q3,rfl,rfl,rfl,h3,r3⟩:=trodAll_cons r2
 obtain⟨rfl,rfl,rfl⟩:=trodAll_nil r3
 obtain rfl:args=#[v0,v1,v2,v3]:=by cases args;simp_all
 obtain⟨s,rfl,rfl,rfl,ws⟩:=open_int Try.underlying5 (hval 0 5 v0 rfl rfl) h0
 have hs:=bounds_u8 ws
 obtain⟨n,rfl⟩:∃ n:Nat,s=(n:Int):=⟨s.toNat,by omega⟩
 obtain⟨s1,rfl,rfl,rfl,ws1⟩:=open_int Try.underlying5 (hval 1 5 v1 rfl rfl) h1
 have hs1:=bounds_u8 ws1
 obtain⟨me,rfl⟩:∃ n:Nat,s1=(n:Int):=⟨s1.toNat,by omega⟩
 obtain⟨La,hLa⟩:=ints_arg (hval 2 28 v2 rfl rfl) h2
 obtain⟨s3,rfl,rfl,rfl,ws3⟩:=open_int Try.underlying3 (hval 3 3 v3 rfl rfl) h3
 exact sncosts_walk n me v2 La s3 W (by omega) (by omega) hLa.1
end Go.Proofs.Ytbphlkaihfbgeaa.snapCosts
namespace Go.Proofs.Ytbphlkaihfbgeaa.snapCosts
open Go.ChangeShapes Go.WideShapes Go.ChangeAt Go.RowKit
theorem laidOut:laidOutB Try.prog=true:=by kernel_rfl
set_option maxRecDepth 100000 in
theorem contract (H:Type)(enc:TypeId × Value->H)(W:World)(base:Nat)(args:Array Value)(ds gs:List (DataW H))(before:List MemPlace)
  (hval:∀ (j:Nat) t v,Try.f6.params[j]?=some t->args[j]?=some v->Value.okWide Try.prog W .any base t v)
  (hW:DataW.Whole enc Try.prog Try.f6.params.toList Rows.snapCostsSpec.vars false W args.toList ds gs before)(hL:laidMetH Try.prog Rows.snapCostsRow.laid W) :
  Calls Try.prog 6 args W fun e W'=>∃ v,e=.returned v/\Rows.snapCostsSpec.post enc Try.prog Try.f6 false true false false W args v W':=by
 refine (main H enc W base args ds before hval (by obtain⟨p,q,hA,hV,hpq,_,_⟩:=hW;obtain⟨_,rfl⟩:=trodVars_none hV;rw [List.append_nil] at hpq;subst hpq;exact hA) hL).mono fun e W' ⟨he,hg⟩=>⟨_,he,?_⟩
 refine law_post (tb:=4) laidOut ?_ (by kernel_rfl) Try.underlying4 rfl ?_ hW hg
 · rw [Try.params6]
   intro t ht
   simp only [List.mem_cons,List.not_mem_nil,or_false] at ht
   rcases ht with rfl | rfl | rfl | rfl <;> exact⟨by kernel_rfl,of_decide_eq_true (by kernel_rfl)⟩
 · intro ds hl
   rw [Try.params6] at hl
   match ds,hl with
   | [d0,d1,d2,d3],_=>rfl
set_option maxRecDepth 100000 in
theorem laid_met (os:Os):laidMet Try.prog Rows.snapCostsRow.laid (((World.holding Try.prog os ⟨#[],#[],[]⟩)).forCall (fun _ _=>0) ⟨#[],#[.int .u8 0,.int .u8 0,.slice none 0 0,.int .i64 0],[]⟩).memory :=
 laidMet_of_run' 8 (by kernel_rfl) (by kernel_rfl)
set_option maxRecDepth 100000 in
theorem reads (os:Os){H:Type}(enc:TypeId × Value->H):∃ places,DataW.whole enc Try.prog (((World.holding Try.prog os ⟨#[],#[],[]⟩)).forCall (fun _ _=>0) ⟨#[],#[.int .u8 0,.int .u8 0,.slice none 0 0,.int .i64 0],[]⟩).memory Try.f6.params.toList Rows.snapCostsSpec.vars false (#[.int .u8 0,.int .u8 0,.slice none 0 0,.int .i64 0]:Array Value).toList 8=some ([.lit (.int .u8 0),.lit (.int .u8 0),.nil,.lit (.int .i64 0)],[],places) :=
 ⟨[],by kernel_rfl⟩
set_option maxRecDepth 100000 in
theorem lifted (os:Os)(started:os.Started)(H:Type)(enc:TypeId × Value->H)(F:Stop.Interp) :
  ReturnsInHanded {} Try.checked os 6 .any ((OpenSpec.ofChange Rows.snapCostsSpec).preRow enc Try.prog Try.f6 Rows.snapCostsRow.domain false Rows.snapCostsRow.laid) (((OpenSpec.ofChange Rows.snapCostsSpec).at F).post enc Try.prog Try.f6 false true false false):=by
 obtain⟨places,hx⟩:=reads os enc
 refine returnsInHanded_of_row (C:=Try.checked) (s:=(OpenSpec.ofChange Rows.snapCostsSpec)) own started (by kernel_rfl) Try.func6
  (witness_row_at (enc:=enc) (C:=Try.checked) false (World.holding Try.prog os ⟨#[],#[],[]⟩) #[.int .u8 0,.int .u8 0,.slice none 0 0,.int .i64 0] rfl (by kernel_rfl) (by kernel_rfl) (by kernel_rfl)
    (OpenSpec.preRow_of_cond 8 hx (by kernel_rfl) (fun k hk=>by cases hk) (by kernel_rfl) (laid_met os))) ?_
 intro W base args ds gs before hval hW _ _ _ hL _ _
 exact contract H enc W base args ds gs before hval hW hL
theorem c1:(Rows.snapCostsRow.inPlace==Try.pinned.checked.prog.inPlace 6)=true:=by kernel_rfl
theorem c2:(Rows.snapCostsRow.unfollowed==Try.pinned.checked.prog.unfollowed 6)=true:=by kernel_rfl
theorem c3:(Rows.snapCostsRow.recurses==Try.pinned.checked.prog.recurses 6)=true:=by kernel_rfl
theorem c4:(Rows.snapCostsRow.named==Try.pinned.checked.prog.varsNamed 6)=true:=by kernel_rfl
theorem closed:joinedFacts Try.pinned.checked.prog 6 Try.f6 (OpenSpec.ofChange Rows.snapCostsSpec).bare Rows.snapCostsRow=true:=by
 unfold joinedFacts
 simp only [Bool.and_eq_true]
 repeat' refine And.intro ?_ ?_
 all_goals first | with_reducible exact c1 | with_reducible exact c2 | with_reducible exact c3 | with_reducible exact c4 | kernel_rfl
theorem said:Rows.SnapCostsSaid :=
 OpenClaim.holds_of_cond 6 Try.f6 rfl rfl rfl rfl rfl rfl rfl ⟨rfl,rfl,rfl,rfl,rfl⟩ rfl rfl rfl rfl rfl (by kernel_rfl) Try.func6 closed
  (of_decide_eq_true (by kernel_rfl)) (by unfold Func.isWrapper;first | (rw [if_pos (by decide +kernel)];kernel_rfl) | (rw [if_neg (by decide +kernel)];exact⟨rfl,rfl⟩))
  (fun os started H enc _ F=>by rw [OpenClaim.pre_eq_preRow];exact lifted os started H enc F)
end Go.Proofs.Ytbphlkaihfbgeaa.snapCosts
