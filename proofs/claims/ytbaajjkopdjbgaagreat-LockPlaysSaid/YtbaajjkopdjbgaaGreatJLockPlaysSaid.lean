/-
  LockPlays holds: whoever acquires or releases a lock of any algorithm does what the document says, access by access, whatever it is answered.
-/
import Derived.Test.YtbaajjkopdjbgaaGreatJLockPlaysSaid12
import Derived.Deep.DeepCutAuto
import Derived.Deep.RegionHeld2
namespace Go.Proofs.YtbaajjkopdjbgaaGreat
open Go.RowKit Kv
theorem lkclA (B p N D:Nat)(S:TS)(alg mode base loc room:Int)(m:Nat)(rs:List Reg)(bk bt:Nat)(w:World)(h:Plays B w p S)(hk:LkOk alg N mode base loc room rs)(hm:m<N)(hN:¬ (N=1∧mode=2))(hta:TameA S)(hD:S.left<D)(hn0:S.nts.length≤100000)
  (c1:∀ i,w.cell? ⟨bk,i,none⟩=(#[.int .i64 alg,.int .i64 N,.int .i64 mode,.int .i64 base,.int .i64 loc,.int .i64 room]:Array Value)[i]?)(c2:w.cell? ⟨bt,0,none⟩=some (.int .i64 m)) :
  Calls Tryz.prog 25 #[.pointer (some ⟨p,0,none⟩),.pointer (some ⟨bk,0,none⟩),.pointer (some ⟨bt,0,none⟩)] w (Post encI B p w ((lkA D alg N base loc room rs m).run S)):=by
 have hq:=lkacq_p B p N D S alg mode base loc room m rs w h hk hm hN hta hD hn0
 generalize hR:Post encI B p w ((lkA D alg N base loc room rs m).run S)=R
 have hO:Owes R encI B p w ((lkA D alg N base loc room rs m).run S):=hR▸owes _ _ _ _ _
 clear hR
 have hK:=Keep.refl [2,3,4] B p w
 clear hk
 go_enter Tryz.func25,Tryz.ntmps25
 go_wp2_with fail
 clear c1 c2
 refine tlast hO hK hq (fun _ h=>⟨rfl,h⟩) ?_
 intro v S1 w1 hr hP1 hk1 hK1 hO1
 have hf:=hO1.done hP1 hK1
 clear hO1 hP1 hK1 hr hk1 hO h hK hq
 go_wp2_with fail
 first | exact hf | (go_ret;exact hf)
theorem lkclR (B p N:Nat)(S:TS)(alg mode base loc room:Int)(m:Nat)(rs:List Reg)(bk bt:Nat)(w:World)(h:Plays B w p S)(hk:LkOk alg N mode base loc room rs)(hm:m<N)(hn0:S.nts.length≤100000)
  (c1:∀ i,w.cell? ⟨bk,i,none⟩=(#[.int .i64 alg,.int .i64 N,.int .i64 mode,.int .i64 base,.int .i64 loc,.int .i64 room]:Array Value)[i]?)(c2:w.cell? ⟨bt,0,none⟩=some (.int .i64 m)) :
  Calls Tryz.prog 29 #[.pointer (some ⟨p,0,none⟩),.pointer (some ⟨bk,0,none⟩),.pointer (some ⟨bt,0,none⟩)] w (Post encI B p w (((lkR alg N base loc rs m).bind fun _=>.ret 0).run S)):=by
 have hq:=lkrel_p B p N S alg mode base loc room m rs w h hk hm hn0
 generalize hR:Post encI B p w (((lkR alg N base loc rs m).bind fun _=>.ret 0).run S)=R
 have hO:Owes R encI B p w (((lkR alg N base loc rs m).bind fun _=>.ret 0).run S):=hR▸owes _ _ _ _ _
 clear hR
 have hK:=Keep.refl [2,3,4] B p w
 clear hk
 go_enter Tryz.func29,Tryz.ntmps29
 go_wp2_with fail
 clear c1 c2
 refine tstep hO hK hq (fun _ h=>⟨rfl,h⟩) ?_
 intro v S1 w1 hr hP1 hk1 hK1 hO1
 have hf:=hO1.done (v:=(0:Int)) hP1 hK1
 clear hO1 hP1 hK1 hr hk1 hO h hK hq
 go_wp2_with fail
 first | exact hf | (go_ret;exact hf)
set_option maxRecDepth 100000 in
set_option maxHeartbeats 4000000 in
theorem lock_walk (alg N0 mode base loc room me:Int)(vA:Value)(La:List Int)(w:World)(hA:Ints w vA La) :
  Calls Tryz.prog 4 #[.agg #[.int .i64 alg,.int .i64 N0,.int .i64 mode,.int .i64 base,.int .i64 loc,.int .i64 room],.int .i64 me,vA] w fun e w'=>e=.returned (.bool true)∧Ext w w':=by
 obtain⟨Aa,ca,rfl,p3,p4⟩:=hA.slice
 have hmf:∀ (fn:Fn) (first cap:Array Value) (w:World),(Instr.makeFunc fn first cap).run Tryz.prog w=.ok (.func fn first cap) w:=fun _ _ _ _=>rfl
 have hX:=Ext.refl w
 have b1:=Blk.new w (.cells #[.int .i64 alg,.int .i64 N0,.int .i64 mode,.int .i64 base,.int .i64 loc,.int .i64 room] 23)
 replace hX:=hX.alloc (.cells #[.int .i64 alg,.int .i64 N0,.int .i64 mode,.int .i64 base,.int .i64 loc,.int .i64 room] 23)
 have c_b1:=b1.cells
 have hFine:=fun w=>lkfine_r alg N0 mode base loc room w
 go_enter Tryz.func4,Tryz.ntmps4
 go_upto_region 1 with fail
 generalize hbk:w.heap.size=bk at *
 generalize w.alloc _=W0 at *
 have hXV:=hX
 clear hX
 go_cut [33] (fun s33 wx=>∃ b,s33=.bool b∧(b=false→La.length≤1500∧∃ (N:Nat) (rs:List Reg),N0=N∧LkOk alg N mode base loc room rs∧¬ (N=1∧mode=2))∧Ext W0 wx)
 case first =>
  by_cases h1:1500<La.length
  · have d1:decide ((1500:Int)<(La.length:Int))=true:=by rw [decide_eq_true_eq];omega
    go_wp2_with fail
    go_meet
    exact⟨true,rfl,(fun h=>absurd h (by decide)),Ext.refl _⟩
  · have d1:decide ((1500:Int)<(La.length:Int))=false:=by rw [decide_eq_false_iff_not];omega
    go_wp2_with fail
    refine (hFine _).mono ?_
    rintro e w1 ⟨⟨b,rfl,hb⟩,hx⟩
    cases b with
    | false =>
      clear hb
      go_wp2_with fail
      go_meet
      exact⟨true,rfl,(fun h=>absurd h (by decide)),hx⟩
    | true =>
      obtain⟨N,rs,rfl,hk⟩:=hb rfl
      have hkh:=Lib.hid hk
      have c_b2:=(b1.ext hx).cells
      clear hb hk c_b1
      by_cases n1:N=1
      · have e1:((N:Int)==1)=true:=by rw [beq_iff_eq];omega
        by_cases n2:mode=2
        · have e2:(mode==2)=true:=by rw [beq_iff_eq];exact n2
          clear n1 n2
          go_wp2_with fail
          go_meet
          exact⟨true,rfl,(fun h=>absurd h (by decide)),hx⟩
        · have e2:(mode==2)=false:=by rw [beq_eq_false_iff_ne];exact n2
          have hg:=Lib.hid (show ¬ (N=1∧mode=2) from fun h=>n2 h.2)
          clear n1 n2
          go_wp2_with fail
          go_meet
          exact⟨false,rfl,fun _=>⟨by omega,N,rs,rfl,hkh.out,hg.out⟩,hx⟩
      · have e1:((N:Int)==1)=false:=by rw [beq_eq_false_iff_ne];omega
        have hg:=Lib.hid (show ¬ (N=1∧mode=2) from fun h=>n1 h.1)
        clear n1
        go_wp2_with fail
        go_meet
        exact⟨false,rfl,fun _=>⟨by omega,N,rs,rfl,hkh.out,hg.out⟩,hx⟩
 case rest =>
 obtain⟨bb,rfl,hb,hX⟩:=hcut
 replace b1:=b1.ext hX
 replace hXV:=hXV.trans hX
 clear hX c_b1 hFine
 cases bb with
 | true =>
   clear hb
   go_wp2_with fail
   refine (alive34 _).mono ?_
   rintro e w7 ⟨rfl,hx7⟩
   have hf:=Lib.hid (hXV.trans hx7)
   go_wp2_with fail
   go_ret
   exact⟨rfl,hf.out⟩
 | false =>
 obtain⟨hLa,N,rs,rfl,hk,hNm⟩:=hb rfl
 clear hb
 have n1:=hk.hn.1
 have n2:=hk.hn.2
 have hkh:=Lib.hid hk
 have hNmh:=Lib.hid hNm
 clear hk hNm
 have c_b1:=b1.cells
 obtain⟨m,hm1,hme⟩:=me_at me N n1 n2
 have hmr:=fun w=>me_r alg mode base loc room me N w n1 n2
 rw [hme] at hmr
 clear hme
 go_wp2_with fail
 refine (hmr _).mono ?_
 rintro e w3 ⟨rfl,hx⟩
 replace b1:=b1.ext hx
 replace hXV:=hXV.trans hx
 clear c_b1 hx hmr
 have g2:=Blk.new w3 (.cells #[.int .i64 m] 3)
 replace b1:=b1.alloc (.cells #[.int .i64 m] 3)
 replace hXV:=hXV.alloc (.cells #[.int .i64 m] 3)
 go_wp2_with fail
 generalize hz3:w3.heap.size=bt at *
 generalize w3.alloc _=W1 at *
 clear hz3
 refine (tame_r _ La 1048576 _ (hA.ext hXV)).mono ?_
 rintro e wB ⟨va,rfl,hra,hE⟩
 have hIa:=hra.ints
 have hba:∀ k,va.ownBlock=some k→k<wB.heap.size:=fun k hk=>(hra.lt k hk).2
 have la:(tameL La 1048576).length≤1500:=by unfold tameL;simp;omega
 have hta:=tameL_bd La
 clear hra hA
 generalize tameL La 1048576=a at *
 obtain⟨Aq,cq,rfl,_,_⟩:=hIa.slice
 have htaA:TameA (TS0 [] a):=hta
 have hleft:(TS0 [] a).left<a.length+1:=by unfold TS.left TS0;simp
 have hPl:=play_err 25 #[.pointer (some ⟨bk,0,none⟩),.pointer (some ⟨bt,0,none⟩)] (lkA (a.length+1) alg N base loc room rs m) none 0 [] Aq cq a wB (Ints.nil _) (by simp) hIa (by unfold maxAns;omega) hba (fun _ _=>rfl) (fun W p hxW hP =>
  lkclA _ p N (a.length+1) _ alg mode base loc room m rs bk bt W hP hkh.out hm1 hNmh.out htaA hleft (show 0≤100000 by decide) ((b1.ext (hE.trans hxW)).cells) ((g2.ext (hE.trans hxW)).cells 0))
 have hIah:=Lib.hid hIa
 have htah:=Lib.hid htaA
 clear hIa hta htaA
 go_wp2_with fail
 refine hPl.mono ?_
 rintro e w7 ⟨v3,rfl,hO,hx7⟩
 generalize hr:(lkA (a.length+1) alg N base loc room rs m).run (TS0 [] a)=r at hO ⊢
 clear hPl
 generalize hq:r.1.getD 0=q
 have hOh:=Lib.hid hO
 obtain⟨A3,c3,A3',c3',vs3,L3,rfl,hO3⟩:=hO
 obtain⟨As3,k3,hvs3,_,_⟩:=hO3.locs.slice
 subst hvs3
 have hIl:=hO3.locs
 have hLs:=hO3.is
 have hLl:(shortL L3).length≤32768:=by have:=hO3.len;unfold shortL;rw [List.length_take];omega
 clear hO3
 unfold outV at hOh ⊢
 go_wp2_with fail
 have g3:=Blk.new w7 (.cells #[.bool r.fst.isSome,.slice A3 r.snd.acc.length c3,.slice A3' r.snd.nts.length c3',.slice As3 (shortL L3).length k3] 30)
 have x2:=hx7.alloc (.cells #[.bool r.fst.isSome,.slice A3 r.snd.acc.length c3,.slice A3' r.snd.nts.length c3',.slice As3 (shortL L3).length k3] 30)
 have xa:=(Ext.refl w7).alloc (.cells #[.bool r.fst.isSome,.slice A3 r.snd.acc.length c3,.slice A3' r.snd.nts.length c3',.slice As3 (shortL L3).length k3] 30)
 have hOh2:=Lib.hid (hOh.out.ext xa)
 replace hIl:=hIl.ext xa
 clear hOh hx7 xa
 generalize hz7:w7.heap.size=b3 at *
 clear hz7
 generalize World.alloc w7 _=W2 at *
 have hN:=new_any none 0 [] Aq cq a W2 (Ints.nil _) (hIah.out.ext x2) (by simp) (by unfold maxAns;omega) (fun k hk=>Nat.lt_of_lt_of_le (hba k hk) x2.size)
 refine hN.mono ?_
 rintro e w8 ⟨pm,rfl,hR,hx8⟩
 have y2:=g2.ext (hE.trans (x2.trans hx8))
 have y3:=b1.ext (hE.trans (x2.trans hx8))
 have c_y2:=y2.cells
 have c_y3:=y3.cells
 clear hN
 go_wp2_with fail
 refine (lkacq_r W2.heap.size pm N (a.length+1) false (TS0 [] a) alg mode base loc room m rs w8 hR hkh.out hm1 hNmh.out htah.out hleft (show 0≤100000 by decide)).mono ?_
 rintro e w9 ⟨u,o',S',rfl,hRef,hR9,hK9⟩
 have hx9:Ext W2 w9:=Below.trans hx8 hK9.below
 clear y2 y3 c_y2 c_y3
 have hrun:=hRef.outcome
 rw [hr] at hrun
 have hsome:r.1.isSome=!o':=by rw [hrun];cases o' <;> rfl
 have hS2:r.2=S':=by rw [hrun]
 have hqe:o'=false→u=q:=fun ho=>by rw [← hq,hrun,ho];rfl
 have hqo:o'=true→q=0:=fun ho=>by rw [← hq,hrun,ho];rfl
 have hO9:=hOh2.out.ext hx9
 rw [hsome,hS2] at hO9 g3
 rw [hS2] at hLs
 clear hrun hRef hsome hS2 hq hr hR hK9 hx8 hOh2
 replace g3:=g3.ext hx9
 replace hIl:=hIl.ext hx9
 have x3:=x2.trans hx9
 clear x2 hx9
 have hOp:=Lib.hid hO9
 have hRp:=Lib.hid hR9
 have hLsh:=Lib.hid hLs
 clear hO9 hLs
 have y2:=g2.ext (hE.trans x3)
 have y3:=b1.ext (hE.trans x3)
 have y5:=y3
 have hbb:∀ k,(Value.slice Aq a.length cq).ownBlock=some k→k<w9.heap.size:=fun k hk=>Nat.lt_of_lt_of_le (hba k hk) x3.size
 have hXf:=hXV.trans (hE.trans x3)
 have hPl:=play_int 29 #[.pointer (some ⟨bk,0,none⟩),.pointer (some ⟨bt,0,none⟩)] ((lkR alg N base loc rs m).bind fun _=>.ret 0) As3 k3 (shortL L3) Aq cq a w9 hIl hLl (hIah.out.ext x3) (by unfold maxAns;omega) hbb (fun _ _=>rfl) (fun W p hxW hP =>
  lkclR _ p N _ alg mode base loc room m rs bk bt W hP hkh.out hm1 (show 0≤100000 by decide) ((y3.ext hxW).cells) ((y2.ext hxW).cells 0))
 clear g2 b1 hE hXV
 have hI2:=Lib.hid (hIah.out.ext x3)
 clear hIah hba x3
 obtain⟨_,_,_,_,_,hcc⟩:=hR9.cell
 have c_g3:=g3.cells
 clear hR9
 go_upto_if 55 with fail
 go_cut [12] (fun s12 wx=>s12=.int .i64 q∧w9=wx)
 case first =>
  cases o' with
  | true =>
    obtain rfl:=hqo rfl
    clear hPl
    go_wp2_with fail
    go_meet
    exact⟨rfl,rfl⟩
  | false =>
    obtain rfl:=hqe rfl
    clear hPl
    go_wp2_with fail
    go_meet
    exact⟨rfl,rfl⟩
 case rest =>
 obtain⟨rfl,rfl⟩:=hcut
 clear hcc hqe hqo
 go_wp2_with fail
 refine hPl.mono ?_
 rintro e wa ⟨v6,rfl,hO,hx7⟩
 generalize hr:((lkR alg N base loc rs m).bind fun _=>Prog.ret (0:Int)).run (TS0 (shortL L3) a)=r2 at hO ⊢
 clear hPl c_g3
 generalize hq:r2.1.getD 0=qq
 have hOh:=Lib.hid hO
 obtain⟨A6,c6,A6',c6',As6,k6,n6,rfl⟩:=hO.parts
 clear hO
 go_wp2_with fail
 have g6:=Blk.new wa (.cells #[.bool r2.fst.isSome,.slice A6 r2.snd.acc.length c6,.slice A6' r2.snd.nts.length c6',.slice As6 n6 k6] 30)
 have x2:=hx7.alloc (.cells #[.bool r2.fst.isSome,.slice A6 r2.snd.acc.length c6,.slice A6' r2.snd.nts.length c6',.slice As6 n6 k6] 30)
 have hOh2:=Lib.hid (hOh.out.ext ((Ext.refl wa).alloc (.cells #[.bool r2.fst.isSome,.slice A6 r2.snd.acc.length c6,.slice A6' r2.snd.nts.length c6',.slice As6 n6 k6] 30)))
 clear hOh hx7
 generalize hza:wa.heap.size=b6 at *
 clear hza
 generalize World.alloc wa _=W3 at *
 refine (dout_r _ pm o' S' _ (hRp.out.ext x2)).mono ?_
 rintro e wd ⟨v9,rfl,hOx,hxd⟩
 obtain⟨A9,c9,A9',c9',vs9,L9,rfl,hO9⟩:=hOx
 have hsl:shortL L9=shortL L3:=shortL_eq fun i=>(hO9.is i).symm.trans (hLsh.out i)
 have hI9:=hO9.locs
 rw [hsl] at hI9
 obtain⟨As9,k9,rfl,_,_⟩:=hI9.slice
 clear hO9 hsl
 unfold outV
 have hfd:∀ w,(Instr.field 30 (.agg #[.bool (!o'),.slice A9 S'.acc.length c9,.slice A9' S'.nts.length c9',.slice As9 (shortL L3).length k9]) 3).run Tryz.prog w=.ok (.slice As9 (shortL L3).length k9) w:=fun _=>by kernel_rfl
 replace x2:=x2.trans hxd
 replace g6:=g6.ext hxd
 have hOh3:=Lib.hid (hOh2.out.ext hxd)
 clear hOh2 hxd
 go_wp2_with fail
 have hN:=new_any As9 k9 (shortL L3) Aq cq a wd hI9 (hI2.out.ext x2) hLl (by unfold maxAns;omega) (fun k hk=>Nat.lt_of_lt_of_le (hbb k hk) x2.size)
 refine hN.mono ?_
 rintro e wb ⟨pn,rfl,hR,hx8⟩
 replace y2:=y2.ext (x2.trans hx8)
 replace y3:=y3.ext (x2.trans hx8)
 have c_y2:=y2.cells
 have c_y3:=y3.cells
 clear hN hfd
 go_wp2_with fail
 refine (lkrel_r wd.heap.size pn N false (TS0 (shortL L3) a) alg mode base loc room m rs wb hR hkh.out hm1 (show 0≤100000 by decide)).mono ?_
 rintro e wc ⟨u2,o6,S6,rfl,hRef,hR9,hK9⟩
 have hx9:Ext wd wc:=Below.trans hx8 hK9.below
 have hrun:=(Ref.bind (f:=fun _=>Prog.ret (0:Int)) hRef (Ref.ret (0:Int) o6 S6)).outcome
 rw [hr] at hrun
 have hsome:r2.1.isSome=!o6:=by rw [hrun];cases o6 <;> rfl
 have hS2:r2.2=S6:=by rw [hrun]
 have hO9:=hOh3.out.ext hx9
 rw [hsome,hS2] at hO9 g6
 clear hrun hRef hsome hS2 hq hr hR hK9 hx8 hOh3 y2 y3 c_y2 c_y3 y5
 replace g6:=g6.ext hx9
 have x3:=x2.trans hx9
 replace g3:=g3.ext x3
 have hOq:=Lib.hid hO9
 have hRq:=Lib.hid hR9
 have hRp2:=Lib.hid (hRp.out.ext x3)
 have hOp2:=Lib.hid (hOp.out.ext x3)
 have hXg:=Lib.hid (hXf.trans x3)
 clear hO9 hR9 hRp hOp hXf x2 x3 hx9 hI2 hI9 hIl hbb hleft
 go_wp2_with fail
 have hE:=(Ext.refl wc).drew
 have hS:∀ w',Ext wc w'→(∀ i,w'.cell? ⟨b3,i,none⟩=(#[.bool (!o'),.slice A3 S'.acc.length c3,.slice A3' S'.nts.length c3',.slice As3 (shortL L3).length k3]:Array Value)[i]?)∧(∀ i,w'.cell? ⟨b6,i,none⟩=(#[.bool (!o6),.slice A6 S6.acc.length c6,.slice A6' S6.nts.length c6',.slice As6 n6 k6]:Array Value)[i]?):=fun w' hx=>⟨(g3.ext hx).cells,(g6.ext hx).cells⟩
 go_region_held2 (fun w'=>(∀ i,w'.cell? ⟨b3,i,none⟩=(#[.bool (!o'),.slice A3 S'.acc.length c3,.slice A3' S'.nts.length c3',.slice As3 (shortL L3).length k3]:Array Value)[i]?)∧(∀ i,w'.cell? ⟨b6,i,none⟩=(#[.bool (!o6),.slice A6 S6.acc.length c6,.slice A6' S6.nts.length c6',.slice As6 n6 k6]:Array Value)[i]?)) (exact hS _ hE)
  (first
    | (go_at_call_of 31 (Value.pointer (some (⟨pm,0,none⟩:Addr)))
       refine (dout_r _ pm o' S' _ (hRp2.out.ext hE)).mono ?_
       rintro e wd2 ⟨v9,rfl,hOx,hxd⟩
       replace hE:=hE.trans hxd)
    | (go_at_call_of 31 (Value.pointer (some (⟨pn,0,none⟩:Addr)))
       refine (dout_r _ pn o6 S6 _ (hRq.out.ext hE)).mono ?_
       rintro e we ⟨v10,rfl,hOy,hxe⟩
       replace hE:=hE.trans hxe)
    | (go_at_call_of 33 v9
       refine (same_r _ _ (!o') S' _ (hOp2.out.ext hE) hOx).mono ?_
       rintro e wf ⟨rfl,hxf⟩
       replace hE:=hE.trans hxf)
    | (go_at_call_of 33 v10
       refine (same_r _ _ (!o6) S6 _ (hOq.out.ext hE) hOy).mono ?_
       rintro e wf2 ⟨rfl,hxf⟩
       replace hE:=hE.trans hxf)
    | (go_at_call 22
       refine (alive34 _).mono ?_
       rintro e wg ⟨rfl,hxg⟩
       replace hE:=hE.trans hxg))
 have hf:=Lib.hid (hXg.out.trans hE)
 go_wp2_with fail
 go_ret
 exact⟨rfl,hf.out⟩
end Go.Proofs.YtbaajjkopdjbgaaGreat
namespace Go.Proofs.YtbaajjkopdjbgaaGreat.lockPlays
open Go.ChangeShapes Go.WideShapes Go.ChangeAt Go.RowKit Kv
set_option maxRecDepth 100000 in
theorem main (H:Type)(enc:TypeId × Value→H)(W:World)(base:Nat)(args:Array Value)(ds:List (DataW H))(p:List MemPlace)
  (hval:∀ (j:Nat) t v,Tryz.f4.params[j]?=some t→args[j]?=some v→Value.okWide Tryz.prog W .any base t v)
  (hA:DataW.TrodAll enc Tryz.prog W 0 (fun _=>true) true Tryz.f4.params.toList args.toList ds p)(_hL:laidMetH Tryz.prog Rows.lockPlaysRow.laid W) :
  Calls Tryz.prog 4 args W fun e w'=>e=.returned (.bool true)∧Ext W w':=by
 rw [Tryz.params4] at hA hval
 obtain⟨v0,vs0,d0,ds0,p0,q0,hargs,rfl,rfl,h0,r0⟩:=trodAll_cons hA
 obtain⟨v1,vs1,d1,ds1,p1,q1,rfl,rfl,rfl,h1,r1⟩:=trodAll_cons r0
 obtain⟨v2,vs2,d2,ds2,p2,q2,rfl,rfl,rfl,h2,r2⟩:=trodAll_cons r1
 obtain⟨rfl,rfl,rfl⟩:=trodAll_nil r2
 obtain rfl:args=#[v0,v1,v2]:=by cases args;simp_all
 obtain⟨c0,c1,c2,c3,c4,c5,y0,y1,y2,y3,y4,y5,m,rfl,g0,g1,g2,g3,g4,g5⟩:=open_agg6 Tryz.underlying23 (by kernel_rfl) (by kernel_rfl) (hval 0 23 v0 rfl rfl) h0
 obtain⟨x0,e0,-,-⟩:=DataW.trod_int Tryz.underlying3 g0
 obtain⟨x1,e1,-,-⟩:=DataW.trod_int Tryz.underlying3 g1
 obtain⟨x2,e2,-,-⟩:=DataW.trod_int Tryz.underlying3 g2
 obtain⟨x3,e3,-,-⟩:=DataW.trod_int Tryz.underlying3 g3
 obtain⟨x4,e4,-,-⟩:=DataW.trod_int Tryz.underlying3 g4
 obtain⟨x5,e5,-,-⟩:=DataW.trod_int Tryz.underlying3 g5
 obtain⟨La,hLa,-⟩:=ints_arg (hval 2 25 v2 rfl rfl) h2
 obtain⟨x6,rfl,rfl,rfl,-⟩:=open_int Tryz.underlying3 (hval 1 3 v1 rfl rfl) h1
 simp at e0 e1 e2 e3 e4 e5
 subst e0 e1 e2 e3 e4 e5
 exact lock_walk x0 x1 x2 x3 x4 x5 x6 v2 La W hLa
end Go.Proofs.YtbaajjkopdjbgaaGreat.lockPlays
namespace Go.Proofs.YtbaajjkopdjbgaaGreat.lockPlays
open Go.ChangeShapes Go.WideShapes Go.ChangeAt Go.RowKit
theorem laidOut:laidOutB Tryz.prog=true:=by kernel_rfl
set_option maxRecDepth 100000 in
theorem contract (H:Type)(enc:TypeId × Value→H)(W:World)(base:Nat)(args:Array Value)(ds gs:List (DataW H))(before:List MemPlace)
  (hval:∀ (j:Nat) t v,Tryz.f4.params[j]?=some t→args[j]?=some v→Value.okWide Tryz.prog W .any base t v)
  (hW:DataW.Whole enc Tryz.prog Tryz.f4.params.toList Rows.lockPlaysSpec.vars false W args.toList ds gs before)(hL:laidMetH Tryz.prog Rows.lockPlaysRow.laid W) :
  Calls Tryz.prog 4 args W fun e W'=>∃ v,e=.returned v∧Rows.lockPlaysSpec.post enc Tryz.prog Tryz.f4 false true false false W args v W':=by
 refine (main H enc W base args ds before hval (by obtain⟨p,q,hA,hV,hpq,_,_⟩:=hW;obtain⟨_,rfl⟩:=trodVars_none hV;rw [List.append_nil] at hpq;subst hpq;exact hA) hL).mono fun e W' ⟨he,hg⟩=>⟨_,he,?_⟩
 refine law_post (tb:=4) laidOut ?_ (by kernel_rfl) Tryz.underlying4 rfl ?_ hW hg
 · rw [Tryz.params4]
   intro t ht
   simp only [List.mem_cons,List.not_mem_nil,or_false] at ht
   rcases ht with rfl | rfl | rfl <;> exact⟨by kernel_rfl,of_decide_eq_true (by kernel_rfl)⟩
 · intro ds hl
   rw [Tryz.params4] at hl
   match ds,hl with
   | [d0,d1,d2],_=>rfl
set_option maxRecDepth 100000 in
theorem laid_met (os:Os):laidMet Tryz.prog Rows.lockPlaysRow.laid (((World.holding Tryz.prog os ⟨#[],#[],[]⟩)).forCall (fun _ _=>0) ⟨#[],#[.agg #[.int .i64 0,.int .i64 0,.int .i64 0,.int .i64 0,.int .i64 0,.int .i64 0],.int .i64 0,.slice none 0 0],[]⟩).memory :=
 laidMet_of_run' 8 (by kernel_rfl) (by kernel_rfl)
set_option maxRecDepth 100000 in
theorem reads (os:Os){H:Type}(enc:TypeId × Value→H):∃ places,DataW.whole enc Tryz.prog (((World.holding Tryz.prog os ⟨#[],#[],[]⟩)).forCall (fun _ _=>0) ⟨#[],#[.agg #[.int .i64 0,.int .i64 0,.int .i64 0,.int .i64 0,.int .i64 0,.int .i64 0],.int .i64 0,.slice none 0 0],[]⟩).memory Tryz.f4.params.toList Rows.lockPlaysSpec.vars false (#[.agg #[.int .i64 0,.int .i64 0,.int .i64 0,.int .i64 0,.int .i64 0,.int .i64 0],.int .i64 0,.slice none 0 0]:Array Value).toList 8=some ([.agg [.lit (.int .i64 0),.lit (.int .i64 0),.lit (.int .i64 0),.lit (.int .i64 0),.lit (.int .i64 0),.lit (.int .i64 0)],.lit (.int .i64 0),.nil],[],places) :=
 ⟨[],by kernel_rfl⟩
set_option maxRecDepth 100000 in
theorem lifted (os:Os)(started:os.Started)(H:Type)(enc:TypeId × Value→H)(F:Stop.Interp) :
  ReturnsInHanded {} Tryz.checked os 4 .any ((OpenSpec.ofChange Rows.lockPlaysSpec).preRow enc Tryz.prog Tryz.f4 Rows.lockPlaysRow.domain false Rows.lockPlaysRow.laid) (((OpenSpec.ofChange Rows.lockPlaysSpec).at F).post enc Tryz.prog Tryz.f4 false true false false):=by
 obtain⟨places,hx⟩:=reads os enc
 refine returnsInHanded_of_row (C:=Tryz.checked) (s:=(OpenSpec.ofChange Rows.lockPlaysSpec)) own started (by kernel_rfl) Tryz.func4
  (witness_row_at (enc:=enc) (C:=Tryz.checked) false (World.holding Tryz.prog os ⟨#[],#[],[]⟩) #[.agg #[.int .i64 0,.int .i64 0,.int .i64 0,.int .i64 0,.int .i64 0,.int .i64 0],.int .i64 0,.slice none 0 0] rfl (by kernel_rfl) (by kernel_rfl) (by kernel_rfl)
    (OpenSpec.preRow_of_cond 8 hx (by kernel_rfl) (fun k hk=>by cases hk) (by kernel_rfl) (laid_met os))) ?_
 intro W base args ds gs before hval hW _ _ _ hL _ _
 exact contract H enc W base args ds gs before hval hW hL
theorem c1:(Rows.lockPlaysRow.inPlace==Tryz.pinned.checked.prog.inPlace 4)=true:=by kernel_rfl
theorem c2:(Rows.lockPlaysRow.unfollowed==Tryz.pinned.checked.prog.unfollowed 4)=true:=by kernel_rfl
theorem c3:(Rows.lockPlaysRow.recurses==Tryz.pinned.checked.prog.recurses 4)=true:=by kernel_rfl
theorem c4:(Rows.lockPlaysRow.named==Tryz.pinned.checked.prog.varsNamed 4)=true:=by kernel_rfl
theorem closed:joinedFacts Tryz.pinned.checked.prog 4 Tryz.f4 (OpenSpec.ofChange Rows.lockPlaysSpec).bare Rows.lockPlaysRow=true:=by
 unfold joinedFacts
 simp only [Bool.and_eq_true]
 repeat' refine And.intro ?_ ?_
 all_goals first | with_reducible exact c1 | with_reducible exact c2 | with_reducible exact c3 | with_reducible exact c4 | kernel_rfl
theorem said:Rows.LockPlaysSaid :=
 OpenClaim.holds_of_cond 4 Tryz.f4 rfl rfl rfl rfl rfl rfl rfl ⟨rfl,rfl,rfl,rfl,rfl⟩ rfl rfl rfl rfl rfl (by kernel_rfl) Tryz.func4 closed
  (of_decide_eq_true (by kernel_rfl)) (by unfold Func.isWrapper;first | (rw [if_pos (by decide +kernel)];kernel_rfl) | (rw [if_neg (by decide +kernel)];exact⟨rfl,rfl⟩))
  (fun os started H enc _ F=>by rw [OpenClaim.pre_eq_preRow];exact lifted os started H enc F)
end Go.Proofs.YtbaajjkopdjbgaaGreat.lockPlays
