/-
  GateAll holds: of N that wait, at any paces, on atomic cells, time after time, nobody is through before all are there, and just one of each time is told 1, without conditions.
-/
import Derived.Test.YtmmmiplmiooioaaGreatJGateAllSaid2
import Derived.Deep.RegionLaw
import Derived.Deep.AppendLies
import Derived.Deep.RegionHeld2
import Derived.Deep.CutBlock
import Derived.Deep.DeepCutAuto
namespace Go.Proofs.YtmmmiplmiooioaaGreat
open Go.RowKit Kv
def gcame (r:Nat->Nat) (ans:Nat->List Int) (t:Nat):Int:=(r t:Int)+(if ans t=[] then 0 else 1)
set_option maxRecDepth 100000 in
set_option maxHeartbeats 4000000 in
theorem ga_walk (n:Nat)(vP:Value)(Ls:List Int)(w:World)(hn:n<256)(hL:U8s w vP Ls)(hLb:∀ x∈Ls,0<=x/\x<256) :
  Calls Tryz.prog 4 #[.int .u8 n,vP] w fun e w'=>e=.returned (.bool true)/\Ext w w':=by
 have hmf:∀ (fn:Fn) (first cap:Array Value) (w:World),(Instr.makeFunc fn first cap).run Tryz.prog w=.ok (.func fn first cap) w:=fun _ _ _ _=>rfl
 obtain⟨m,hm⟩:∃ m:Nat,1+(n:Int) % 4=m:=⟨1+n % 4,by omega⟩
 have m1:1<=m:=by omega
 have m4:m<=4:=by omega
 obtain⟨AL,cL,rfl,z1,z2⟩:∃ A c,vP=.slice A Ls.length c/\Ls.length<=c/\c<=9223372036854775807:=by
  obtain⟨A,c,e,q1,q2,_⟩:=hL
  exact⟨A,c,e,q1,q2⟩
 have hput:=fun w=>put8_r 0 m 1 0 0 1 w
 go_enter Tryz.func4,Tryz.ntmps4
 by_cases hl:400<Ls.length
 · have d1:decide ((400:Int)<(Ls.length:Int))=true:=by rw [decide_eq_true_eq];omega
   go_wp2_with fail
   refine (alive37 _).mono ?_
   rintro e w7 ⟨rfl,hx7⟩
   have hf:=Lib.hid hx7
   clear hx7
   go_wp2_with fail
   go_ret
   exact⟨rfl,hf.out⟩
 have d1:decide ((400:Int)<(Ls.length:Int))=false:=by rw [decide_eq_false_iff_not];omega
 go_wp2_with fail
 refine (hput _).mono ?_
 rintro e w0 ⟨rfl,hX⟩
 clear hput
 rename_i hKK
 refine hKK _ _ ?_
 clear hKK
 refine new_obj rfl rfl rfl _ _ rfl _ rfl rfl rfl (by kernel_rfl) ?_
 refine wpList_nil ?_
 have kO:=Blk.new w0 (.cells (obCells m) 31)
 have hgo:w.heap.size<=w0.heap.size:=hX.size
 replace hX:=hX.alloc (.cells (obCells m) 31)
 have hV0:(World.alloc w0 (.cells (obCells m) 31)).heap.size=w0.heap.size+1:=by simp
 generalize hbo:w0.heap.size=bo at *
 generalize World.alloc w0 _=V0 at *
 clear hbo
 have c_O:=kO.cells
 have hmk:=fun W=>make_ints ((m:Int)+2) (m+2) (by omega) (by omega) W
 have w1:=IntWalk.i64_in ((m:Int)+2) (by omega)
 go_upto_region 10 with fail
 clear c_O hmk w1
 have hM:WMem w [(bo,.cells (obCells m) 31),(bo+1,iCells (zeros (m+2))),(bo+1+1+1,fCells fun _=>0),(bo+1+1+1+1,fCells fun _=>0)] (bo+1+1) ((((V0.alloc (.cells ((zeros (m+2)).map (Value.int .i64)).toArray 3)).alloc (.cells #[.slice none 0 0,.slice none 0 0,.slice none 0 0,.slice none 0 0] 34)).alloc (.cells #[.int .i64 0,.int .i64 0,.int .i64 0,.int .i64 0] 35)).alloc (.cells #[.int .i64 0,.int .i64 0,.int .i64 0,.int .i64 0] 35)) (fun _=>[]) (Array.replicate 4 (.slice none 0 0)):=by
  refine WMem.start ((((hX.alloc _).alloc _).alloc _).alloc _) (fun q hq=>?_) ?_ (by omega) (by simp;omega)
  · simp only [List.mem_cons,List.not_mem_nil,or_false] at hq
    rcases hq with rfl | rfl | rfl | rfl
    · exact (((kO.alloc _).alloc _).alloc _).alloc _
    · have h:=(((Blk.new V0 (.cells ((zeros (m+2)).map (Value.int .i64)).toArray 3)).alloc (.cells #[.slice none 0 0,.slice none 0 0,.slice none 0 0,.slice none 0 0] 34)).alloc (.cells #[.int .i64 0,.int .i64 0,.int .i64 0,.int .i64 0] 35)).alloc (.cells #[.int .i64 0,.int .i64 0,.int .i64 0,.int .i64 0] 35)
      rw [hV0] at h
      exact h
    · have h:=(Blk.new ((V0.alloc (.cells ((zeros (m+2)).map (Value.int .i64)).toArray 3)).alloc (.cells #[.slice none 0 0,.slice none 0 0,.slice none 0 0,.slice none 0 0] 34)) (.cells #[.int .i64 0,.int .i64 0,.int .i64 0,.int .i64 0] 35)).alloc (.cells #[.int .i64 0,.int .i64 0,.int .i64 0,.int .i64 0] 35)
      simp only [World.size_alloc,hV0] at h
      exact h
    · have h:=Blk.new (((V0.alloc (.cells ((zeros (m+2)).map (Value.int .i64)).toArray 3)).alloc (.cells #[.slice none 0 0,.slice none 0 0,.slice none 0 0,.slice none 0 0] 34)).alloc (.cells #[.int .i64 0,.int .i64 0,.int .i64 0,.int .i64 0] 35)) (.cells #[.int .i64 0,.int .i64 0,.int .i64 0,.int .i64 0] 35)
      simp only [World.size_alloc,hV0] at h
      exact h
  · have h:=((Blk.new (V0.alloc (.cells ((zeros (m+2)).map (Value.int .i64)).toArray 3)) (.cells #[.slice none 0 0,.slice none 0 0,.slice none 0 0,.slice none 0 0] 34)).alloc (.cells #[.int .i64 0,.int .i64 0,.int .i64 0,.int .i64 0] 35)).alloc (.cells #[.int .i64 0,.int .i64 0,.int .i64 0,.int .i64 0] 35)
    simp only [World.size_alloc,hV0] at h
    exact h
 clear kO
 have hne:bo<bo+1/\bo+1<bo+1+1/\bo+1+1<bo+1+1+1/\bo+1+1+1<bo+1+1+1+1:=by omega
 generalize World.alloc (World.alloc (World.alloc (World.alloc V0 _) _) _) _=W0 at *
 generalize hb2:bo+1+1+1+1=b2 at *
 generalize hb1:bo+1+1+1=b1 at *
 generalize hba:bo+1+1=ba at *
 generalize hbc:bo+1=bc at *
 clear hb2 hb1 hba hbc hV0 hX V0
 have hgeh:=Lib.hid (show w.heap.size<=bo/\w.heap.size<=bc/\w.heap.size<=ba/\w.heap.size<=b1/\w.heap.size<=b2 by omega)
 clear hgo hne
 have hLh:=Lib.hid hL
 have hLbh:=Lib.hid hLb
 obtain⟨D,hD⟩:∃ D:Nat,D=600:=⟨_,rfl⟩
 have hDh:=Lib.hid hD
 have hI0:=Lib.hid (GaInv.start m D 0 (by omega) (by omega))
 have hM0:=Lib.hid hM
 clear hL hLb hM hD d1
 go_wp2_with fail
 go_loopw [11,12] (fun a11 a12 wr=>∃ (j:Nat) (pc:Nat->GP) (r:Nat->Nat) (G L:Nat) (F:Nat->Int) (C P:Int) (M:List Int) (ans:Nat->List Int) (vs:Array Value),a11=.int .i64 L/\a12=.int .i64 j/\j<=Ls.length/\(∀ s,r s<=j)/\Hid (GaInv m D j pc r G L F C P M ans)/\Hid (WMem w [(bo,.cells (obCells m) 31),(bc,iCells M),(b1,fCells (gcame r ans)),(b2,fCells (fun t=>(r t:Int)))] ba wr ans vs)) (fun _ a12 _=>Ls.length-(intOf a12).toNat)
 case atStart =>
  exact⟨0,_,_,_,0,_,_,_,_,_,_,rfl,rfl,by omega,fun _=>by omega,hI0,hM0.out⟩
 case round =>
  clear hM0 hI0
  obtain⟨j,pc,r,G,L,F,C,P,M,ans,vs,rfl,rfl,hj,hrj,hI,hM⟩:=hrel
  by_cases hjl:j<Ls.length
  rotate_left
  · have dj:decide ((j:Int)<(Ls.length:Int))=false:=by rw [decide_eq_false_iff_not];omega
    have hE1:=Lib.hid hM.out.ext
    clear hM hI
    go_wp2_with fail
    refine (alive37 _).mono ?_
    rintro e w7 ⟨rfl,hx7⟩
    have hf:=Lib.hid (hE1.out.trans hx7)
    clear hx7
    go_wp2_with fail
    first | exact⟨rfl,hf.out⟩ | (go_ret;exact⟨rfl,hf.out⟩) | (go_ret2;exact⟨rfl,hf.out⟩)
  have dj:decide ((j:Int)<(Ls.length:Int))=true:=by rw [decide_eq_true_eq];omega
  obtain⟨x,hx⟩:∃ x,Ls[j]?=some x:=⟨_,List.getElem?_eq_getElem hjl⟩
  obtain⟨bq,oq,rfl,hbq,hcx0⟩:=hLh.out.at_ hx
  have hcx:=(hM.out.ext.cell (p:=⟨bq,oq+j,none⟩) hbq).trans hcx0
  clear hcx0
  have hxb:=hLbh.out x (List.mem_of_getElem? hx)
  obtain⟨y,rfl⟩:∃ y:Nat,x=y:=⟨x.toNat,by omega⟩
  obtain⟨t,htt⟩:∃ t:Nat,((y:Int)).tmod (m:Int)=t:=⟨(((y:Int)).tmod (m:Int)).toNat,by
   have:=Int.tmod_nonneg (m:Int) (show (0:Int)<=y by omega)
   omega⟩
  have htm:t<m:=by
   have:=Int.tmod_lt_of_pos (y:Int) (show (0:Int)<m by omega)
   omega
  have hm0:¬ m=0:=by omega
  have hwy:=IntWalk.i64_in (y:Int) (by omega)
  go_upto_region 13 with fail
  have hM1:=Lib.hid (hM.out.add ((Ext.refl wr).alloc (.cells #[.int .i64 t] 3)) (Blk.new wr (.cells #[.int .i64 t] 3)) (Nat.le_refl _))
  have hgt:w.heap.size<=wr.heap.size:=hM.out.ext.size
  clear hM hcx htt
  generalize hbt:wr.heap.size=bt at *
  generalize World.alloc wr _=W1 at *
  clear hbt
  have ht4:t<4:=by omega
  have ht4i:(t:Int)<4:=by omega
  obtain⟨kk,ci,vv,yv,M2,S1,l1,hr1,hacc,hl1,hci,hkk,hyv,hnext⟩:=hI.out.pick htm (by rw [hDh.out];omega)
  have hlen:=(hI.out.pos t htm).1
  have hlM:=hI.out.c.len
  obtain⟨A,c5,hvt,hIn,hrow⟩:=hM1.out.row ht4
  have c_T:W1.cell? ⟨bt,0,none⟩=some (.int .i64 t):=(hM1.out.at_ 0 rfl).cells 0
  have c_A:W1.cell? ⟨ba,t,none⟩=some (.slice A (ans t).length c5):=(hM1.out.kA.cells t).trans hvt
  have hPl:=play_intB 15 #[.pointer (some ⟨bo,0,none⟩),.pointer (some ⟨bt,0,none⟩)] (treeN (gaM m t).ask D (.st none)) none 0 [] A c5 (ans t) W1 (Ints.nil _) (by simp) hIn (by unfold maxAns;omega) (fun k hk=>(own_ge hrow hk).2) (fun _ _=>rfl) (fun W p hxW hP=>gacl1 _ p m t D _ bo bt W hP m1 (by omega) htm (by rw [hDh.out];show (ans t).length-0<600;omega) (by show 0+10*((ans t).length-0)<=90000;omega) ((hM1.out.at_ 1 rfl).ext hxW) (((hM1.out.at_ 0 rfl).ext hxW).cells 0))
  rw [hr1] at hPl
  simp only [Option.getD_none,Option.isSome_none] at hPl
  go_wp2_with fail
  refine hPl.mono ?_
  clear hPl
  rintro e w3 ⟨v3,rfl,hO,hB3,hx3⟩
  obtain⟨A3,c3,D3,d3,vs3,L3,rfl,hO3⟩:=hO
  have hvc9:Hid (∀ b,(Value.slice A3 S1.acc.length c3).ownBlock=some b->W1.heap.size<=b):=Lib.hid <| by
   obtain⟨_,vC9,_,_,he9,_,hvc9⟩:=hB3
   unfold outV at he9
   simp only [Value.agg.injEq,Array.mk.injEq,List.cons.injEq] at he9
   obtain⟨_,rfl,_⟩:=he9
   exact hvc9
  clear hB3
  obtain⟨E3,k3,hvs3,_,_⟩:=hO3.locs.slice
  subst hvs3
  generalize (shortL L3).length=n3 at *
  have hat:S1.acc[(ans t).length]?=some ⟨kk,(ci:Int),vv⟩:=by rw [hacc,<- hl1];simp
  have hal:S1.acc.length=(ans t).length+1:=by rw [hacc,<- hl1];simp
  obtain⟨bk,rfl,hbk,q0,q1,q2⟩:=hO3.accs.at_ hat
  simp only at q0 q1 q2
  have hbk1:Hid (b1≠bk):=Lib.hid <| by
   have h1:=hvc9.out bk rfl
   have h2:=hM1.out.lt (b:=b1) (by simp)
   omega
  clear hvc9
  unfold outV
  rw [hal]
  have hxo:=(Ext.refl w3).alloc (.cells #[.bool false,.slice (some ⟨bk,0,none⟩) ((ans t).length+1) c3,.slice D3 S1.nts.length d3,.slice E3 n3 k3] 46)
  have hM2:=Lib.hid ((hM1.out.keep hx3).add hxo (Blk.new w3 (.cells #[.bool false,.slice (some ⟨bk,0,none⟩) ((ans t).length+1) c3,.slice D3 S1.nts.length d3,.slice E3 n3 k3] 46)) (Nat.le_refl _))
  have hgO:w.heap.size<=w3.heap.size:=(hM1.out.keep hx3).ext.size
  have q0:=(hxo.cell (p:=⟨bk,_,none⟩) hbk).trans q0
  have q1:=(hxo.cell (p:=⟨bk,_,none⟩) hbk).trans q1
  have q2:=(hxo.cell (p:=⟨bk,_,none⟩) hbk).trans q2
  have hnx:=Lib.hid hnext
  have hkkh:=Lib.hid hkk
  have hyvh:=Lib.hid hyv
  clear hx3 hO3 hM1 c_T c_A hIn hrow hat hxo hr1 hacc hnext hkk hyv hal hvt
  have hz:(((ans t).length:Int)+1==0)=false:=by rw [beq_eq_false_iff_ne];omega
  generalize hb9:w3.heap.size=bu at *
  go_upto_region 14 with fail
  generalize World.alloc w3 _=V3 at *
  clear hb9
  have bO3:=hM2.out.at_ 0 rfl
  have c_O:=bO3.cells
  obtain⟨A,c5,hvt,hIn,hrow⟩:=hM2.out.row ht4
  have c_T:V3.cell? ⟨bt,0,none⟩=some (.int .i64 t):=(hM2.out.at_ 1 rfl).cells 0
  have c_A:V3.cell? ⟨ba,t,none⟩=some (.slice A (ans t).length c5):=(hM2.out.kA.cells t).trans hvt
  have k1:=hM2.out.at_ 4 rfl
  have c_1:V3.cell? ⟨b1,t,none⟩=some (.int .i64 (gcame r ans t)):=(k1.cells t).trans (fours_at ht4)
  have hf1:V3.frozen? ⟨b1,t,none⟩=false:=frozen_of_heap k1 t
  clear k1
  have hcame:Hid (∀ a2:Nat->List Int,(∀ s,s≠t->a2 s=ans s)->a2 t≠[]->fours (putF (gcame r ans) t ((r t:Int)+1))=fours (gcame r a2)):=Lib.hid fun a2 h1 h2=>fours_same fun s _=>by
   unfold putF gcame
   by_cases e:s=t
   · subst e;rw [if_pos rfl,if_neg h2]
   · rw [if_neg e,h1 s e]
  have hr8:gcame r ans t<=j+1/\0<=gcame r ans t:=by
   have:=hrj t
   unfold gcame
   split <;> omega
  have hw1:=IntWalk.i64_in (gcame r ans t+1) (by omega)
  go_upto_if 68 with fail
  go_cut [] (fun wx=>(∀ i,wx.cell? ⟨bk,i,none⟩=V3.cell? ⟨bk,i,none⟩)/\Hid (WMem w [(bu,.cells #[.bool false,.slice (some ⟨bk,0,none⟩) ((ans t).length+1) c3,.slice D3 S1.nts.length d3,.slice E3 n3 k3] 46),(bt,.cells #[.int .i64 t] 3),(bo,.cells (obCells m) 31),(bc,iCells M),(b1,fCells (putF (gcame r ans) t ((r t:Int)+1))),(b2,fCells (fun t=>(r t:Int)))] ba wx ans vs))
  case first =>
   by_cases ha:ans t=[]
   · have da:(((ans t).length:Int)==0)=true:=by rw [ha];rfl
     go_wp2_with fail
     go_meet
     have h:=hM2.out.setF 4 rfl hgeh.out.2.2.2.1 ht4 (gcame r ans t+1)
     have e:gcame r ans t+1=(r t:Int)+1:=by unfold gcame;rw [if_pos ha];omega
     rw [e] at h ⊢
     exact⟨fun i=>World.cell?_of_block (heap_setCell_ne _ _ (Ne.symm hbk1.out)),h⟩
   · have da:(((ans t).length:Int)==0)=false:=by rw [beq_eq_false_iff_ne];intro e;exact ha (List.length_eq_zero_iff.1 (by omega))
     go_wp2_with fail
     go_meet
     have e:fours (putF (gcame r ans) t ((r t:Int)+1))=fours (gcame r ans):=hcame.out ans (fun _ _=>rfl) ha
     have h:=hM2.out
     refine⟨fun _=>rfl,?_⟩
     show WMem w _ _ _ _ _
     unfold fCells
     rw [e]
     exact h
  case rest =>
  clear hM2 bO3 c_O hIn hrow c_T c_A c_1 hf1 hw1 hz hvt
  obtain⟨hqq,hM3⟩:=hcut
  have bO3:=hM3.out.at_ 0 rfl
  have c_O:=bO3.cells
  have q0:=(hqq _).trans q0
  have q1:=(hqq _).trans q1
  have q2:=(hqq _).trans q2
  have hz2:decide ((((ans t).length:Int)+1)-1<(((ans t).length:Int)+1))=true:=by rw [decide_eq_true_eq];omega
  have hwl:=IntWalk.i64_in (((ans t).length:Int)+1-1) (by omega)
  clear hqq hbk1 hbk
  go_upto_region 19 with fail
  have hM4:=Lib.hid (hM3.out.add ((Ext.refl wc).alloc (.cells #[.int .i64 kk,.int .i64 (ci:Int),.int .i64 vv] 50)) (Blk.new wc (.cells #[.int .i64 kk,.int .i64 (ci:Int),.int .i64 vv] 50)) (Nat.le_refl _))
  clear hM3 bO3 c_O q0 q1 q2 hz2 hwl
  generalize hb9:wc.heap.size=bA at *
  generalize World.alloc wc _=V4 at *
  clear hb9
  have c_A:∀ i,V4.cell? ⟨bA,i,none⟩=(#[.int .i64 kk,.int .i64 (ci:Int),.int .i64 vv]:Array Value)[i]?:=(hM4.out.at_ 0 rfl).cells
  have hc0:decide ((ci:Int)<0)=false:=by rw [decide_eq_false_iff_not];omega
  have hc1:decide ((m:Int)+2<=(ci:Int))=false:=by rw [decide_eq_false_iff_not];omega
  have hc2:decide (m+2<=ci)=false:=by rw [decide_eq_false_iff_not];omega
  have hci0:(0:Int)<=(ci:Int):=by omega
  have hcil:(ci:Int)<(m:Int)+2:=by omega
  have kC:=hM4.out.at_ 4 rfl
  have hfC:V4.frozen? ⟨bc,ci,none⟩=false:=frozen_of_heap kC ci
  obtain⟨x0,hx0⟩:∃ x0,M[ci]?=some x0:=⟨_,List.getElem?_eq_getElem hci⟩
  have c_C:V4.cell? ⟨bc,ci,none⟩=some (.int .i64 x0):=by
   rw [kC.cells ci]
   simp [hx0]
  clear kC
  go_upto_if 94 with fail
  go_cut [] (fun wx=>Hid (WMem w [(bA,.cells #[.int .i64 kk,.int .i64 (ci:Int),.int .i64 vv] 50),(bu,.cells #[.bool false,.slice (some ⟨bk,0,none⟩) ((ans t).length+1) c3,.slice D3 S1.nts.length d3,.slice E3 n3 k3] 46),(bt,.cells #[.int .i64 t] 3),(bo,.cells (obCells m) 31),(bc,iCells M2),(b1,fCells (putF (gcame r ans) t ((r t:Int)+1))),(b2,fCells (fun t=>(r t:Int)))] ba wx ans vs))
  case first =>
   rcases hkkh.out with⟨hk1,e1⟩ | ⟨hk2,e1⟩
   · have dk:(kk==2)=false:=by rw [beq_eq_false_iff_ne];omega
     go_wp2_with fail
     go_meet
     rw [e1]
     exact hM4
   · have dk:(kk==2)=true:=by rw [beq_iff_eq];omega
     go_wp2_with fail
     go_meet
     rw [e1]
     exact hM4.out.setI 4 rfl hgeh.out.2.1 ci vv
  case rest =>
  clear hM4 c_A c_C hfC hkkh hc0 hc1 hc2 hx0
  have hM6:=hcut
  clear hcut
  obtain⟨A,c5,hvt,hIn,hrow⟩:=hM6.out.row ht4
  have hrow6:=Lib.hid hrow
  have bT6:=hM6.out.at_ 2 rfl
  have kC6:=Lib.hid (hM6.out.at_ 4 rfl)
  have bA6:=hM6.out.at_ 0 rfl
  have c_T:wc.cell? ⟨bt,0,none⟩=some (.int .i64 t):=bT6.cells 0
  have hC6:∀ {W:World},Ext wc W->W.cell? ⟨bc,ci,none⟩=some (.int .i64 yv):=fun hx=>by
   rw [(kC6.out.ext hx).cells ci]
   simp [hyvh.out]
  have c_C:=hC6 (Ext.refl wc)
  have c_A:wc.cell? ⟨ba,t,none⟩=some (.slice A (ans t).length c5):=(hM6.out.kA.cells t).trans hvt
  have c_F:wc.cell? ⟨bA,1,none⟩=some (.int .i64 (ci:Int)):=bA6.cells 1
  have hge6:w.heap.size<=wc.heap.size:=hM6.out.ext.size
  have ht0:(0:Int)<=(t:Int):=by omega
  have hxd:=(Ext.refl wc).drew
  have hxe:=(Ext.refl wc).alloc (.cells #[.int .i64 yv] 3)
  have c_Td:(World.drew wc).cell? ⟨bt,0,none⟩=some (.int .i64 t):=bT6.cells 0
  have c_Cd:=hC6 hxd
  have c_Ad:(World.drew wc).cell? ⟨ba,t,none⟩=some (.slice A (ans t).length c5):=(hM6.out.kA.cells t).trans hvt
  have c_Fd:(World.drew wc).cell? ⟨bA,1,none⟩=some (.int .i64 (ci:Int)):=bA6.cells 1
  have c_Te:(wc.alloc (.cells #[.int .i64 yv] 3)).cell? ⟨bt,0,none⟩=some (.int .i64 t):=(bT6.alloc _).cells 0
  have c_Ce:(wc.alloc (.cells #[.int .i64 yv] 3)).cell? ⟨bc,ci,none⟩=some (.int .i64 yv):=hC6 hxe
  have c_Fe:(wc.alloc (.cells #[.int .i64 yv] 3)).cell? ⟨bA,1,none⟩=some (.int .i64 (ci:Int)):=(bA6.alloc _).cells 1
  have c_Ae:(wc.alloc (.cells #[.int .i64 yv] 3)).cell? ⟨ba,t,none⟩=some (.slice A (ans t).length c5):=((hM6.out.kA.alloc _).cells t).trans hvt
  clear hC6 hxd hxe bT6 bA6 kC6 hIn hrow
  obtain⟨i0,hi,hz0,hz1,hz2⟩:=info_parts info_int
  go_upto_region 23 with fail
  go_cut [] (fun wx=>∃ vs2,Hid (WMem w [(bA,.cells #[.int .i64 kk,.int .i64 (ci:Int),.int .i64 vv] 50),(bu,.cells #[.bool false,.slice (some ⟨bk,0,none⟩) ((ans t).length+1) c3,.slice D3 S1.nts.length d3,.slice E3 n3 k3] 46),(bt,.cells #[.int .i64 t] 3),(bo,.cells (obCells m) 31),(bc,iCells M2),(b1,fCells (putF (gcame r ans) t ((r t:Int)+1))),(b2,fCells (fun t=>(r t:Int)))] ba wx (fun s=>if s=t then ans t++[yv] else ans s) vs2))
  case first =>
   -- [dev
   have hS:(World.drew wc).cell? ⟨bt,0,none⟩=some (.int .i64 t)/\(World.drew wc).cell? ⟨bc,ci,none⟩=some (.int .i64 yv)/\(World.drew wc).cell? ⟨bA,1,none⟩=some (.int .i64 (ci:Int)):=⟨c_Td,c_Cd,c_Fd⟩
   have hSe:((World.drew wc).alloc (.cells #[.int .i64 yv] 3)).cell? ⟨bt,0,none⟩=some (.int .i64 t)/\((World.drew wc).alloc (.cells #[.int .i64 yv] 3)).cell? ⟨bc,ci,none⟩=some (.int .i64 yv)/\((World.drew wc).alloc (.cells #[.int .i64 yv] 3)).cell? ⟨bA,1,none⟩=some (.int .i64 (ci:Int)):=⟨c_Te,c_Ce,c_Fe⟩
   refine wp_region_held_drew (S:=fun w'=>w'.cell? ⟨bt,0,none⟩=some (.int .i64 t)/\w'.cell? ⟨bc,ci,none⟩=some (.int .i64 yv)/\w'.cell? ⟨bA,1,none⟩=some (.int .i64 (ci:Int))) rfl hS (fun hHeld=>?_)
   clear c_T c_C c_A c_F
   refine tkb 0 ?_
   iterate 3
    refine tkn (v:=?_) rfl (by kernel_rfl) (fun _ _ _ h=>h) (by assumption) ?_ ?_
    rotate_left
    · (intro w hSw;(try dsimp only at hSw);go_simp;try with_reducible rfl)
    try simp only [put_pack]
   refine tke ?_
   refine tkb 4 ?_
   iterate 5
    refine tkn (v:=?_) rfl (by kernel_rfl) (fun _ _ _ h=>h) (by assumption) ?_ ?_
    rotate_left
    · (intro w hSw;(try dsimp only at hSw);go_simp;try with_reducible rfl)
    try simp only [put_pack]
   refine tke ?_
   refine wpAnyH_ready (rs:=[3,9]) (by kernel_rfl) (by simp) ?_
   refine AllReadyH.cons rfl (fun K hKK=>?_) (AllReadyH.cons rfl (fun K hKK=>?_) (AllReadyH.nil))
   · go_simp
     refine hKK.out _ _ hS (fun hHeld=>?_)
     clear hKK K
     try dsimp only
     refine wpAnyH_ready (rs:=[9]) (by kernel_rfl) (by simp) ?_
     refine AllReadyH.cons rfl (fun K hKK=>?_) (AllReadyH.nil)
     go_simp
     refine hKK.out _ _ hSe (fun hHeld=>?_)
     clear hKK K
     try dsimp only
     refine wpAnyH_ready (rs:=[10]) (by kernel_rfl) (by simp) ?_
     refine AllReadyH.cons rfl (fun K hKK=>?_) (AllReadyH.nil)
     refine step_append_lies _ (by rfl) _ _ _ (by rfl) w.heap.size 3 i0 _ 1 8 Tryz.underlying33 hi hz0 hz1 hz2 rfl (by omega) (Value.slice A (ans t).length c5) (ans t).length (rowOf (ans t)) (by rfl) ((World.ownsRow.drew hrow6.out).alloc _) ⟨wc.heap.size,0,none⟩ 1 1 [.int .i64 yv] (by rfl) (by rfl) (cells_new1 wc _ _) (by simp [Value.oneCell']) (by omega) (by unfold maxLen;omega) (by omega) (by simp;omega) (wc.heap.size+1) (by simp) ?_
     intro gg cap w1' hown1 hgrow hat1 hlt1
     have hM7:=Lib.hid (hM6.out.grow ht4 hvt hown1 (grown1 hgrow) (hat1.imp id (by omega)))
     have bT7:Blk w1' bt (.cells #[.int .i64 t] 3):=hM6.out.grownAt hvt (grown1 hgrow) 2 rfl
     have bA7:Blk w1' bA (.cells #[.int .i64 kk,.int .i64 (ci:Int),.int .i64 vv] 50):=hM6.out.grownAt hvt (grown1 hgrow) 0 rfl
     have bC7:Blk w1' bc (iCells M2):=hM6.out.grownAt hvt (grown1 hgrow) 4 rfl
     have hp1:=hM6.out.grownA hvt (grown1 hgrow)
     have hq1:=cell_of_heap hp1
     have hf1:=frozen_of_heap hp1
     refine hKK.out _ _ ⟨bT7.cells 0,by rw [bC7.cells ci];simp [hyvh.out],bA7.cells 1⟩ (fun hHeld=>?_)
     clear hKK K hown1 hgrow hat1 hlt1 hp1
     try dsimp only
     refine tk 11 (v:=?_) rfl (by kernel_rfl) (fun _ _ _ h=>h) (by assumption) ?_ ?_
     rotate_left
     · (intro w hSw;(try dsimp only at hSw);go_simp;try with_reducible rfl)
     try simp only [put_pack]
     refine wpAnyH_ready (rs:=[12]) (by kernel_rfl) (by simp) ?_
     refine AllReadyH.cons rfl (fun K hKK=>?_) (AllReadyH.nil)
     go_simp
     refine hKK.out _ _ ⟨(hM7.out.at_ 2 rfl).cells 0,by rw [(hM7.out.at_ 4 rfl).cells ci];simp [hyvh.out],(hM7.out.at_ 0 rfl).cells 1⟩ (fun hHeld=>?_)
     clear hKK K hq1 hf1 bT7 bA7 bC7
     try dsimp only
     refine wpAnyH_done (by kernel_rfl) ?_ _
     go_simp
     go_wp2_with fail
     go_meet
     exact⟨_,hM7⟩
   · go_simp
     refine hKK.out _ _ hSe (fun hHeld=>?_)
     clear hKK K
     try dsimp only
     refine wpAnyH_ready (rs:=[3]) (by kernel_rfl) (by simp) ?_
     refine AllReadyH.cons rfl (fun K hKK=>?_) (AllReadyH.nil)
     go_simp
     refine hKK.out _ _ hSe (fun hHeld=>?_)
     clear hKK K
     try dsimp only
     refine wpAnyH_ready (rs:=[10]) (by kernel_rfl) (by simp) ?_
     refine AllReadyH.cons rfl (fun K hKK=>?_) (AllReadyH.nil)
     refine step_append_lies _ (by rfl) _ _ _ (by rfl) w.heap.size 3 i0 _ 1 8 Tryz.underlying33 hi hz0 hz1 hz2 rfl (by omega) (Value.slice A (ans t).length c5) (ans t).length (rowOf (ans t)) (by rfl) ((World.ownsRow.drew hrow6.out).alloc _) ⟨wc.heap.size,0,none⟩ 1 1 [.int .i64 yv] (by rfl) (by rfl) (cells_new1 wc _ _) (by simp [Value.oneCell']) (by omega) (by unfold maxLen;omega) (by omega) (by simp;omega) (wc.heap.size+1) (by simp) ?_
     intro gg cap w1' hown1 hgrow hat1 hlt1
     have hM7:=Lib.hid (hM6.out.grow ht4 hvt hown1 (grown1 hgrow) (hat1.imp id (by omega)))
     have bT7:Blk w1' bt (.cells #[.int .i64 t] 3):=hM6.out.grownAt hvt (grown1 hgrow) 2 rfl
     have bA7:Blk w1' bA (.cells #[.int .i64 kk,.int .i64 (ci:Int),.int .i64 vv] 50):=hM6.out.grownAt hvt (grown1 hgrow) 0 rfl
     have bC7:Blk w1' bc (iCells M2):=hM6.out.grownAt hvt (grown1 hgrow) 4 rfl
     have hp1:=hM6.out.grownA hvt (grown1 hgrow)
     have hq1:=cell_of_heap hp1
     have hf1:=frozen_of_heap hp1
     refine hKK.out _ _ ⟨bT7.cells 0,by rw [bC7.cells ci];simp [hyvh.out],bA7.cells 1⟩ (fun hHeld=>?_)
     clear hKK K hown1 hgrow hat1 hlt1 hp1
     try dsimp only
     refine tk 11 (v:=?_) rfl (by kernel_rfl) (fun _ _ _ h=>h) (by assumption) ?_ ?_
     rotate_left
     · (intro w hSw;(try dsimp only at hSw);go_simp;try with_reducible rfl)
     try simp only [put_pack]
     refine wpAnyH_ready (rs:=[12]) (by kernel_rfl) (by simp) ?_
     refine AllReadyH.cons rfl (fun K hKK=>?_) (AllReadyH.nil)
     go_simp
     refine hKK.out _ _ ⟨(hM7.out.at_ 2 rfl).cells 0,by rw [(hM7.out.at_ 4 rfl).cells ci];simp [hyvh.out],(hM7.out.at_ 0 rfl).cells 1⟩ (fun hHeld=>?_)
     clear hKK K hq1 hf1 bT7 bA7 bC7
     try dsimp only
     refine wpAnyH_done (by kernel_rfl) ?_ _
     go_simp
     go_wp2_with fail
     go_meet
     exact⟨_,hM7⟩
   -- dev]
  case rest =>
  clear hM6 c_T c_C c_A c_F c_Td c_Cd c_Ad c_Fd c_Te c_Ce c_Fe c_Ae hrow6 hge6 hi hz0 hz1 hz2 hvt
  obtain⟨vs2,hM8⟩:=hcut
  obtain⟨ans2,ha2⟩:∃ f:Nat->List Int,f=(fun s=>if s=t then ans t++[yv] else ans s):=⟨_,rfl⟩
  rw [<- ha2] at hM8
  have h2t:ans2 t=ans t++[yv]:=by rw [ha2];exact if_pos rfl
  have h2n:ans2 t≠[]:=by rw [h2t];simp
  have h2s:∀ s,s≠t->ans2 s=ans s:=fun s hs=>by rw [ha2];exact if_neg hs
  have h2l:(ans2 t).length<=j+1:=by rw [h2t];simp;omega
  replace hM8:Hid (WMem w [(bA,.cells #[.int .i64 kk,.int .i64 (ci:Int),.int .i64 vv] 50),(bu,.cells #[.bool false,.slice (some ⟨bk,0,none⟩) ((ans t).length+1) c3,.slice D3 S1.nts.length d3,.slice E3 n3 k3] 46),(bt,.cells #[.int .i64 t] 3),(bo,.cells (obCells m) 31),(bc,iCells M2),(b1,fCells (gcame r ans2)),(b2,fCells (fun t=>(r t:Int)))] ba wc ans2 vs2):=by
   have e:=hcame.out ans2 h2s h2n
   have h:=hM8.out
   unfold fCells at h
   rw [e] at h
   exact h
  have hnx2:Hid (∃ pc' G' F' C' P' S2,((treeN (gaM m t).ask D (.st none)).run (TS0 [] (ans2 t))=(none,S2)/\GaInv m D (j+1) pc' r G' L F' C' P' M2 ans2) ∨
   ∃ v:Nat,(treeN (gaM m t).ask D (.st none)).run (TS0 [] (ans2 t))=(some (v:Int),S2)/\v<=1/\L+v<=r t+1/\(∀ s,s<m->r t+1<=(if s=t then r t+1 else r s)+(if (if s=t then [] else ans2 s)=[] then 0 else 1)) /\
    GaInv m D (j+1) pc' (fun s=>if s=t then r t+1 else r s) G' (L+v) F' C' P' M2 (fun s=>if s=t then [] else ans2 s)):=by
   have e0:(fun s=>if s=t then [] else ans s)=(fun s=>if s=t then [] else ans2 s):=funext fun s=>by
    by_cases e:s=t
    · rw [if_pos e,if_pos e]
    · rw [if_neg e,if_neg e,h2s s e]
   have e1:∀ s,(if s=t then [] else ans s)=(if s=t then [] else ans2 s):=fun s=>congrFun e0 s
   obtain⟨pc',G',F',C',P',S2,h⟩:=hnx.out
   refine⟨pc',G',F',C',P',S2,?_⟩
   rw [h2t]
   rcases h with⟨q1,q2⟩ | ⟨v,q1,q2,q3,q4,q5⟩
   · refine .inl ⟨q1,?_⟩
     rw [ha2]
     exact q2
   · refine .inr ⟨v,q1,q2,q3,fun s hs=>?_,?_⟩
     · rw [<- e1 s];exact q4 s hs
     · rw [<- e0];exact q5
  obtain⟨pc',G',F',C',P',S2,hnx3⟩:=hnx2.out
  have hnxh:=Lib.hid hnx3
  have hh2:=Lib.hid (And.intro h2n h2s)
  clear ha2 h2t hnx hnx2 hnx3 hcame hyvh h2n h2s
  obtain⟨A,c5,hvt,hIn,hrow⟩:=hM8.out.row ht4
  have c_T:wc.cell? ⟨bt,0,none⟩=some (.int .i64 t):=(hM8.out.at_ 2 rfl).cells 0
  have c_A:wc.cell? ⟨ba,t,none⟩=some (.slice A (ans2 t).length c5):=(hM8.out.kA.cells t).trans hvt
  have hPl:=play_int 17 #[.pointer (some ⟨bo,0,none⟩),.pointer (some ⟨bt,0,none⟩)] (treeN (gaM m t).ask D (.st none)) none 0 [] A c5 (ans2 t) wc (Ints.nil _) (by simp) hIn (by unfold maxAns;omega) (fun k hk=>(own_ge hrow hk).2) (fun _ _=>rfl) (fun W p hxW hP=>gacl2 _ p m t D _ bo bt W hP m1 (by omega) htm (by rw [hDh.out];show (ans2 t).length-0<600;omega) (by show 0+10*((ans2 t).length-0)<=90000;omega) ((hM8.out.at_ 3 rfl).ext hxW) (((hM8.out.at_ 2 rfl).ext hxW).cells 0))
  obtain⟨rv,dn,hrv⟩:∃ (rv:Option Int) (dn:Bool),(treeN (gaM m t).ask D (.st none)).run (TS0 [] (ans2 t))=(rv,S2)/\rv.isSome=dn:=by
   rcases hnxh.out with⟨q1,_⟩ | ⟨v,q1,_⟩
   · exact⟨_,_,q1,rfl⟩
   · exact⟨_,_,q1,rfl⟩
  rw [hrv.1] at hPl
  simp only [hrv.2] at hPl
  go_wp2_with fail
  refine hPl.mono ?_
  clear hPl
  rintro e w4 ⟨v4,rfl,hO4,hx4⟩
  obtain⟨A4,c4,D4,d4,E4,k4,n4,rfl⟩:=hO4.parts
  have hM9:=Lib.hid ((hM8.out.keep hx4).add ((Ext.refl w4).alloc (.cells #[.bool dn,.slice A4 S2.acc.length c4,.slice D4 S2.nts.length d4,.slice E4 n4 k4] 46)) (Blk.new w4 (.cells #[.bool dn,.slice A4 S2.acc.length c4,.slice D4 S2.nts.length d4,.slice E4 n4 k4] 46)) (Nat.le_refl _))
  clear hM8 c_T c_A hx4 hO4 hIn hrow hvt
  generalize hb9:w4.heap.size=bv at *
  go_upto_region 25 with fail
  generalize World.alloc w4 _=W5 at *
  clear hb9
  have bO5:=hM9.out.at_ 0 rfl
  have c_O:=bO5.cells
  cases dn with
  | false =>
    have hI3:Hid (GaInv m D (j+1) pc' r G' L F' C' P' M2 ans2):=by
     rcases hnxh.out with⟨q1,q2⟩ | ⟨v,q1,_⟩
     · exact q2
     · rw [hrv.1] at q1
       injection q1 with q1
       have:=hrv.2
       rw [q1] at this
       cases this
    have hM5:=Lib.hid (hM9.out.less (fy:=[(bo,.cells (obCells m) 31),(bc,iCells M2),(b1,fCells (gcame r ans2)),(b2,fCells (fun t=>(r t:Int)))]) ((((List.Sublist.refl _).cons _).cons _).cons _ |>.cons _))
    clear hM9 hnxh hrv hh2
    go_wp2_with fail
    refine⟨⟨j+1,pc',r,G',L,F',C',P',M2,ans2,vs2,by first | rfl | go_num,by first | rfl | go_num,by omega,fun s=>by have:=hrj s;omega,hI3,hM5⟩,?_⟩
    simp [intOf]
    omega
  | true =>
    obtain⟨v,rfl,hv1,hv3,hv4,hI3⟩:∃ v:Nat,rv=some (v:Int)/\v<=1/\L+v<=r t+1/\Hid (∀ s,s<m->r t+1<=(if s=t then r t+1 else r s)+(if (if s=t then [] else ans2 s)=[] then 0 else 1))/\Hid (GaInv m D (j+1) pc' (fun s=>if s=t then r t+1 else r s) G' (L+v) F' C' P' M2 (fun s=>if s=t then [] else ans2 s)):=by
     rcases hnxh.out with⟨q1,_⟩ | ⟨v,q1,q2,q3,q4,q5⟩
     · rw [hrv.1] at q1
       injection q1 with q1
       have:=hrv.2
       rw [q1] at this
       cases this
     · rw [hrv.1] at q1
       injection q1 with q1
       exact⟨v,q1,q2,q3,q4,q5⟩
    clear hnxh hrv
    have c_T:W5.cell? ⟨bt,0,none⟩=some (.int .i64 t):=(hM9.out.at_ 3 rfl).cells 0
    have hfA:W5.frozen? ⟨ba,t,none⟩=false:=frozen_of_heap hM9.out.kA t
    obtain⟨u5,c_A⟩:∃ u5,W5.cell? ⟨ba,t,none⟩=some u5:=by
     obtain⟨A6,c6,q1,_⟩:=hM9.out.row ht4
     exact⟨_,(hM9.out.kA.cells t).trans q1⟩
    go_upto_region 27 with fail
    have hM6:=Lib.hid (hM9.out.clear t)
    clear hM9 bO5 c_T hfA c_A c_O
    generalize World.setCell W5 _ _=W6 at *
    have c_T:W6.cell? ⟨bt,0,none⟩=some (.int .i64 t):=(hM6.out.at_ 3 rfl).cells 0
    have k2:=hM6.out.at_ 7 rfl
    have c_2:W6.cell? ⟨b2,t,none⟩=some (.int .i64 (r t:Int)):=(k2.cells t).trans (fours_at ht4)
    have hf2:W6.frozen? ⟨b2,t,none⟩=false:=frozen_of_heap k2 t
    have hrt:=hrj t
    have hw2:=IntWalk.i64_in ((r t:Int)+1) (by omega)
    clear k2
    go_upto_region 28 with fail
    obtain⟨r3,hr3⟩:∃ f:Nat->Nat,f=(fun s=>if s=t then r t+1 else r s):=⟨_,rfl⟩
    obtain⟨ans3,ha3⟩:∃ f:Nat->List Int,f=(fun s=>if s=t then [] else ans2 s):=⟨_,rfl⟩
    have h3t:r3 t=r t+1:=by rw [hr3];exact if_pos rfl
    have hM7:Hid (WMem w [(bv,.cells #[.bool true,.slice A4 S2.acc.length c4,.slice D4 S2.nts.length d4,.slice E4 n4 k4] 46),(bA,.cells #[.int .i64 kk,.int .i64 (ci:Int),.int .i64 vv] 50),(bu,.cells #[.bool false,.slice (some ⟨bk,0,none⟩) ((ans t).length+1) c3,.slice D3 S1.nts.length d3,.slice E3 n3 k3] 46),(bt,.cells #[.int .i64 t] 3),(bo,.cells (obCells m) 31),(bc,iCells M2),(b1,fCells (gcame r3 ans3)),(b2,fCells (fun s=>(r3 s:Int)))] ba (W6.setCell ⟨b2,t,none⟩ (.int .i64 ((r t:Int)+1))) ans3 (vs2.setIfInBounds t (.slice none 0 0))):=by
     have h:=hM6.out.setF 7 rfl hgeh.out.2.2.2.2 ht4 ((r t:Int)+1)
     have e1:fours (gcame r ans2)=fours (gcame r3 ans3):=fours_same fun s _=>by
      unfold gcame
      rw [hr3,ha3]
      by_cases e:s=t
      · subst e
        simp [hh2.out.1]
      · simp [e]
     have e2:fours (putF (fun s=>(r s:Int)) t ((r t:Int)+1))=fours (fun s=>(r3 s:Int)):=fours_same fun s _=>by
      unfold putF
      rw [hr3]
      by_cases e:s=t
      · subst e;simp
      · simp [e]
     simp only [List.set_cons_succ,List.set_cons_zero] at h
     unfold fCells at h ⊢
     rw [e1,e2,<- ha3] at h
     exact h
    rw [<- hr3,<- ha3] at hI3
    have hv5:Hid (∀ s,s<m->(r3 t:Int)<=gcame r3 ans3 s):=Lib.hid fun s hs=>by
     have h:=hv4.out s hs
     unfold gcame
     rw [h3t,hr3,ha3]
     dsimp only
     split at h <;> split at h <;> simp_all <;> omega
    have hv6:Hid (gcame r3 ans3 t=(r3 t:Int)):=Lib.hid (by unfold gcame;rw [ha3];simp)
    have hrj3:Hid (∀ s,r3 s<=j+1):=Lib.hid fun s=>by
     rw [hr3]
     dsimp only
     split
     · omega
     · have:=hrj s
       omega
    have hLv:=Lib.hid (show (L:Int)+(v:Int)<=(r3 t:Int) by rw [h3t];omega)
    clear hM6 hr3 ha3 h3t hv4 c_T c_2 hf2 hw2 hh2 hrj
    generalize World.setCell W6 _ _=W7 at *
    have hwL:=IntWalk.i64_in ((L:Int)+(v:Int)) (by omega)
    obtain⟨vs3,hvs3⟩:∃ x,x=vs2.setIfInBounds t (.slice none 0 0):=⟨_,rfl⟩
    rw [<- hvs3] at hM7
    clear hvs3
    obtain⟨u,hu⟩:∃ u,(r3 t:Int)=u:=⟨_,rfl⟩
    rw [hu] at hv5 hv6 hLv
    have huh:=Lib.hid hu
    clear hu
    go_wp2_with fail
    go_loopw [19] (fun a19 wr'=>∃ s:Nat,a19=.int .i64 s/\s<=m/\Hid (WMem w [(bv,.cells #[.bool true,.slice A4 S2.acc.length c4,.slice D4 S2.nts.length d4,.slice E4 n4 k4] 46),(bA,.cells #[.int .i64 kk,.int .i64 (ci:Int),.int .i64 vv] 50),(bu,.cells #[.bool false,.slice (some ⟨bk,0,none⟩) ((ans t).length+1) c3,.slice D3 S1.nts.length d3,.slice E3 n3 k3] 46),(bt,.cells #[.int .i64 t] 3),(bo,.cells (obCells m) 31),(bc,iCells M2),(b1,fCells (gcame r3 ans3)),(b2,fCells (fun s=>(r3 s:Int)))] ba wr' ans3 vs3)) (fun a19 _=>m-(intOf a19).toNat)
    case atStart=>exact⟨0,rfl,by omega,hM7⟩
    case round =>
     clear hM7
     obtain⟨s,rfl,hs,hM7⟩:=hrel
     have c_T:wr.cell? ⟨bt,0,none⟩=some (.int .i64 t):=(hM7.out.at_ 3 rfl).cells 0
     have c_U:wr.cell? ⟨b2,t,none⟩=some (.int .i64 u):=by
      rw [<- huh.out]
      exact ((hM7.out.at_ 7 rfl).cells t).trans (fours_at ht4)
     have hcS:Hid (∀ s,s<4->wr.cell? ⟨b1,s,none⟩=some (.int .i64 (gcame r3 ans3 s))):=Lib.hid fun s hs=>((hM7.out.at_ 6 rfl).cells s).trans (fours_at hs)
     by_cases hsm:s<m
     · have ds:decide ((s:Int)<(m:Int))=true:=by rw [decide_eq_true_eq];omega
       have hs4:(s:Int)<4:=by omega
       have hs0:(0:Int)<=(s:Int):=by omega
       have c_S:=hcS.out s (by omega)
       have hle:=hv5.out s hsm
       generalize gcame r3 ans3 s=cs at c_S hle
       have dc:decide (cs<u)=false:=by rw [decide_eq_false_iff_not];omega
       clear hle
       go_upto_region 32 with fail
       go_cut [145] (fun s145 wx=>s145=.bool false/\Hid (WMem w [(bv,.cells #[.bool true,.slice A4 S2.acc.length c4,.slice D4 S2.nts.length d4,.slice E4 n4 k4] 46),(bA,.cells #[.int .i64 kk,.int .i64 (ci:Int),.int .i64 vv] 50),(bu,.cells #[.bool false,.slice (some ⟨bk,0,none⟩) ((ans t).length+1) c3,.slice D3 S1.nts.length d3,.slice E3 n3 k3] 46),(bt,.cells #[.int .i64 t] 3),(bo,.cells (obCells m) 31),(bc,iCells M2),(b1,fCells (gcame r3 ans3)),(b2,fCells (fun s=>(r3 s:Int)))] ba wx ans3 vs3))
       case first =>
        have hS:(World.drew wr).cell? ⟨b1,s,none⟩=some (.int .i64 cs)/\(World.drew wr).cell? ⟨bt,0,none⟩=some (.int .i64 t)/\(World.drew wr).cell? ⟨b2,t,none⟩=some (.int .i64 u):=⟨c_S,c_T,c_U⟩
        have hM8:=Lib.hid (hM7.out.keep (Ext.refl wr).drew)
        clear c_S c_T c_U hM7 hcS
        refine wp_region_held_drew (S:=fun w'=>w'.cell? ⟨b1,s,none⟩=some (.int .i64 cs)/\w'.cell? ⟨bt,0,none⟩=some (.int .i64 t)/\w'.cell? ⟨b2,t,none⟩=some (.int .i64 u)) rfl hS (fun hHeld=>?_)
        refine tkb 0 ?_
        iterate 7
         refine tkn (v:=?_) rfl (by kernel_rfl) (fun _ _ _ h=>h) (by assumption) ?_ ?_
         rotate_left
         · (intro w hSw;(try dsimp only at hSw);go_simp;try with_reducible rfl)
         try simp only [put_pack]
        refine tke ?_
        refine wpAnyH_done (by kernel_rfl) ?_ _
        go_simp
        go_wp2_with fail
        go_meet
        exact⟨rfl,hM8⟩
       case rest =>
       clear hM7 c_S c_T c_U hcS
       obtain⟨rfl,hM8⟩:=hcut
       go_wp2_with fail
       refine⟨⟨s+1,by go_num,by omega,hM8⟩,?_⟩
       simp [intOf];omega
     · have ds:decide ((s:Int)<(m:Int))=false:=by rw [decide_eq_false_iff_not];omega
       have c_S:=hcS.out t (by omega)
       rw [hv6.out] at c_S
       have dl:decide (u<(L:Int)+(v:Int))=false:=by rw [decide_eq_false_iff_not];have:=hLv.out;omega
       have dv0:decide ((v:Int)<0)=false:=by rw [decide_eq_false_iff_not];omega
       have dv1:decide ((1:Int)<(v:Int))=false:=by rw [decide_eq_false_iff_not];omega
       have dv2:decide (1<v)=false:=by rw [decide_eq_false_iff_not];omega
       go_wp2_with fail
       refine⟨⟨j+1,pc',r3,G',L+v,F',C',P',M2,ans3,_,by first | rfl | go_num,by first | rfl | go_num,by omega,hrj3.out,hI3,hM7.out.less (fy:=[(bo,.cells (obCells m) 31),(bc,iCells M2),(b1,fCells (gcame r3 ans3)),(b2,fCells (fun s=>(r3 s:Int)))]) ((((List.Sublist.refl _).cons _).cons _).cons _ |>.cons _)⟩,?_⟩
       simp [intOf]
       omega
end Go.Proofs.YtmmmiplmiooioaaGreat
namespace Go.Proofs.YtmmmiplmiooioaaGreat.gateAll
open Go.ChangeShapes Go.WideShapes Go.ChangeAt Go.RowKit Kv
set_option maxRecDepth 100000 in
theorem main (H:Type)(enc:TypeId × Value->H)(W:World)(base:Nat)(args:Array Value)(ds:List (DataW H))(p:List MemPlace)
  (hval:∀ (j:Nat) t v,Tryz.f4.params[j]?=some t->args[j]?=some v->Value.okWide Tryz.prog W .any base t v)
  (hA:DataW.TrodAll enc Tryz.prog W 0 (fun _=>true) true Tryz.f4.params.toList args.toList ds p)(_hL:laidMetH Tryz.prog Rows.gateAllRow.laid W) :
  Calls Tryz.prog 4 args W fun e w'=>e=.returned (.bool true)/\Ext W w':=by
 rw [Tryz.params4] at hA hval
 obtain⟨v0,vs0,d0,ds0,p0,q0,hargs,rfl,rfl,h0,r0⟩:=trodAll_cons hA
 obtain⟨v1,vs1,d1,ds1,p1,q1,rfl,rfl,rfl,h1,r1⟩:=trodAll_cons r0
 obtain⟨rfl,rfl,rfl⟩:=trodAll_nil r1
 obtain rfl:args=#[v0,v1]:=by cases args;simp_all
 obtain⟨s,rfl,rfl,rfl,ws⟩:=open_int Tryz.underlying5 (hval 0 5 v0 rfl rfl) h0
 have hs:=bounds_u8 ws
 obtain⟨La,hLa,hLb⟩:=bytes_arg (hval 1 22 v1 rfl rfl) h1
 obtain⟨n,rfl⟩:∃ n:Nat,s=(n:Int):=⟨s.toNat,by omega⟩
 exact ga_walk n v1 La W (by omega) hLa hLb
end Go.Proofs.YtmmmiplmiooioaaGreat.gateAll
namespace Go.Proofs.YtmmmiplmiooioaaGreat.gateAll
open Go.ChangeShapes Go.WideShapes Go.ChangeAt Go.RowKit
theorem laidOut:laidOutB Tryz.prog=true:=by kernel_rfl
set_option maxRecDepth 100000 in
theorem contract (H:Type)(enc:TypeId × Value->H)(W:World)(base:Nat)(args:Array Value)(ds gs:List (DataW H))(before:List MemPlace)
  (hval:∀ (j:Nat) t v,Tryz.f4.params[j]?=some t->args[j]?=some v->Value.okWide Tryz.prog W .any base t v)
  (hW:DataW.Whole enc Tryz.prog Tryz.f4.params.toList Rows.gateAllSpec.vars false W args.toList ds gs before)(hL:laidMetH Tryz.prog Rows.gateAllRow.laid W) :
  Calls Tryz.prog 4 args W fun e W'=>∃ v,e=.returned v/\Rows.gateAllSpec.post enc Tryz.prog Tryz.f4 false true false false W args v W':=by
 refine (main H enc W base args ds before hval (by obtain⟨p,q,hA,hV,hpq,_,_⟩:=hW;obtain⟨_,rfl⟩:=trodVars_none hV;rw [List.append_nil] at hpq;subst hpq;exact hA) hL).mono fun e W' ⟨he,hg⟩=>⟨_,he,?_⟩
 refine law_post (tb:=4) laidOut ?_ (by kernel_rfl) Tryz.underlying4 rfl ?_ hW hg
 · rw [Tryz.params4]
   intro t ht
   simp only [List.mem_cons,List.not_mem_nil,or_false] at ht
   rcases ht with rfl | rfl <;> exact⟨by kernel_rfl,of_decide_eq_true (by kernel_rfl)⟩
 · intro ds hl
   rw [Tryz.params4] at hl
   match ds,hl with
   | [d0,d1],_=>rfl
set_option maxRecDepth 100000 in
theorem laid_met (os:Os):laidMet Tryz.prog Rows.gateAllRow.laid (((World.holding Tryz.prog os ⟨#[],#[],[]⟩)).forCall (fun _ _=>0) ⟨#[],#[.int .u8 0,.slice none 0 0],[]⟩).memory :=
 laidMet_of_run' 8 (by kernel_rfl) (by kernel_rfl)
set_option maxRecDepth 100000 in
theorem reads (os:Os){H:Type}(enc:TypeId × Value->H):∃ places,DataW.whole enc Tryz.prog (((World.holding Tryz.prog os ⟨#[],#[],[]⟩)).forCall (fun _ _=>0) ⟨#[],#[.int .u8 0,.slice none 0 0],[]⟩).memory Tryz.f4.params.toList Rows.gateAllSpec.vars false (#[.int .u8 0,.slice none 0 0]:Array Value).toList 8=some ([.lit (.int .u8 0),.nil],[],places) :=
 ⟨[],by kernel_rfl⟩
set_option maxRecDepth 100000 in
theorem lifted (os:Os)(started:os.Started)(H:Type)(enc:TypeId × Value->H)(F:Stop.Interp) :
  ReturnsInHanded {} Tryz.checked os 4 .any ((OpenSpec.ofChange Rows.gateAllSpec).preRow enc Tryz.prog Tryz.f4 Rows.gateAllRow.domain false Rows.gateAllRow.laid) (((OpenSpec.ofChange Rows.gateAllSpec).at F).post enc Tryz.prog Tryz.f4 false true false false):=by
 obtain⟨places,hx⟩:=reads os enc
 refine returnsInHanded_of_row (C:=Tryz.checked) (s:=(OpenSpec.ofChange Rows.gateAllSpec)) own started (by kernel_rfl) Tryz.func4
  (witness_row_at (enc:=enc) (C:=Tryz.checked) false (World.holding Tryz.prog os ⟨#[],#[],[]⟩) #[.int .u8 0,.slice none 0 0] rfl (by kernel_rfl) (by kernel_rfl) (by kernel_rfl)
    (OpenSpec.preRow_of_cond 8 hx (by kernel_rfl) (fun k hk=>by cases hk) (by kernel_rfl) (laid_met os))) ?_
 intro W base args ds gs before hval hW _ _ _ hL _ _
 exact contract H enc W base args ds gs before hval hW hL
theorem c1:(Rows.gateAllRow.inPlace==Tryz.pinned.checked.prog.inPlace 4)=true:=by kernel_rfl
theorem c2:(Rows.gateAllRow.unfollowed==Tryz.pinned.checked.prog.unfollowed 4)=true:=by kernel_rfl
theorem c3:(Rows.gateAllRow.recurses==Tryz.pinned.checked.prog.recurses 4)=true:=by kernel_rfl
theorem c4:(Rows.gateAllRow.named==Tryz.pinned.checked.prog.varsNamed 4)=true:=by kernel_rfl
theorem closed:joinedFacts Tryz.pinned.checked.prog 4 Tryz.f4 (OpenSpec.ofChange Rows.gateAllSpec).bare Rows.gateAllRow=true:=by
 unfold joinedFacts
 simp only [Bool.and_eq_true]
 repeat' refine And.intro ?_ ?_
 all_goals first | with_reducible exact c1 | with_reducible exact c2 | with_reducible exact c3 | with_reducible exact c4 | kernel_rfl
theorem said:Rows.GateAllSaid :=
 OpenClaim.holds_of_cond 4 Tryz.f4 rfl rfl rfl rfl rfl rfl rfl ⟨rfl,rfl,rfl,rfl,rfl⟩ rfl rfl rfl rfl rfl (by kernel_rfl) Tryz.func4 closed
  (of_decide_eq_true (by kernel_rfl)) (by unfold Func.isWrapper;first | (rw [if_pos (by decide +kernel)];kernel_rfl) | (rw [if_neg (by decide +kernel)];exact⟨rfl,rfl⟩))
  (fun os started H enc _ F=>by rw [OpenClaim.pre_eq_preRow];exact lifted os started H enc F)
end Go.Proofs.YtmmmiplmiooioaaGreat.gateAll
