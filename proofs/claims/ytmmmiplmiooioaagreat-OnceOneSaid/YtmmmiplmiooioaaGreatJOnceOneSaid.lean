/-
  OnceOne holds: at any paces, on atomic cells, one at most is ever told 1, and nobody is told 0 before that one is done, without conditions.
-/
import Derived.Test.YtmmmiplmiooioaaGreatJOnceOneSaid3
import Derived.Deep.RegionLaw
import Derived.Deep.AppendLies
import Derived.Deep.RegionHeld2
import Derived.Deep.CutBlock
import Derived.Deep.DeepCutAuto
namespace Go.Proofs.YtmmmiplmiooioaaGreat
open Go.RowKit Kv
def OnLoc (lv:Array Value) (ph:Nat->Nat) (gx:Blocks):Prop:=lv.size=4/\∀ t,t<4->ph t≠2->∃ E k,lv[t]?=some (.slice E (onL (ph t)).length k)/\∀ W,(∀ q,q∈gx->Blk W q.1 q.2)->Ints W (.slice E (onL (ph t)).length k) (onL (ph t))
theorem OnLoc.start:OnLoc #[.slice none 0 0,.slice none 0 0,.slice none 0 0,.slice none 0 0] (fun _=>0) [] :=
 ⟨rfl,fun t ht _=>⟨none,0,(by have:t=0∨t=1∨t=2∨t=3:=(by omega);rcases this with rfl | rfl | rfl | rfl <;> rfl),fun W _=>Ints.nil W⟩⟩
theorem OnLoc.mono {lv:Array Value}{ph:Nat->Nat}{gx gz:Blocks}(h:OnLoc lv ph gx)(hs:∀ q,q∈gx->q∈gz):OnLoc lv ph gz :=
 ⟨h.1,fun t ht hp=>by
  obtain⟨E,k,h1,h2⟩:=h.2 t ht hp
  exact⟨E,k,h1,fun W hq=>h2 W fun q hqx=>hq q (hs q hqx)⟩⟩
theorem onL_got {p:Nat}(h:p<=1)(a:List Int):(TS0 (onL p) a).got 0=(p:Int):=by
 obtain rfl | rfl:p=0∨p=1:=by omega
 · rfl
 · rfl
theorem onL_len (p:Nat):(onL p).length<=1:=by unfold onL;split <;> simp
set_option maxRecDepth 100000 in
set_option maxHeartbeats 40000000 in
theorem on_walk (n:Nat)(vP:Value)(Ls:List Int)(w:World)(hn:n<256)(hL:U8s w vP Ls)(hLb:∀ x∈Ls,0<=x/\x<256) :
  Calls Tryz.prog 3 #[.int .u8 n,vP] w fun e w'=>e=.returned (.bool true)/\Ext w w':=by
 have hmf:∀ (fn:Fn) (first cap:Array Value) (w:World),(Instr.makeFunc fn first cap).run Tryz.prog w=.ok (.func fn first cap) w:=fun _ _ _ _=>rfl
 obtain⟨m,hm⟩:∃ m:Nat,1+(n:Int) % 4=m:=⟨1+n % 4,by omega⟩
 have m1:1<=m:=by omega
 have m4:m<=4:=by omega
 obtain⟨AL,cL,rfl,z1,z2⟩:∃ A c,vP=.slice A Ls.length c/\Ls.length<=c/\c<=9223372036854775807:=by
  obtain⟨A,c,e,q1,q2,_⟩:=hL
  exact⟨A,c,e,q1,q2⟩
 have hput:=fun w=>put8_r 0 m 1 0 0 1 w
 go_enter Tryz.func3,Tryz.ntmps3
 by_cases hl:300<Ls.length
 · have d1:decide ((300:Int)<(Ls.length:Int))=true:=by rw [decide_eq_true_eq];omega
   go_wp2_with fail
   refine (alive39 _).mono ?_
   rintro e w7 ⟨rfl,hx7⟩
   have hf:=Lib.hid hx7
   clear hx7
   go_wp2_with fail
   go_ret
   exact⟨rfl,hf.out⟩
 have d1:decide ((300:Int)<(Ls.length:Int))=false:=by rw [decide_eq_false_iff_not];omega
 go_wp2_with fail
 refine (hput _).mono ?_
 rintro e w0 ⟨rfl,hX⟩
 clear hput
 rename_i hKK
 refine hKK _ _ ?_
 clear hKK
 refine new_obj rfl rfl rfl _ _ rfl _ rfl rfl rfl (by kernel_rfl) ?_
 refine wpList_nil ?_
 have kO:=Blk.new w0 (.cells (obCells m) 31)
 have hgo:w.heap.size<=w0.heap.size:=hX.size
 replace hX:=hX.alloc (.cells (obCells m) 31)
 have hV0:(World.alloc w0 (.cells (obCells m) 31)).heap.size=w0.heap.size+1:=by simp
 generalize hbo:w0.heap.size=bo at *
 generalize World.alloc w0 _=V0 at *
 clear hbo
 have c_O:=kO.cells
 have hmk:=fun W=>make_ints ((m:Int)+1) (m+1) (by omega) (by omega) W
 have w1:=IntWalk.i64_in ((m:Int)+1) (by omega)
 go_upto_region 10 with fail
 clear c_O hmk w1
 have hM:WMem w [(bo,.cells (obCells m) 31),(bo+1,iCells (zeros (m+1))),(bo+1+1+1,.cells #[.slice none 0 0,.slice none 0 0,.slice none 0 0,.slice none 0 0] 34),(bo+1+1+1+1,fCells fun _=>0)] (bo+1+1) ((((V0.alloc (.cells ((zeros (m+1)).map (Value.int .i64)).toArray 3)).alloc (.cells #[.slice none 0 0,.slice none 0 0,.slice none 0 0,.slice none 0 0] 34)).alloc (.cells #[.slice none 0 0,.slice none 0 0,.slice none 0 0,.slice none 0 0] 34)).alloc (.cells #[.int .i64 0,.int .i64 0,.int .i64 0,.int .i64 0] 35)) (fun _=>[]) (Array.replicate 4 (.slice none 0 0)):=by
  refine WMem.start ((((hX.alloc _).alloc _).alloc _).alloc _) (fun q hq=>?_) ?_ (by omega) (by simp;omega)
  · simp only [List.mem_cons,List.not_mem_nil,or_false] at hq
    rcases hq with rfl | rfl | rfl | rfl
    · exact (((kO.alloc _).alloc _).alloc _).alloc _
    · have h:=(((Blk.new V0 (.cells ((zeros (m+1)).map (Value.int .i64)).toArray 3)).alloc (.cells #[.slice none 0 0,.slice none 0 0,.slice none 0 0,.slice none 0 0] 34)).alloc (.cells #[.slice none 0 0,.slice none 0 0,.slice none 0 0,.slice none 0 0] 34)).alloc (.cells #[.int .i64 0,.int .i64 0,.int .i64 0,.int .i64 0] 35)
      rw [hV0] at h
      exact h
    · have h:=(Blk.new ((V0.alloc (.cells ((zeros (m+1)).map (Value.int .i64)).toArray 3)).alloc (.cells #[.slice none 0 0,.slice none 0 0,.slice none 0 0,.slice none 0 0] 34)) (.cells #[.slice none 0 0,.slice none 0 0,.slice none 0 0,.slice none 0 0] 34)).alloc (.cells #[.int .i64 0,.int .i64 0,.int .i64 0,.int .i64 0] 35)
      simp only [World.size_alloc,hV0] at h
      exact h
    · have h:=Blk.new (((V0.alloc (.cells ((zeros (m+1)).map (Value.int .i64)).toArray 3)).alloc (.cells #[.slice none 0 0,.slice none 0 0,.slice none 0 0,.slice none 0 0] 34)).alloc (.cells #[.slice none 0 0,.slice none 0 0,.slice none 0 0,.slice none 0 0] 34)) (.cells #[.int .i64 0,.int .i64 0,.int .i64 0,.int .i64 0] 35)
      simp only [World.size_alloc,hV0] at h
      exact h
  · have h:=((Blk.new (V0.alloc (.cells ((zeros (m+1)).map (Value.int .i64)).toArray 3)) (.cells #[.slice none 0 0,.slice none 0 0,.slice none 0 0,.slice none 0 0] 34)).alloc (.cells #[.slice none 0 0,.slice none 0 0,.slice none 0 0,.slice none 0 0] 34)).alloc (.cells #[.int .i64 0,.int .i64 0,.int .i64 0,.int .i64 0] 35)
    simp only [World.size_alloc,hV0] at h
    exact h
 clear kO
 have hne:bo<bo+1/\bo+1<bo+1+1/\bo+1+1<bo+1+1+1/\bo+1+1+1<bo+1+1+1+1:=by omega
 generalize World.alloc (World.alloc (World.alloc (World.alloc V0 _) _) _) _=W0 at *
 generalize hb2:bo+1+1+1+1=b2 at *
 generalize hb1:bo+1+1+1=b1 at *
 generalize hba:bo+1+1=ba at *
 generalize hbc:bo+1=bc at *
 clear hb2 hb1 hba hbc hV0 hX V0
 have hgeh:=Lib.hid (show w.heap.size<=bo/\w.heap.size<=bc/\w.heap.size<=ba/\w.heap.size<=b1/\w.heap.size<=b2 by omega)
 clear hgo hne
 have hLh:=Lib.hid hL
 have hLbh:=Lib.hid hLb
 obtain⟨D,hD⟩:∃ D:Nat,D=600:=⟨_,rfl⟩
 have hDh:=Lib.hid hD
 have hI0:=Lib.hid (OnInv.start m D 0 (by omega))
 have hM0:=Lib.hid hM
 have hlo0:=Lib.hid OnLoc.start
 clear hL hLb hM hD d1
 go_wp2_with fail
 go_loopw [11,12,13] (fun a11 a12 a13 wr=>∃ (j:Nat) (pc:Nat->NP) (ph:Nat->Nat) (ones:Nat) (over:Bool) (F:Nat->Int) (X:Int) (M:List Int) (ans:Nat->List Int) (vs lv:Array Value) (gx:Blocks),a11=.int .i64 ones/\a12=.bool over/\a13=.int .i64 j/\j<=Ls.length/\Hid (OnInv m D j pc ph ones over F X M ans)/\Hid (OnLoc lv ph gx)/\Hid (∀ t,ph t<=2)/\Hid (WMem w ((bo,.cells (obCells m) 31) :: (bc,iCells M) :: (b1,.cells lv 34) :: (b2,fCells (fun s=>(ph s:Int))) :: gx) ba wr ans vs)) (fun _ _ a13 _=>Ls.length-(intOf a13).toNat)
 case atStart =>
  exact⟨0,_,_,0,false,_,_,_,_,_,_,[],rfl,rfl,rfl,by omega,hI0,hlo0,fun _=>by omega,hM0.out⟩
 case round =>
  clear hM0 hI0 hlo0
  obtain⟨j,pc,ph,ones,over,F,X,M,ans,vs,lv,gx,rfl,rfl,rfl,hj,hI,hlo,hp2,hM⟩:=hrel
  by_cases hjl:j<Ls.length
  rotate_left
  · have dj:decide ((j:Int)<(Ls.length:Int))=false:=by rw [decide_eq_false_iff_not];omega
    have hE1:=Lib.hid hM.out.ext
    have hob:=hI.out.s.ob
    have do1:decide ((ones:Int)<=1)=true:=by rw [decide_eq_true_eq];omega
    have do2:decide (ones<=1)=true:=by rw [decide_eq_true_eq];omega
    clear hM hI hlo hp2 hob
    go_wp2_with fail
    refine (alive39 _).mono ?_
    rintro e w7 ⟨rfl,hx7⟩
    have hf:=Lib.hid (hE1.out.trans hx7)
    clear hx7
    go_wp2_with fail
    first | exact⟨rfl,hf.out⟩ | (go_ret;exact⟨rfl,hf.out⟩) | (go_ret2;exact⟨rfl,hf.out⟩)
  have dj:decide ((j:Int)<(Ls.length:Int))=true:=by rw [decide_eq_true_eq];omega
  obtain⟨x,hx⟩:∃ x,Ls[j]?=some x:=⟨_,List.getElem?_eq_getElem hjl⟩
  obtain⟨bq,oq,rfl,hbq,hcx0⟩:=hLh.out.at_ hx
  have hcx:=(hM.out.ext.cell (p:=⟨bq,oq+j,none⟩) hbq).trans hcx0
  clear hcx0
  have hxb:=hLbh.out x (List.mem_of_getElem? hx)
  obtain⟨y,rfl⟩:∃ y:Nat,x=y:=⟨x.toNat,by omega⟩
  obtain⟨t,htt⟩:∃ t:Nat,((y:Int)).tmod (m:Int)=t:=⟨(((y:Int)).tmod (m:Int)).toNat,by
   have:=Int.tmod_nonneg (m:Int) (show (0:Int)<=y by omega)
   omega⟩
  have htm:t<m:=by
   have:=Int.tmod_lt_of_pos (y:Int) (show (0:Int)<m by omega)
   omega
  have hm0:¬ m=0:=by omega
  have hwy:=IntWalk.i64_in (y:Int) (by omega)
  go_upto_region 13 with fail
  have hM1:=Lib.hid (hM.out.add ((Ext.refl wr).alloc (.cells #[.int .i64 t] 3)) (Blk.new wr (.cells #[.int .i64 t] 3)) (Nat.le_refl _))
  have hgt:w.heap.size<=wr.heap.size:=hM.out.ext.size
  clear hM hcx htt
  generalize hbt:wr.heap.size=bt at *
  generalize World.alloc wr _=W1 at *
  clear hbt
  have ht4:t<4:=by omega
  have ht4i:(t:Int)<4:=by omega
  have c_T:W1.cell? ⟨bt,0,none⟩=some (.int .i64 t):=(hM1.out.at_ 0 rfl).cells 0
  have c_P:W1.cell? ⟨b2,t,none⟩=some (.int .i64 (ph t:Int)):=((hM1.out.at_ 4 rfl).cells t).trans (fours_at ht4)
  by_cases hph:ph t=2
  · have hI2:=Lib.hid hI.out.more
    have hM2:=Lib.hid (hM1.out.less (fy:=((bo,.cells (obCells m) 31) :: (bc,iCells M) :: (b1,.cells lv 34) :: (b2,fCells (fun s=>(ph s:Int))) :: gx)) ((List.Sublist.refl _).cons _))
    rw [hph] at c_P
    clear hI hM1 hph
    go_wp2_with fail
    refine⟨⟨j+1,pc,ph,ones,over,F,X,M,ans,vs,lv,gx,by first | rfl | go_num,by first | rfl | go_num,by first | rfl | go_num,by omega,hI2,hlo,hp2,hM2⟩,?_⟩
    simp [intOf]
    omega
  have dp2:(((ph t:Nat):Int)==2)=false:=by rw [beq_eq_false_iff_ne];omega
  have dp3:(ph t==2)=false:=by rw [beq_eq_false_iff_ne];omega
  go_upto_region 15 with fail
  clear dp2 dp3 c_T c_P
  obtain⟨kk,ci,vv,yv,M2,S1,l1,hr1,hacc,hl1,hci,hkk,hyv,hnext⟩:=hI.out.pick htm hph (by rw [hDh.out];omega)
  have hlen:=(hI.out.pos t htm).1
  have hlM:=hI.out.c.len
  have hp1:ph t<=1:=by have:=hp2.out t;omega
  obtain⟨A,c5,hvt,hIn,hrow⟩:=hM1.out.row ht4
  obtain⟨E,kE,hlv,hIE⟩:=hlo.out.2 t ht4 hph
  have hPl:∀ W,Ext W1 W->Calls Tryz.prog 12 #[.func (.func 9) #[] #[.pointer (some ⟨b2,0,none⟩),.pointer (some ⟨bt,0,none⟩),.pointer (some ⟨bo,0,none⟩)],.slice E (onL (ph t)).length kE,.slice A (ans t).length c5] W fun e w'=>∃ bk c3 D3 m3 d3 E3 n3 k3,e=.returned (.tuple #[.agg #[.int .i64 0,.int .i64 0],.agg #[.bool false,.slice (some ⟨bk,0,none⟩) ((ans t).length+1) c3,.slice D3 m3 d3,.slice E3 n3 k3]])/\Ext W w'/\W.heap.size<=bk/\bk<w'.heap.size/\w'.cell? ⟨bk,(ans t).length*3,none⟩=some (.int .i64 kk)/\w'.cell? ⟨bk,(ans t).length*3+1,none⟩=some (.int .i64 (ci:Int))/\w'.cell? ⟨bk,(ans t).length*3+2,none⟩=some (.int .i64 vv):=by
   intro W hxW
   have hIE2:=hIE W fun q hq=>(hM1.out.fix q (by simp [hq])).ext hxW
   have h:=play_reply (fun _=>0) id encRp (fun _=>rfl) 9 #[.pointer (some ⟨b2,0,none⟩),.pointer (some ⟨bt,0,none⟩),.pointer (some ⟨bo,0,none⟩)] (treeN (onM m t).ask D (.st (decide (ph t=1)))) E kE (onL (ph t)) A c5 (ans t) W hIE2 (by have:=onL_len (ph t);omega) (hIn.ext hxW) (by unfold maxAns;omega) (fun k hk=>by have:=(own_ge hrow hk).2;have:=hxW.size;omega) (fun _ _=>rfl) (fun W' p hxW' hP=>oncl _ p m t (ph t) D _ bo bt b2 W' hP m1 (by omega) htm ht4 hp1 (by rw [hDh.out];show (ans t).length-0<600;omega) (by show 0+10*((ans t).length-0)<=90000;omega) (onL_got hp1 _) ((hM1.out.at_ 1 rfl).ext (hxW.trans hxW')) (((hM1.out.at_ 0 rfl).ext (hxW.trans hxW')).cells 0) ((((hM1.out.at_ 4 rfl).ext (hxW.trans hxW')).cells t).trans (fours_at ht4)) ⟨((hM1.out.at_ 0 rfl).ext (hxW.trans hxW')).lt,((hM1.out.at_ 4 rfl).ext (hxW.trans hxW')).lt⟩)
   rw [hr1] at h
   simp only [Option.map_none,Option.getD_none,Option.isSome_none] at h
   refine h.mono ?_
   rintro e w3 ⟨v3,rfl,hO,hB3,hx3⟩
   obtain⟨A3,c3,D3,d3,vs3,L3,rfl,hO3⟩:=hO
   have hvc9:∀ b,(Value.slice A3 S1.acc.length c3).ownBlock=some b->W.heap.size<=b:=by
    obtain⟨_,vC9,_,_,he9,_,hvc9⟩:=hB3
    unfold outV at he9
    simp only [Value.agg.injEq,Array.mk.injEq,List.cons.injEq] at he9
    obtain⟨_,rfl,_⟩:=he9
    exact hvc9
   obtain⟨E3,k3,hvs3,_,_⟩:=hO3.locs.slice
   subst hvs3
   have hat:S1.acc[(ans t).length]?=some ⟨kk,(ci:Int),vv⟩:=by rw [hacc,<- hl1];simp
   have hal:S1.acc.length=(ans t).length+1:=by rw [hacc,<- hl1];simp
   obtain⟨bk,rfl,hbk,q0,q1,q2⟩:=hO3.accs.at_ hat
   simp only at q0 q1 q2
   unfold outV
   rw [hal]
   exact⟨bk,_,_,_,_,_,_,_,rfl,hx3,hvc9 bk rfl,hbk,q0,q1,q2⟩
  have hS:∀ W,Ext W1 W->W.cell? ⟨bt,0,none⟩=some (.int .i64 t)/\W.cell? ⟨b1,t,none⟩=some (.slice E (onL (ph t)).length kE)/\W.cell? ⟨ba,t,none⟩=some (.slice A (ans t).length c5):=fun W hx=>⟨((hM1.out.at_ 0 rfl).ext hx).cells 0,(((hM1.out.at_ 3 rfl).ext hx).cells t).trans hlv,((hM1.out.kA.ext hx).cells t).trans hvt⟩
  have hnx:=Lib.hid hnext
  have hkkh:=Lib.hid hkk
  have hyvh:=Lib.hid hyv
  clear hIn hrow hIE hr1 hacc hl1 hnext hkk hyv hI
  go_cut [16,17] (fun s16 s17 wx=>∃ br bu bk c3 D3 m3 d3 E3 n3 k3,s16=.pointer (some ⟨br,0,none⟩)/\s17=.pointer (some ⟨bu,0,none⟩)/\Hid (WMem w ((bu,.cells #[.bool false,.slice (some ⟨bk,0,none⟩) ((ans t).length+1) c3,.slice D3 m3 d3,.slice E3 n3 k3] 46) :: (br,.cells #[.int .i64 0,.int .i64 0] 39) :: (bt,.cells #[.int .i64 t] 3) :: (bo,.cells (obCells m) 31) :: (bc,iCells M) :: (b1,.cells lv 34) :: (b2,fCells (fun s=>(ph s:Int))) :: gx) ba wx ans vs)/\wx.cell? ⟨bk,(ans t).length*3,none⟩=some (.int .i64 kk)/\wx.cell? ⟨bk,(ans t).length*3+1,none⟩=some (.int .i64 (ci:Int))/\wx.cell? ⟨bk,(ans t).length*3+2,none⟩=some (.int .i64 vv))
  case first =>
   -- [dev
   as_aux_lemma =>
   have hMn1:=Lib.hid (hM1.out.keep (Ext.refl W1).drew)
   have e1:=(Ext.refl W1).drew
   refine wp_region_held_drew (S:=fun w'=>w'.cell? ⟨bt,0,none⟩=some (.int .i64 t)/\w'.cell? ⟨b1,t,none⟩=some (.slice E (onL (ph t)).length kE)/\w'.cell? ⟨ba,t,none⟩=some (.slice A (ans t).length c5)) rfl (hS _ e1) (fun hHeld=>?_)
   clear hM1 hnx hkkh hyvh hlo hp2 hph
   refine tkb 0 ?_
   iterate 7
    refine tkn (v:=?_) rfl (by kernel_rfl) (fun _ _ _ h=>h) (by assumption) ?_ ?_
    rotate_left
    · (intro w hSw;(try dsimp only at hSw);go_simp;try with_reducible rfl)
    try simp only [put_pack]
   refine tke ?_
   generalize World.drew W1=Wd at *
   refine wpAnyH_ready (rs:=[7,11,12]) (by kernel_rfl) (by simp) ?_
   refine AllReadyH.cons rfl (fun K hKK=>?_) (AllReadyH.cons rfl (fun K hKK=>?_) (AllReadyH.cons rfl (fun K hKK=>?_) (AllReadyH.nil)))
   · go_simp
     refine (hPl _ e1).mono ?_
     rintro e w4 ⟨bk,c3,D3,m3,d3,E3,n3,k3,rfl,hx4,hbk,hbl,q0,q1,q2⟩
     have hMn2:=Lib.hid (hMn1.out.keep hx4)
     have e2:=e1.trans hx4
     clear hx4 hbk hMn1 e1 hPl
     refine hKK.out _ _ (hS _ e2) (fun hHeld=>?_)
     clear hKK K
     try dsimp only
     refine tkb 8 ?_
     iterate 3
      refine tkn (v:=?_) rfl (by kernel_rfl) (fun _ _ _ h=>h) (by assumption) ?_ ?_
      rotate_left
      · (intro w hSw;(try dsimp only at hSw);go_simp;try with_reducible rfl)
      try simp only [put_pack]
     refine tke ?_
     refine wpAnyH_ready (rs:=[11,12]) (by kernel_rfl) (by simp) ?_
     refine AllReadyH.cons rfl (fun K hKK=>?_) (AllReadyH.cons rfl (fun K hKK=>?_) (AllReadyH.nil))
     · go_simp
       have hMn3:=Lib.hid (hMn2.out.add ((Ext.refl w4).alloc (.cells #[.int .i64 0,.int .i64 0] 39)) (Blk.new w4 (.cells #[.int .i64 0,.int .i64 0] 39)) (Nat.le_refl _))
       have e3:=e2.alloc (.cells #[.int .i64 0,.int .i64 0] 39)
       replace q0:=(((Ext.refl w4).alloc (.cells #[.int .i64 0,.int .i64 0] 39)).cell (p:=⟨bk,_,none⟩) hbl).trans q0
       replace q1:=(((Ext.refl w4).alloc (.cells #[.int .i64 0,.int .i64 0] 39)).cell (p:=⟨bk,_,none⟩) hbl).trans q1
       replace q2:=(((Ext.refl w4).alloc (.cells #[.int .i64 0,.int .i64 0] 39)).cell (p:=⟨bk,_,none⟩) hbl).trans q2
       have hnR:bk≠w4.heap.size:=by omega
       replace hbl:bk<(w4.alloc (.cells #[.int .i64 0,.int .i64 0] 39)).heap.size:=by simp only [World.size_alloc];omega
       have gR:w.heap.size<=w4.heap.size:=hMn2.out.ext.size
       clear hMn2
       refine hKK.out _ _ (hS _ e3) (fun hHeld=>?_)
       clear hKK K
       try dsimp only
       generalize hb9:w4.heap.size=br at *
       generalize World.alloc w4 _=X3 at *
       clear hb9 e2
       refine wpAnyH_ready (rs:=[12]) (by kernel_rfl) (by simp) ?_
       refine AllReadyH.cons rfl (fun K hKK=>?_) (AllReadyH.nil)
       go_simp
       have hMn4:=Lib.hid (hMn3.out.add ((Ext.refl X3).alloc (.cells #[.bool false,.slice none 0 0,.slice none 0 0,.slice none 0 0] 46)) (Blk.new X3 (.cells #[.bool false,.slice none 0 0,.slice none 0 0,.slice none 0 0] 46)) (Nat.le_refl _))
       have e4:=e3.alloc (.cells #[.bool false,.slice none 0 0,.slice none 0 0,.slice none 0 0] 46)
       replace q0:=(((Ext.refl X3).alloc (.cells #[.bool false,.slice none 0 0,.slice none 0 0,.slice none 0 0] 46)).cell (p:=⟨bk,_,none⟩) hbl).trans q0
       replace q1:=(((Ext.refl X3).alloc (.cells #[.bool false,.slice none 0 0,.slice none 0 0,.slice none 0 0] 46)).cell (p:=⟨bk,_,none⟩) hbl).trans q1
       replace q2:=(((Ext.refl X3).alloc (.cells #[.bool false,.slice none 0 0,.slice none 0 0,.slice none 0 0] 46)).cell (p:=⟨bk,_,none⟩) hbl).trans q2
       have hnO:bk≠X3.heap.size:=by omega
       replace hbl:bk<(X3.alloc (.cells #[.bool false,.slice none 0 0,.slice none 0 0,.slice none 0 0] 46)).heap.size:=by simp only [World.size_alloc];omega
       have gO:w.heap.size<=X3.heap.size:=hMn3.out.ext.size
       clear hMn3
       refine hKK.out _ _ (hS _ e4) (fun hHeld=>?_)
       clear hKK K
       try dsimp only
       generalize hb9:X3.heap.size=bu at *
       generalize World.alloc X3 _=X4 at *
       clear hb9 e3
       have hZ:Hid (WMem w ((bu,.cells #[.bool false,.slice none 0 0,.slice none 0 0,.slice none 0 0] 46) :: (br,.cells #[.int .i64 0,.int .i64 0] 39) :: (bt,.cells #[.int .i64 t] 3) :: (bo,.cells (obCells m) 31) :: (bc,iCells M) :: (b1,.cells lv 34) :: (b2,fCells (fun s=>(ph s:Int))) :: gx) ba X4 ans vs):=hMn4
       clear hMn4 e4
       have kR:=hZ.out.at_ 1 rfl
       have c_R:=kR.cells
       have f_R:=fun i=>frozen_of_heap kR i
       clear kR
       refine wpAnyH_ready (rs:=[13]) (by kernel_rfl) (by simp) ?_
       refine AllReadyH.cons rfl (fun K hKK=>?_) (AllReadyH.nil)
       go_simp
       have hZ2:Hid (WMem w ((bu,.cells #[.bool false,.slice none 0 0,.slice none 0 0,.slice none 0 0] 46) :: (br,.cells #[.int .i64 0,.int .i64 0] 39) :: (bt,.cells #[.int .i64 t] 3) :: (bo,.cells (obCells m) 31) :: (bc,iCells M) :: (b1,.cells lv 34) :: (b2,fCells (fun s=>(ph s:Int))) :: gx) ba ((X4.setCell ⟨br,0,none⟩ (.int .i64 0)).setCell ⟨br,1,none⟩ (.int .i64 0)) ans vs):=(hZ.out.putAt 1 rfl gR 0 (.int .i64 0)).putAt 1 rfl gR 1 (.int .i64 0)
       have hq9:∀ i,((X4.setCell ⟨br,0,none⟩ (.int .i64 0)).setCell ⟨br,1,none⟩ (.int .i64 0)).cell? ⟨bk,i,none⟩=X4.cell? ⟨bk,i,none⟩:=fun i=>World.cell?_of_block (w:=X4) (a:=⟨bk,i,none⟩) ((heap_setCell_ne _ _ hnR).trans (heap_setCell_ne _ _ hnR))
       replace q0:=(hq9 _).trans q0
       replace q1:=(hq9 _).trans q1
       replace q2:=(hq9 _).trans q2
       clear hq9 hnR
       clear hZ c_R f_R
       refine hKK.out _ _ ⟨(hZ2.out.at_ 2 rfl).cells 0,((hZ2.out.at_ 5 rfl).cells t).trans hlv,(hZ2.out.kA.cells t).trans hvt⟩ (fun hHeld=>?_)
       clear hKK K
       try dsimp only
       generalize World.setCell (World.setCell X4 _ _) _ _=Y2 at *
       have kO:=hZ2.out.at_ 0 rfl
       have c_O:=kO.cells
       have f_O:=fun i=>frozen_of_heap kO i
       clear kO
       refine wpAnyH_ready (rs:=[14]) (by kernel_rfl) (by simp) ?_
       refine AllReadyH.cons rfl (fun K hKK=>?_) (AllReadyH.nil)
       go_simp
       have hZ3:Hid (WMem w ((bu,.cells #[.bool false,.slice (some ⟨bk,0,none⟩) ((ans t).length+1) c3,.slice D3 m3 d3,.slice E3 n3 k3] 46) :: (br,.cells #[.int .i64 0,.int .i64 0] 39) :: (bt,.cells #[.int .i64 t] 3) :: (bo,.cells (obCells m) 31) :: (bc,iCells M) :: (b1,.cells lv 34) :: (b2,fCells (fun s=>(ph s:Int))) :: gx) ba ((((Y2.setCell ⟨bu,0,none⟩ (.bool false)).setCell ⟨bu,1,none⟩ (.slice (some ⟨bk,0,none⟩) ((ans t).length+1) c3)).setCell ⟨bu,2,none⟩ (.slice D3 m3 d3)).setCell ⟨bu,3,none⟩ (.slice E3 n3 k3)) ans vs):=(((hZ2.out.putAt 0 rfl gO 0 (.bool false)).putAt 0 rfl gO 1 (.slice (some ⟨bk,0,none⟩) ((ans t).length+1) c3)).putAt 0 rfl gO 2 (.slice D3 m3 d3)).putAt 0 rfl gO 3 (.slice E3 n3 k3)
       have hq9:∀ i,((((Y2.setCell ⟨bu,0,none⟩ (.bool false)).setCell ⟨bu,1,none⟩ (.slice (some ⟨bk,0,none⟩) ((ans t).length+1) c3)).setCell ⟨bu,2,none⟩ (.slice D3 m3 d3)).setCell ⟨bu,3,none⟩ (.slice E3 n3 k3)).cell? ⟨bk,i,none⟩=Y2.cell? ⟨bk,i,none⟩:=fun i=>World.cell?_of_block (w:=Y2) (a:=⟨bk,i,none⟩) ((heap_setCell_ne _ _ hnO).trans ((heap_setCell_ne _ _ hnO).trans ((heap_setCell_ne _ _ hnO).trans (heap_setCell_ne _ _ hnO))))
       replace q0:=(hq9 _).trans q0
       replace q1:=(hq9 _).trans q1
       replace q2:=(hq9 _).trans q2
       clear hq9 hnO
       clear hZ2 c_O f_O
       refine hKK.out _ _ ⟨(hZ3.out.at_ 2 rfl).cells 0,((hZ3.out.at_ 5 rfl).cells t).trans hlv,(hZ3.out.kA.cells t).trans hvt⟩ (fun hHeld=>?_)
       clear hKK K
       try dsimp only
       generalize World.setCell (World.setCell (World.setCell (World.setCell Y2 _ _) _ _) _ _) _ _=Y3 at *
       refine wpAnyH_done (by kernel_rfl) ?_ _
       go_simp
       go_wp2_with fail
       go_meet
       exact⟨br,bu,bk,c3,D3,m3,d3,E3,n3,k3,rfl,rfl,hZ3,q0,q1,q2⟩
     · go_simp
       have hMn3:=Lib.hid (hMn2.out.add ((Ext.refl w4).alloc (.cells #[.bool false,.slice none 0 0,.slice none 0 0,.slice none 0 0] 46)) (Blk.new w4 (.cells #[.bool false,.slice none 0 0,.slice none 0 0,.slice none 0 0] 46)) (Nat.le_refl _))
       have e3:=e2.alloc (.cells #[.bool false,.slice none 0 0,.slice none 0 0,.slice none 0 0] 46)
       replace q0:=(((Ext.refl w4).alloc (.cells #[.bool false,.slice none 0 0,.slice none 0 0,.slice none 0 0] 46)).cell (p:=⟨bk,_,none⟩) hbl).trans q0
       replace q1:=(((Ext.refl w4).alloc (.cells #[.bool false,.slice none 0 0,.slice none 0 0,.slice none 0 0] 46)).cell (p:=⟨bk,_,none⟩) hbl).trans q1
       replace q2:=(((Ext.refl w4).alloc (.cells #[.bool false,.slice none 0 0,.slice none 0 0,.slice none 0 0] 46)).cell (p:=⟨bk,_,none⟩) hbl).trans q2
       have hnO:bk≠w4.heap.size:=by omega
       replace hbl:bk<(w4.alloc (.cells #[.bool false,.slice none 0 0,.slice none 0 0,.slice none 0 0] 46)).heap.size:=by simp only [World.size_alloc];omega
       have gO:w.heap.size<=w4.heap.size:=hMn2.out.ext.size
       clear hMn2
       refine hKK.out _ _ (hS _ e3) (fun hHeld=>?_)
       clear hKK K
       try dsimp only
       generalize hb9:w4.heap.size=bu at *
       generalize World.alloc w4 _=X3 at *
       clear hb9 e2
       refine wpAnyH_ready (rs:=[11]) (by kernel_rfl) (by simp) ?_
       refine AllReadyH.cons rfl (fun K hKK=>?_) (AllReadyH.nil)
       go_simp
       have hMn4:=Lib.hid (hMn3.out.add ((Ext.refl X3).alloc (.cells #[.int .i64 0,.int .i64 0] 39)) (Blk.new X3 (.cells #[.int .i64 0,.int .i64 0] 39)) (Nat.le_refl _))
       have e4:=e3.alloc (.cells #[.int .i64 0,.int .i64 0] 39)
       replace q0:=(((Ext.refl X3).alloc (.cells #[.int .i64 0,.int .i64 0] 39)).cell (p:=⟨bk,_,none⟩) hbl).trans q0
       replace q1:=(((Ext.refl X3).alloc (.cells #[.int .i64 0,.int .i64 0] 39)).cell (p:=⟨bk,_,none⟩) hbl).trans q1
       replace q2:=(((Ext.refl X3).alloc (.cells #[.int .i64 0,.int .i64 0] 39)).cell (p:=⟨bk,_,none⟩) hbl).trans q2
       have hnR:bk≠X3.heap.size:=by omega
       replace hbl:bk<(X3.alloc (.cells #[.int .i64 0,.int .i64 0] 39)).heap.size:=by simp only [World.size_alloc];omega
       have gR:w.heap.size<=X3.heap.size:=hMn3.out.ext.size
       clear hMn3
       refine hKK.out _ _ (hS _ e4) (fun hHeld=>?_)
       clear hKK K
       try dsimp only
       generalize hb9:X3.heap.size=br at *
       generalize World.alloc X3 _=X4 at *
       clear hb9 e3
       have hZ:Hid (WMem w ((bu,.cells #[.bool false,.slice none 0 0,.slice none 0 0,.slice none 0 0] 46) :: (br,.cells #[.int .i64 0,.int .i64 0] 39) :: (bt,.cells #[.int .i64 t] 3) :: (bo,.cells (obCells m) 31) :: (bc,iCells M) :: (b1,.cells lv 34) :: (b2,fCells (fun s=>(ph s:Int))) :: gx) ba X4 ans vs):=hMn4.out.perm (List.Perm.swap _ _ _)
       clear hMn4 e4
       have kR:=hZ.out.at_ 1 rfl
       have c_R:=kR.cells
       have f_R:=fun i=>frozen_of_heap kR i
       clear kR
       refine wpAnyH_ready (rs:=[13]) (by kernel_rfl) (by simp) ?_
       refine AllReadyH.cons rfl (fun K hKK=>?_) (AllReadyH.nil)
       go_simp
       have hZ2:Hid (WMem w ((bu,.cells #[.bool false,.slice none 0 0,.slice none 0 0,.slice none 0 0] 46) :: (br,.cells #[.int .i64 0,.int .i64 0] 39) :: (bt,.cells #[.int .i64 t] 3) :: (bo,.cells (obCells m) 31) :: (bc,iCells M) :: (b1,.cells lv 34) :: (b2,fCells (fun s=>(ph s:Int))) :: gx) ba ((X4.setCell ⟨br,0,none⟩ (.int .i64 0)).setCell ⟨br,1,none⟩ (.int .i64 0)) ans vs):=(hZ.out.putAt 1 rfl gR 0 (.int .i64 0)).putAt 1 rfl gR 1 (.int .i64 0)
       have hq9:∀ i,((X4.setCell ⟨br,0,none⟩ (.int .i64 0)).setCell ⟨br,1,none⟩ (.int .i64 0)).cell? ⟨bk,i,none⟩=X4.cell? ⟨bk,i,none⟩:=fun i=>World.cell?_of_block (w:=X4) (a:=⟨bk,i,none⟩) ((heap_setCell_ne _ _ hnR).trans (heap_setCell_ne _ _ hnR))
       replace q0:=(hq9 _).trans q0
       replace q1:=(hq9 _).trans q1
       replace q2:=(hq9 _).trans q2
       clear hq9 hnR
       clear hZ c_R f_R
       refine hKK.out _ _ ⟨(hZ2.out.at_ 2 rfl).cells 0,((hZ2.out.at_ 5 rfl).cells t).trans hlv,(hZ2.out.kA.cells t).trans hvt⟩ (fun hHeld=>?_)
       clear hKK K
       try dsimp only
       generalize World.setCell (World.setCell X4 _ _) _ _=Y2 at *
       have kO:=hZ2.out.at_ 0 rfl
       have c_O:=kO.cells
       have f_O:=fun i=>frozen_of_heap kO i
       clear kO
       refine wpAnyH_ready (rs:=[14]) (by kernel_rfl) (by simp) ?_
       refine AllReadyH.cons rfl (fun K hKK=>?_) (AllReadyH.nil)
       go_simp
       have hZ3:Hid (WMem w ((bu,.cells #[.bool false,.slice (some ⟨bk,0,none⟩) ((ans t).length+1) c3,.slice D3 m3 d3,.slice E3 n3 k3] 46) :: (br,.cells #[.int .i64 0,.int .i64 0] 39) :: (bt,.cells #[.int .i64 t] 3) :: (bo,.cells (obCells m) 31) :: (bc,iCells M) :: (b1,.cells lv 34) :: (b2,fCells (fun s=>(ph s:Int))) :: gx) ba ((((Y2.setCell ⟨bu,0,none⟩ (.bool false)).setCell ⟨bu,1,none⟩ (.slice (some ⟨bk,0,none⟩) ((ans t).length+1) c3)).setCell ⟨bu,2,none⟩ (.slice D3 m3 d3)).setCell ⟨bu,3,none⟩ (.slice E3 n3 k3)) ans vs):=(((hZ2.out.putAt 0 rfl gO 0 (.bool false)).putAt 0 rfl gO 1 (.slice (some ⟨bk,0,none⟩) ((ans t).length+1) c3)).putAt 0 rfl gO 2 (.slice D3 m3 d3)).putAt 0 rfl gO 3 (.slice E3 n3 k3)
       have hq9:∀ i,((((Y2.setCell ⟨bu,0,none⟩ (.bool false)).setCell ⟨bu,1,none⟩ (.slice (some ⟨bk,0,none⟩) ((ans t).length+1) c3)).setCell ⟨bu,2,none⟩ (.slice D3 m3 d3)).setCell ⟨bu,3,none⟩ (.slice E3 n3 k3)).cell? ⟨bk,i,none⟩=Y2.cell? ⟨bk,i,none⟩:=fun i=>World.cell?_of_block (w:=Y2) (a:=⟨bk,i,none⟩) ((heap_setCell_ne _ _ hnO).trans ((heap_setCell_ne _ _ hnO).trans ((heap_setCell_ne _ _ hnO).trans (heap_setCell_ne _ _ hnO))))
       replace q0:=(hq9 _).trans q0
       replace q1:=(hq9 _).trans q1
       replace q2:=(hq9 _).trans q2
       clear hq9 hnO
       clear hZ2 c_O f_O
       refine hKK.out _ _ ⟨(hZ3.out.at_ 2 rfl).cells 0,((hZ3.out.at_ 5 rfl).cells t).trans hlv,(hZ3.out.kA.cells t).trans hvt⟩ (fun hHeld=>?_)
       clear hKK K
       try dsimp only
       generalize World.setCell (World.setCell (World.setCell (World.setCell Y2 _ _) _ _) _ _) _ _=Y3 at *
       refine wpAnyH_done (by kernel_rfl) ?_ _
       go_simp
       go_wp2_with fail
       go_meet
       exact⟨br,bu,bk,c3,D3,m3,d3,E3,n3,k3,rfl,rfl,hZ3,q0,q1,q2⟩
   · go_simp
     have hMn2:=Lib.hid (hMn1.out.add ((Ext.refl Wd).alloc (.cells #[.int .i64 0,.int .i64 0] 39)) (Blk.new Wd (.cells #[.int .i64 0,.int .i64 0] 39)) (Nat.le_refl _))
     have e2:=e1.alloc (.cells #[.int .i64 0,.int .i64 0] 39)
     have gR:w.heap.size<=Wd.heap.size:=hMn1.out.ext.size
     clear hMn1
     refine hKK.out _ _ (hS _ e2) (fun hHeld=>?_)
     clear hKK K
     try dsimp only
     generalize hb9:Wd.heap.size=br at *
     generalize World.alloc Wd _=X2 at *
     clear hb9 e1
     refine wpAnyH_ready (rs:=[7,12]) (by kernel_rfl) (by simp) ?_
     refine AllReadyH.cons rfl (fun K hKK=>?_) (AllReadyH.cons rfl (fun K hKK=>?_) (AllReadyH.nil))
     · go_simp
       refine (hPl _ e2).mono ?_
       rintro e w4 ⟨bk,c3,D3,m3,d3,E3,n3,k3,rfl,hx4,hbk,hbl,q0,q1,q2⟩
       have hMn3:=Lib.hid (hMn2.out.keep hx4)
       have e3:=e2.trans hx4
       have hnR:bk≠br:=by have h:=hMn2.out.lt (b:=br) (by simp);omega
       clear hx4 hbk hMn2 e2 hPl
       refine hKK.out _ _ (hS _ e3) (fun hHeld=>?_)
       clear hKK K
       try dsimp only
       refine tkb 8 ?_
       iterate 3
        refine tkn (v:=?_) rfl (by kernel_rfl) (fun _ _ _ h=>h) (by assumption) ?_ ?_
        rotate_left
        · (intro w hSw;(try dsimp only at hSw);go_simp;try with_reducible rfl)
        try simp only [put_pack]
       refine tke ?_
       refine wpAnyH_ready (rs:=[12]) (by kernel_rfl) (by simp) ?_
       refine AllReadyH.cons rfl (fun K hKK=>?_) (AllReadyH.nil)
       go_simp
       have hMn4:=Lib.hid (hMn3.out.add ((Ext.refl w4).alloc (.cells #[.bool false,.slice none 0 0,.slice none 0 0,.slice none 0 0] 46)) (Blk.new w4 (.cells #[.bool false,.slice none 0 0,.slice none 0 0,.slice none 0 0] 46)) (Nat.le_refl _))
       have e4:=e3.alloc (.cells #[.bool false,.slice none 0 0,.slice none 0 0,.slice none 0 0] 46)
       replace q0:=(((Ext.refl w4).alloc (.cells #[.bool false,.slice none 0 0,.slice none 0 0,.slice none 0 0] 46)).cell (p:=⟨bk,_,none⟩) hbl).trans q0
       replace q1:=(((Ext.refl w4).alloc (.cells #[.bool false,.slice none 0 0,.slice none 0 0,.slice none 0 0] 46)).cell (p:=⟨bk,_,none⟩) hbl).trans q1
       replace q2:=(((Ext.refl w4).alloc (.cells #[.bool false,.slice none 0 0,.slice none 0 0,.slice none 0 0] 46)).cell (p:=⟨bk,_,none⟩) hbl).trans q2
       have hnO:bk≠w4.heap.size:=by omega
       replace hbl:bk<(w4.alloc (.cells #[.bool false,.slice none 0 0,.slice none 0 0,.slice none 0 0] 46)).heap.size:=by simp only [World.size_alloc];omega
       have gO:w.heap.size<=w4.heap.size:=hMn3.out.ext.size
       clear hMn3
       refine hKK.out _ _ (hS _ e4) (fun hHeld=>?_)
       clear hKK K
       try dsimp only
       generalize hb9:w4.heap.size=bu at *
       generalize World.alloc w4 _=X4 at *
       clear hb9 e3
       have hZ:Hid (WMem w ((bu,.cells #[.bool false,.slice none 0 0,.slice none 0 0,.slice none 0 0] 46) :: (br,.cells #[.int .i64 0,.int .i64 0] 39) :: (bt,.cells #[.int .i64 t] 3) :: (bo,.cells (obCells m) 31) :: (bc,iCells M) :: (b1,.cells lv 34) :: (b2,fCells (fun s=>(ph s:Int))) :: gx) ba X4 ans vs):=hMn4
       clear hMn4 e4
       have kR:=hZ.out.at_ 1 rfl
       have c_R:=kR.cells
       have f_R:=fun i=>frozen_of_heap kR i
       clear kR
       refine wpAnyH_ready (rs:=[13]) (by kernel_rfl) (by simp) ?_
       refine AllReadyH.cons rfl (fun K hKK=>?_) (AllReadyH.nil)
       go_simp
       have hZ2:Hid (WMem w ((bu,.cells #[.bool false,.slice none 0 0,.slice none 0 0,.slice none 0 0] 46) :: (br,.cells #[.int .i64 0,.int .i64 0] 39) :: (bt,.cells #[.int .i64 t] 3) :: (bo,.cells (obCells m) 31) :: (bc,iCells M) :: (b1,.cells lv 34) :: (b2,fCells (fun s=>(ph s:Int))) :: gx) ba ((X4.setCell ⟨br,0,none⟩ (.int .i64 0)).setCell ⟨br,1,none⟩ (.int .i64 0)) ans vs):=(hZ.out.putAt 1 rfl gR 0 (.int .i64 0)).putAt 1 rfl gR 1 (.int .i64 0)
       have hq9:∀ i,((X4.setCell ⟨br,0,none⟩ (.int .i64 0)).setCell ⟨br,1,none⟩ (.int .i64 0)).cell? ⟨bk,i,none⟩=X4.cell? ⟨bk,i,none⟩:=fun i=>World.cell?_of_block (w:=X4) (a:=⟨bk,i,none⟩) ((heap_setCell_ne _ _ hnR).trans (heap_setCell_ne _ _ hnR))
       replace q0:=(hq9 _).trans q0
       replace q1:=(hq9 _).trans q1
       replace q2:=(hq9 _).trans q2
       clear hq9 hnR
       clear hZ c_R f_R
       refine hKK.out _ _ ⟨(hZ2.out.at_ 2 rfl).cells 0,((hZ2.out.at_ 5 rfl).cells t).trans hlv,(hZ2.out.kA.cells t).trans hvt⟩ (fun hHeld=>?_)
       clear hKK K
       try dsimp only
       generalize World.setCell (World.setCell X4 _ _) _ _=Y2 at *
       have kO:=hZ2.out.at_ 0 rfl
       have c_O:=kO.cells
       have f_O:=fun i=>frozen_of_heap kO i
       clear kO
       refine wpAnyH_ready (rs:=[14]) (by kernel_rfl) (by simp) ?_
       refine AllReadyH.cons rfl (fun K hKK=>?_) (AllReadyH.nil)
       go_simp
       have hZ3:Hid (WMem w ((bu,.cells #[.bool false,.slice (some ⟨bk,0,none⟩) ((ans t).length+1) c3,.slice D3 m3 d3,.slice E3 n3 k3] 46) :: (br,.cells #[.int .i64 0,.int .i64 0] 39) :: (bt,.cells #[.int .i64 t] 3) :: (bo,.cells (obCells m) 31) :: (bc,iCells M) :: (b1,.cells lv 34) :: (b2,fCells (fun s=>(ph s:Int))) :: gx) ba ((((Y2.setCell ⟨bu,0,none⟩ (.bool false)).setCell ⟨bu,1,none⟩ (.slice (some ⟨bk,0,none⟩) ((ans t).length+1) c3)).setCell ⟨bu,2,none⟩ (.slice D3 m3 d3)).setCell ⟨bu,3,none⟩ (.slice E3 n3 k3)) ans vs):=(((hZ2.out.putAt 0 rfl gO 0 (.bool false)).putAt 0 rfl gO 1 (.slice (some ⟨bk,0,none⟩) ((ans t).length+1) c3)).putAt 0 rfl gO 2 (.slice D3 m3 d3)).putAt 0 rfl gO 3 (.slice E3 n3 k3)
       have hq9:∀ i,((((Y2.setCell ⟨bu,0,none⟩ (.bool false)).setCell ⟨bu,1,none⟩ (.slice (some ⟨bk,0,none⟩) ((ans t).length+1) c3)).setCell ⟨bu,2,none⟩ (.slice D3 m3 d3)).setCell ⟨bu,3,none⟩ (.slice E3 n3 k3)).cell? ⟨bk,i,none⟩=Y2.cell? ⟨bk,i,none⟩:=fun i=>World.cell?_of_block (w:=Y2) (a:=⟨bk,i,none⟩) ((heap_setCell_ne _ _ hnO).trans ((heap_setCell_ne _ _ hnO).trans ((heap_setCell_ne _ _ hnO).trans (heap_setCell_ne _ _ hnO))))
       replace q0:=(hq9 _).trans q0
       replace q1:=(hq9 _).trans q1
       replace q2:=(hq9 _).trans q2
       clear hq9 hnO
       clear hZ2 c_O f_O
       refine hKK.out _ _ ⟨(hZ3.out.at_ 2 rfl).cells 0,((hZ3.out.at_ 5 rfl).cells t).trans hlv,(hZ3.out.kA.cells t).trans hvt⟩ (fun hHeld=>?_)
       clear hKK K
       try dsimp only
       generalize World.setCell (World.setCell (World.setCell (World.setCell Y2 _ _) _ _) _ _) _ _=Y3 at *
       refine wpAnyH_done (by kernel_rfl) ?_ _
       go_simp
       go_wp2_with fail
       go_meet
       exact⟨br,bu,bk,c3,D3,m3,d3,E3,n3,k3,rfl,rfl,hZ3,q0,q1,q2⟩
     · go_simp
       have hMn3:=Lib.hid (hMn2.out.add ((Ext.refl X2).alloc (.cells #[.bool false,.slice none 0 0,.slice none 0 0,.slice none 0 0] 46)) (Blk.new X2 (.cells #[.bool false,.slice none 0 0,.slice none 0 0,.slice none 0 0] 46)) (Nat.le_refl _))
       have e3:=e2.alloc (.cells #[.bool false,.slice none 0 0,.slice none 0 0,.slice none 0 0] 46)
       have gO:w.heap.size<=X2.heap.size:=hMn2.out.ext.size
       clear hMn2
       refine hKK.out _ _ (hS _ e3) (fun hHeld=>?_)
       clear hKK K
       try dsimp only
       generalize hb9:X2.heap.size=bu at *
       generalize World.alloc X2 _=X3 at *
       clear hb9 e2
       refine wpAnyH_ready (rs:=[7]) (by kernel_rfl) (by simp) ?_
       refine AllReadyH.cons rfl (fun K hKK=>?_) (AllReadyH.nil)
       go_simp
       refine (hPl _ e3).mono ?_
       rintro e w4 ⟨bk,c3,D3,m3,d3,E3,n3,k3,rfl,hx4,hbk,hbl,q0,q1,q2⟩
       have hMn4:=Lib.hid (hMn3.out.keep hx4)
       have e4:=e3.trans hx4
       have hnR:bk≠br:=by have h:=hMn3.out.lt (b:=br) (by simp);omega
       have hnO:bk≠bu:=by have h:=hMn3.out.lt (b:=bu) (by simp);omega
       clear hx4 hbk hMn3 e3 hPl
       refine hKK.out _ _ (hS _ e4) (fun hHeld=>?_)
       clear hKK K
       try dsimp only
       refine tkb 8 ?_
       iterate 3
        refine tkn (v:=?_) rfl (by kernel_rfl) (fun _ _ _ h=>h) (by assumption) ?_ ?_
        rotate_left
        · (intro w hSw;(try dsimp only at hSw);go_simp;try with_reducible rfl)
        try simp only [put_pack]
       refine tke ?_
       have hZ:Hid (WMem w ((bu,.cells #[.bool false,.slice none 0 0,.slice none 0 0,.slice none 0 0] 46) :: (br,.cells #[.int .i64 0,.int .i64 0] 39) :: (bt,.cells #[.int .i64 t] 3) :: (bo,.cells (obCells m) 31) :: (bc,iCells M) :: (b1,.cells lv 34) :: (b2,fCells (fun s=>(ph s:Int))) :: gx) ba w4 ans vs):=hMn4
       clear hMn4 e4
       have kR:=hZ.out.at_ 1 rfl
       have c_R:=kR.cells
       have f_R:=fun i=>frozen_of_heap kR i
       clear kR
       refine wpAnyH_ready (rs:=[13]) (by kernel_rfl) (by simp) ?_
       refine AllReadyH.cons rfl (fun K hKK=>?_) (AllReadyH.nil)
       go_simp
       have hZ2:Hid (WMem w ((bu,.cells #[.bool false,.slice none 0 0,.slice none 0 0,.slice none 0 0] 46) :: (br,.cells #[.int .i64 0,.int .i64 0] 39) :: (bt,.cells #[.int .i64 t] 3) :: (bo,.cells (obCells m) 31) :: (bc,iCells M) :: (b1,.cells lv 34) :: (b2,fCells (fun s=>(ph s:Int))) :: gx) ba ((w4.setCell ⟨br,0,none⟩ (.int .i64 0)).setCell ⟨br,1,none⟩ (.int .i64 0)) ans vs):=(hZ.out.putAt 1 rfl gR 0 (.int .i64 0)).putAt 1 rfl gR 1 (.int .i64 0)
       have hq9:∀ i,((w4.setCell ⟨br,0,none⟩ (.int .i64 0)).setCell ⟨br,1,none⟩ (.int .i64 0)).cell? ⟨bk,i,none⟩=w4.cell? ⟨bk,i,none⟩:=fun i=>World.cell?_of_block (w:=w4) (a:=⟨bk,i,none⟩) ((heap_setCell_ne _ _ hnR).trans (heap_setCell_ne _ _ hnR))
       replace q0:=(hq9 _).trans q0
       replace q1:=(hq9 _).trans q1
       replace q2:=(hq9 _).trans q2
       clear hq9 hnR
       clear hZ c_R f_R
       refine hKK.out _ _ ⟨(hZ2.out.at_ 2 rfl).cells 0,((hZ2.out.at_ 5 rfl).cells t).trans hlv,(hZ2.out.kA.cells t).trans hvt⟩ (fun hHeld=>?_)
       clear hKK K
       try dsimp only
       generalize World.setCell (World.setCell w4 _ _) _ _=Y2 at *
       have kO:=hZ2.out.at_ 0 rfl
       have c_O:=kO.cells
       have f_O:=fun i=>frozen_of_heap kO i
       clear kO
       refine wpAnyH_ready (rs:=[14]) (by kernel_rfl) (by simp) ?_
       refine AllReadyH.cons rfl (fun K hKK=>?_) (AllReadyH.nil)
       go_simp
       have hZ3:Hid (WMem w ((bu,.cells #[.bool false,.slice (some ⟨bk,0,none⟩) ((ans t).length+1) c3,.slice D3 m3 d3,.slice E3 n3 k3] 46) :: (br,.cells #[.int .i64 0,.int .i64 0] 39) :: (bt,.cells #[.int .i64 t] 3) :: (bo,.cells (obCells m) 31) :: (bc,iCells M) :: (b1,.cells lv 34) :: (b2,fCells (fun s=>(ph s:Int))) :: gx) ba ((((Y2.setCell ⟨bu,0,none⟩ (.bool false)).setCell ⟨bu,1,none⟩ (.slice (some ⟨bk,0,none⟩) ((ans t).length+1) c3)).setCell ⟨bu,2,none⟩ (.slice D3 m3 d3)).setCell ⟨bu,3,none⟩ (.slice E3 n3 k3)) ans vs):=(((hZ2.out.putAt 0 rfl gO 0 (.bool false)).putAt 0 rfl gO 1 (.slice (some ⟨bk,0,none⟩) ((ans t).length+1) c3)).putAt 0 rfl gO 2 (.slice D3 m3 d3)).putAt 0 rfl gO 3 (.slice E3 n3 k3)
       have hq9:∀ i,((((Y2.setCell ⟨bu,0,none⟩ (.bool false)).setCell ⟨bu,1,none⟩ (.slice (some ⟨bk,0,none⟩) ((ans t).length+1) c3)).setCell ⟨bu,2,none⟩ (.slice D3 m3 d3)).setCell ⟨bu,3,none⟩ (.slice E3 n3 k3)).cell? ⟨bk,i,none⟩=Y2.cell? ⟨bk,i,none⟩:=fun i=>World.cell?_of_block (w:=Y2) (a:=⟨bk,i,none⟩) ((heap_setCell_ne _ _ hnO).trans ((heap_setCell_ne _ _ hnO).trans ((heap_setCell_ne _ _ hnO).trans (heap_setCell_ne _ _ hnO))))
       replace q0:=(hq9 _).trans q0
       replace q1:=(hq9 _).trans q1
       replace q2:=(hq9 _).trans q2
       clear hq9 hnO
       clear hZ2 c_O f_O
       refine hKK.out _ _ ⟨(hZ3.out.at_ 2 rfl).cells 0,((hZ3.out.at_ 5 rfl).cells t).trans hlv,(hZ3.out.kA.cells t).trans hvt⟩ (fun hHeld=>?_)
       clear hKK K
       try dsimp only
       generalize World.setCell (World.setCell (World.setCell (World.setCell Y2 _ _) _ _) _ _) _ _=Y3 at *
       refine wpAnyH_done (by kernel_rfl) ?_ _
       go_simp
       go_wp2_with fail
       go_meet
       exact⟨br,bu,bk,c3,D3,m3,d3,E3,n3,k3,rfl,rfl,hZ3,q0,q1,q2⟩
   · go_simp
     have hMn2:=Lib.hid (hMn1.out.add ((Ext.refl Wd).alloc (.cells #[.bool false,.slice none 0 0,.slice none 0 0,.slice none 0 0] 46)) (Blk.new Wd (.cells #[.bool false,.slice none 0 0,.slice none 0 0,.slice none 0 0] 46)) (Nat.le_refl _))
     have e2:=e1.alloc (.cells #[.bool false,.slice none 0 0,.slice none 0 0,.slice none 0 0] 46)
     have gO:w.heap.size<=Wd.heap.size:=hMn1.out.ext.size
     clear hMn1
     refine hKK.out _ _ (hS _ e2) (fun hHeld=>?_)
     clear hKK K
     try dsimp only
     generalize hb9:Wd.heap.size=bu at *
     generalize World.alloc Wd _=X2 at *
     clear hb9 e1
     refine wpAnyH_ready (rs:=[7,11]) (by kernel_rfl) (by simp) ?_
     refine AllReadyH.cons rfl (fun K hKK=>?_) (AllReadyH.cons rfl (fun K hKK=>?_) (AllReadyH.nil))
     · go_simp
       refine (hPl _ e2).mono ?_
       rintro e w4 ⟨bk,c3,D3,m3,d3,E3,n3,k3,rfl,hx4,hbk,hbl,q0,q1,q2⟩
       have hMn3:=Lib.hid (hMn2.out.keep hx4)
       have e3:=e2.trans hx4
       have hnO:bk≠bu:=by have h:=hMn2.out.lt (b:=bu) (by simp);omega
       clear hx4 hbk hMn2 e2 hPl
       refine hKK.out _ _ (hS _ e3) (fun hHeld=>?_)
       clear hKK K
       try dsimp only
       refine tkb 8 ?_
       iterate 3
        refine tkn (v:=?_) rfl (by kernel_rfl) (fun _ _ _ h=>h) (by assumption) ?_ ?_
        rotate_left
        · (intro w hSw;(try dsimp only at hSw);go_simp;try with_reducible rfl)
        try simp only [put_pack]
       refine tke ?_
       refine wpAnyH_ready (rs:=[11]) (by kernel_rfl) (by simp) ?_
       refine AllReadyH.cons rfl (fun K hKK=>?_) (AllReadyH.nil)
       go_simp
       have hMn4:=Lib.hid (hMn3.out.add ((Ext.refl w4).alloc (.cells #[.int .i64 0,.int .i64 0] 39)) (Blk.new w4 (.cells #[.int .i64 0,.int .i64 0] 39)) (Nat.le_refl _))
       have e4:=e3.alloc (.cells #[.int .i64 0,.int .i64 0] 39)
       replace q0:=(((Ext.refl w4).alloc (.cells #[.int .i64 0,.int .i64 0] 39)).cell (p:=⟨bk,_,none⟩) hbl).trans q0
       replace q1:=(((Ext.refl w4).alloc (.cells #[.int .i64 0,.int .i64 0] 39)).cell (p:=⟨bk,_,none⟩) hbl).trans q1
       replace q2:=(((Ext.refl w4).alloc (.cells #[.int .i64 0,.int .i64 0] 39)).cell (p:=⟨bk,_,none⟩) hbl).trans q2
       have hnR:bk≠w4.heap.size:=by omega
       replace hbl:bk<(w4.alloc (.cells #[.int .i64 0,.int .i64 0] 39)).heap.size:=by simp only [World.size_alloc];omega
       have gR:w.heap.size<=w4.heap.size:=hMn3.out.ext.size
       clear hMn3
       refine hKK.out _ _ (hS _ e4) (fun hHeld=>?_)
       clear hKK K
       try dsimp only
       generalize hb9:w4.heap.size=br at *
       generalize World.alloc w4 _=X4 at *
       clear hb9 e3
       have hZ:Hid (WMem w ((bu,.cells #[.bool false,.slice none 0 0,.slice none 0 0,.slice none 0 0] 46) :: (br,.cells #[.int .i64 0,.int .i64 0] 39) :: (bt,.cells #[.int .i64 t] 3) :: (bo,.cells (obCells m) 31) :: (bc,iCells M) :: (b1,.cells lv 34) :: (b2,fCells (fun s=>(ph s:Int))) :: gx) ba X4 ans vs):=hMn4.out.perm (List.Perm.swap _ _ _)
       clear hMn4 e4
       have kR:=hZ.out.at_ 1 rfl
       have c_R:=kR.cells
       have f_R:=fun i=>frozen_of_heap kR i
       clear kR
       refine wpAnyH_ready (rs:=[13]) (by kernel_rfl) (by simp) ?_
       refine AllReadyH.cons rfl (fun K hKK=>?_) (AllReadyH.nil)
       go_simp
       have hZ2:Hid (WMem w ((bu,.cells #[.bool false,.slice none 0 0,.slice none 0 0,.slice none 0 0] 46) :: (br,.cells #[.int .i64 0,.int .i64 0] 39) :: (bt,.cells #[.int .i64 t] 3) :: (bo,.cells (obCells m) 31) :: (bc,iCells M) :: (b1,.cells lv 34) :: (b2,fCells (fun s=>(ph s:Int))) :: gx) ba ((X4.setCell ⟨br,0,none⟩ (.int .i64 0)).setCell ⟨br,1,none⟩ (.int .i64 0)) ans vs):=(hZ.out.putAt 1 rfl gR 0 (.int .i64 0)).putAt 1 rfl gR 1 (.int .i64 0)
       have hq9:∀ i,((X4.setCell ⟨br,0,none⟩ (.int .i64 0)).setCell ⟨br,1,none⟩ (.int .i64 0)).cell? ⟨bk,i,none⟩=X4.cell? ⟨bk,i,none⟩:=fun i=>World.cell?_of_block (w:=X4) (a:=⟨bk,i,none⟩) ((heap_setCell_ne _ _ hnR).trans (heap_setCell_ne _ _ hnR))
       replace q0:=(hq9 _).trans q0
       replace q1:=(hq9 _).trans q1
       replace q2:=(hq9 _).trans q2
       clear hq9 hnR
       clear hZ c_R f_R
       refine hKK.out _ _ ⟨(hZ2.out.at_ 2 rfl).cells 0,((hZ2.out.at_ 5 rfl).cells t).trans hlv,(hZ2.out.kA.cells t).trans hvt⟩ (fun hHeld=>?_)
       clear hKK K
       try dsimp only
       generalize World.setCell (World.setCell X4 _ _) _ _=Y2 at *
       have kO:=hZ2.out.at_ 0 rfl
       have c_O:=kO.cells
       have f_O:=fun i=>frozen_of_heap kO i
       clear kO
       refine wpAnyH_ready (rs:=[14]) (by kernel_rfl) (by simp) ?_
       refine AllReadyH.cons rfl (fun K hKK=>?_) (AllReadyH.nil)
       go_simp
       have hZ3:Hid (WMem w ((bu,.cells #[.bool false,.slice (some ⟨bk,0,none⟩) ((ans t).length+1) c3,.slice D3 m3 d3,.slice E3 n3 k3] 46) :: (br,.cells #[.int .i64 0,.int .i64 0] 39) :: (bt,.cells #[.int .i64 t] 3) :: (bo,.cells (obCells m) 31) :: (bc,iCells M) :: (b1,.cells lv 34) :: (b2,fCells (fun s=>(ph s:Int))) :: gx) ba ((((Y2.setCell ⟨bu,0,none⟩ (.bool false)).setCell ⟨bu,1,none⟩ (.slice (some ⟨bk,0,none⟩) ((ans t).length+1) c3)).setCell ⟨bu,2,none⟩ (.slice D3 m3 d3)).setCell ⟨bu,3,none⟩ (.slice E3 n3 k3)) ans vs):=(((hZ2.out.putAt 0 rfl gO 0 (.bool false)).putAt 0 rfl gO 1 (.slice (some ⟨bk,0,none⟩) ((ans t).length+1) c3)).putAt 0 rfl gO 2 (.slice D3 m3 d3)).putAt 0 rfl gO 3 (.slice E3 n3 k3)
       have hq9:∀ i,((((Y2.setCell ⟨bu,0,none⟩ (.bool false)).setCell ⟨bu,1,none⟩ (.slice (some ⟨bk,0,none⟩) ((ans t).length+1) c3)).setCell ⟨bu,2,none⟩ (.slice D3 m3 d3)).setCell ⟨bu,3,none⟩ (.slice E3 n3 k3)).cell? ⟨bk,i,none⟩=Y2.cell? ⟨bk,i,none⟩:=fun i=>World.cell?_of_block (w:=Y2) (a:=⟨bk,i,none⟩) ((heap_setCell_ne _ _ hnO).trans ((heap_setCell_ne _ _ hnO).trans ((heap_setCell_ne _ _ hnO).trans (heap_setCell_ne _ _ hnO))))
       replace q0:=(hq9 _).trans q0
       replace q1:=(hq9 _).trans q1
       replace q2:=(hq9 _).trans q2
       clear hq9 hnO
       clear hZ2 c_O f_O
       refine hKK.out _ _ ⟨(hZ3.out.at_ 2 rfl).cells 0,((hZ3.out.at_ 5 rfl).cells t).trans hlv,(hZ3.out.kA.cells t).trans hvt⟩ (fun hHeld=>?_)
       clear hKK K
       try dsimp only
       generalize World.setCell (World.setCell (World.setCell (World.setCell Y2 _ _) _ _) _ _) _ _=Y3 at *
       refine wpAnyH_done (by kernel_rfl) ?_ _
       go_simp
       go_wp2_with fail
       go_meet
       exact⟨br,bu,bk,c3,D3,m3,d3,E3,n3,k3,rfl,rfl,hZ3,q0,q1,q2⟩
     · go_simp
       have hMn3:=Lib.hid (hMn2.out.add ((Ext.refl X2).alloc (.cells #[.int .i64 0,.int .i64 0] 39)) (Blk.new X2 (.cells #[.int .i64 0,.int .i64 0] 39)) (Nat.le_refl _))
       have e3:=e2.alloc (.cells #[.int .i64 0,.int .i64 0] 39)
       have gR:w.heap.size<=X2.heap.size:=hMn2.out.ext.size
       clear hMn2
       refine hKK.out _ _ (hS _ e3) (fun hHeld=>?_)
       clear hKK K
       try dsimp only
       generalize hb9:X2.heap.size=br at *
       generalize World.alloc X2 _=X3 at *
       clear hb9 e2
       refine wpAnyH_ready (rs:=[7]) (by kernel_rfl) (by simp) ?_
       refine AllReadyH.cons rfl (fun K hKK=>?_) (AllReadyH.nil)
       go_simp
       refine (hPl _ e3).mono ?_
       rintro e w4 ⟨bk,c3,D3,m3,d3,E3,n3,k3,rfl,hx4,hbk,hbl,q0,q1,q2⟩
       have hMn4:=Lib.hid (hMn3.out.keep hx4)
       have e4:=e3.trans hx4
       have hnR:bk≠br:=by have h:=hMn3.out.lt (b:=br) (by simp);omega
       have hnO:bk≠bu:=by have h:=hMn3.out.lt (b:=bu) (by simp);omega
       clear hx4 hbk hMn3 e3 hPl
       refine hKK.out _ _ (hS _ e4) (fun hHeld=>?_)
       clear hKK K
       try dsimp only
       refine tkb 8 ?_
       iterate 3
        refine tkn (v:=?_) rfl (by kernel_rfl) (fun _ _ _ h=>h) (by assumption) ?_ ?_
        rotate_left
        · (intro w hSw;(try dsimp only at hSw);go_simp;try with_reducible rfl)
        try simp only [put_pack]
       refine tke ?_
       have hZ:Hid (WMem w ((bu,.cells #[.bool false,.slice none 0 0,.slice none 0 0,.slice none 0 0] 46) :: (br,.cells #[.int .i64 0,.int .i64 0] 39) :: (bt,.cells #[.int .i64 t] 3) :: (bo,.cells (obCells m) 31) :: (bc,iCells M) :: (b1,.cells lv 34) :: (b2,fCells (fun s=>(ph s:Int))) :: gx) ba w4 ans vs):=hMn4.out.perm (List.Perm.swap _ _ _)
       clear hMn4 e4
       have kR:=hZ.out.at_ 1 rfl
       have c_R:=kR.cells
       have f_R:=fun i=>frozen_of_heap kR i
       clear kR
       refine wpAnyH_ready (rs:=[13]) (by kernel_rfl) (by simp) ?_
       refine AllReadyH.cons rfl (fun K hKK=>?_) (AllReadyH.nil)
       go_simp
       have hZ2:Hid (WMem w ((bu,.cells #[.bool false,.slice none 0 0,.slice none 0 0,.slice none 0 0] 46) :: (br,.cells #[.int .i64 0,.int .i64 0] 39) :: (bt,.cells #[.int .i64 t] 3) :: (bo,.cells (obCells m) 31) :: (bc,iCells M) :: (b1,.cells lv 34) :: (b2,fCells (fun s=>(ph s:Int))) :: gx) ba ((w4.setCell ⟨br,0,none⟩ (.int .i64 0)).setCell ⟨br,1,none⟩ (.int .i64 0)) ans vs):=(hZ.out.putAt 1 rfl gR 0 (.int .i64 0)).putAt 1 rfl gR 1 (.int .i64 0)
       have hq9:∀ i,((w4.setCell ⟨br,0,none⟩ (.int .i64 0)).setCell ⟨br,1,none⟩ (.int .i64 0)).cell? ⟨bk,i,none⟩=w4.cell? ⟨bk,i,none⟩:=fun i=>World.cell?_of_block (w:=w4) (a:=⟨bk,i,none⟩) ((heap_setCell_ne _ _ hnR).trans (heap_setCell_ne _ _ hnR))
       replace q0:=(hq9 _).trans q0
       replace q1:=(hq9 _).trans q1
       replace q2:=(hq9 _).trans q2
       clear hq9 hnR
       clear hZ c_R f_R
       refine hKK.out _ _ ⟨(hZ2.out.at_ 2 rfl).cells 0,((hZ2.out.at_ 5 rfl).cells t).trans hlv,(hZ2.out.kA.cells t).trans hvt⟩ (fun hHeld=>?_)
       clear hKK K
       try dsimp only
       generalize World.setCell (World.setCell w4 _ _) _ _=Y2 at *
       have kO:=hZ2.out.at_ 0 rfl
       have c_O:=kO.cells
       have f_O:=fun i=>frozen_of_heap kO i
       clear kO
       refine wpAnyH_ready (rs:=[14]) (by kernel_rfl) (by simp) ?_
       refine AllReadyH.cons rfl (fun K hKK=>?_) (AllReadyH.nil)
       go_simp
       have hZ3:Hid (WMem w ((bu,.cells #[.bool false,.slice (some ⟨bk,0,none⟩) ((ans t).length+1) c3,.slice D3 m3 d3,.slice E3 n3 k3] 46) :: (br,.cells #[.int .i64 0,.int .i64 0] 39) :: (bt,.cells #[.int .i64 t] 3) :: (bo,.cells (obCells m) 31) :: (bc,iCells M) :: (b1,.cells lv 34) :: (b2,fCells (fun s=>(ph s:Int))) :: gx) ba ((((Y2.setCell ⟨bu,0,none⟩ (.bool false)).setCell ⟨bu,1,none⟩ (.slice (some ⟨bk,0,none⟩) ((ans t).length+1) c3)).setCell ⟨bu,2,none⟩ (.slice D3 m3 d3)).setCell ⟨bu,3,none⟩ (.slice E3 n3 k3)) ans vs):=(((hZ2.out.putAt 0 rfl gO 0 (.bool false)).putAt 0 rfl gO 1 (.slice (some ⟨bk,0,none⟩) ((ans t).length+1) c3)).putAt 0 rfl gO 2 (.slice D3 m3 d3)).putAt 0 rfl gO 3 (.slice E3 n3 k3)
       have hq9:∀ i,((((Y2.setCell ⟨bu,0,none⟩ (.bool false)).setCell ⟨bu,1,none⟩ (.slice (some ⟨bk,0,none⟩) ((ans t).length+1) c3)).setCell ⟨bu,2,none⟩ (.slice D3 m3 d3)).setCell ⟨bu,3,none⟩ (.slice E3 n3 k3)).cell? ⟨bk,i,none⟩=Y2.cell? ⟨bk,i,none⟩:=fun i=>World.cell?_of_block (w:=Y2) (a:=⟨bk,i,none⟩) ((heap_setCell_ne _ _ hnO).trans ((heap_setCell_ne _ _ hnO).trans ((heap_setCell_ne _ _ hnO).trans (heap_setCell_ne _ _ hnO))))
       replace q0:=(hq9 _).trans q0
       replace q1:=(hq9 _).trans q1
       replace q2:=(hq9 _).trans q2
       clear hq9 hnO
       clear hZ2 c_O f_O
       refine hKK.out _ _ ⟨(hZ3.out.at_ 2 rfl).cells 0,((hZ3.out.at_ 5 rfl).cells t).trans hlv,(hZ3.out.kA.cells t).trans hvt⟩ (fun hHeld=>?_)
       clear hKK K
       try dsimp only
       generalize World.setCell (World.setCell (World.setCell (World.setCell Y2 _ _) _ _) _ _) _ _=Y3 at *
       refine wpAnyH_done (by kernel_rfl) ?_ _
       go_simp
       go_wp2_with fail
       go_meet
       exact⟨br,bu,bk,c3,D3,m3,d3,E3,n3,k3,rfl,rfl,hZ3,q0,q1,q2⟩
   -- dev]
  case rest =>
  obtain⟨br,bu,bk,c3,D3,m3,d3,E3,n3,k3,rfl,rfl,hM2,q0,q1,q2⟩:=hcut
  clear hM1 hPl hS
  have c_O:=(hM2.out.at_ 0 rfl).cells
  have hz:(((ans t).length:Int)+1==0)=false:=by rw [beq_eq_false_iff_ne];omega
  have hz2:decide ((((ans t).length:Int)+1)-1<(((ans t).length:Int)+1))=true:=by rw [decide_eq_true_eq];omega
  have hwl:=IntWalk.i64_in (((ans t).length:Int)+1-1) (by omega)
  go_upto_region 19 with fail
  have hM4:=Lib.hid (hM2.out.add ((Ext.refl wc).alloc (.cells #[.int .i64 kk,.int .i64 (ci:Int),.int .i64 vv] 50)) (Blk.new wc (.cells #[.int .i64 kk,.int .i64 (ci:Int),.int .i64 vv] 50)) (Nat.le_refl _))
  clear hM2 c_O q0 q1 q2 hz hz2 hwl
  generalize hb9:wc.heap.size=bA at *
  generalize World.alloc wc _=V4 at *
  clear hb9
  have c_A:∀ i,V4.cell? ⟨bA,i,none⟩=(#[.int .i64 kk,.int .i64 (ci:Int),.int .i64 vv]:Array Value)[i]?:=(hM4.out.at_ 0 rfl).cells
  have hc0:decide ((ci:Int)<0)=false:=by rw [decide_eq_false_iff_not];omega
  have hc1:decide ((m:Int)+1<=(ci:Int))=false:=by rw [decide_eq_false_iff_not];omega
  have hc2:decide (m+1<=ci)=false:=by rw [decide_eq_false_iff_not];omega
  have hci0:(0:Int)<=(ci:Int):=by omega
  have hcil:(ci:Int)<(m:Int)+1:=by omega
  have kC:=hM4.out.at_ 5 rfl
  have hfC:V4.frozen? ⟨bc,ci,none⟩=false:=frozen_of_heap kC ci
  obtain⟨x0,hx0⟩:∃ x0,M[ci]?=some x0:=⟨_,List.getElem?_eq_getElem hci⟩
  have c_C:V4.cell? ⟨bc,ci,none⟩=some (.int .i64 x0):=by
   rw [kC.cells ci]
   simp [hx0]
  clear kC
  go_upto_if 93 with fail
  go_cut [12] (fun s12 wx=>s12=.bool (overAt m over kk ci vv)/\Hid (WMem w ((bA,.cells #[.int .i64 kk,.int .i64 (ci:Int),.int .i64 vv] 50) :: (bu,.cells #[.bool false,.slice (some ⟨bk,0,none⟩) ((ans t).length+1) c3,.slice D3 m3 d3,.slice E3 n3 k3] 46) :: (br,.cells #[.int .i64 0,.int .i64 0] 39) :: (bt,.cells #[.int .i64 t] 3) :: (bo,.cells (obCells m) 31) :: (bc,iCells M2) :: (b1,.cells lv 34) :: (b2,fCells (fun s=>(ph s:Int))) :: gx) ba wx ans vs))
  case first =>
   -- [dev
   as_aux_lemma =>
   rcases hkkh.out with⟨hk1,e1⟩ | ⟨hk2,e1⟩
   · have dk:(kk==2)=false:=by rw [beq_eq_false_iff_ne];omega
     have eo:=Lib.hid (show overAt m over kk ci vv=over from if_neg (by omega))
     have e1h:=Lib.hid e1
     clear e1 hk1
     go_wp2_with fail
     go_meet
     rw [eo.out,e1h.out]
     exact⟨rfl,hM4⟩
   · have dk:(kk==2)=true:=by rw [beq_iff_eq];omega
     have eo:=Lib.hid (show overAt m over kk ci vv=(over||(decide ((ci:Int)=m)&&decide (vv=2))) from if_pos hk2)
     clear hk2
     go_upto_region 23 with fail
     have hM5:=Lib.hid (hM4.out.setI 5 rfl hgeh.out.2.1 ci vv)
     clear hM4 c_A c_C hfC
     generalize World.setCell V4 _ _=V5 at *
     have c_A:∀ i,V5.cell? ⟨bA,i,none⟩=(#[.int .i64 kk,.int .i64 (ci:Int),.int .i64 vv]:Array Value)[i]?:=(hM5.out.at_ 0 rfl).cells
     have c_O:=(hM5.out.at_ 4 rfl).cells
     rw [<- e1] at hM5
     clear e1 dk
     cases over with
     | true =>
       go_wp2_with fail
       go_meet
       exact⟨by rw [eo.out];rfl,hM5⟩
     | false =>
       by_cases hcm:(ci:Int)=m
       · have dc:((ci:Int)==(m:Int))=true:=by rw [beq_iff_eq];exact hcm
         have dc2:(ci==m)=true:=by rw [beq_iff_eq];omega
         have hcmh:=Lib.hid hcm
         clear hcm
         by_cases hv2:vv=2
         · have dv:(vv==2)=true:=by rw [beq_iff_eq];exact hv2
           have hvh:=Lib.hid hv2
           clear hv2
           go_wp2_with fail
           go_meet
           exact⟨by rw [eo.out,decide_eq_true hcmh.out,decide_eq_true hvh.out];rfl,hM5⟩
         · have dv:(vv==2)=false:=by rw [beq_eq_false_iff_ne];exact hv2
           have hvh:=Lib.hid hv2
           clear hv2
           go_wp2_with fail
           go_meet
           exact⟨by rw [eo.out,decide_eq_true hcmh.out,decide_eq_false hvh.out];rfl,hM5⟩
       · have dc:((ci:Int)==(m:Int))=false:=by rw [beq_eq_false_iff_ne];exact hcm
         have dc2:(ci==m)=false:=by rw [beq_eq_false_iff_ne];omega
         have hcmh:=Lib.hid hcm
         clear hcm
         go_wp2_with fail
         go_meet
         exact⟨by rw [eo.out,decide_eq_false hcmh.out];rfl,hM5⟩
   -- dev]
  case rest =>
  clear hM4 c_A c_C hfC hkkh hc0 hc1 hc2 hx0
  obtain⟨rfl,hM6⟩:=hcut
  obtain⟨A,c5,hvt,hIn,hrow⟩:=hM6.out.row ht4
  have hrow6:=Lib.hid hrow
  have bT6:=hM6.out.at_ 3 rfl
  have kC6:=Lib.hid (hM6.out.at_ 5 rfl)
  have bA6:=hM6.out.at_ 0 rfl
  have c_T:wc.cell? ⟨bt,0,none⟩=some (.int .i64 t):=bT6.cells 0
  have hC6:∀ {W:World},Ext wc W->W.cell? ⟨bc,ci,none⟩=some (.int .i64 yv):=fun hx=>by
   rw [(kC6.out.ext hx).cells ci]
   simp [hyvh.out]
  have c_C:=hC6 (Ext.refl wc)
  have c_A:wc.cell? ⟨ba,t,none⟩=some (.slice A (ans t).length c5):=(hM6.out.kA.cells t).trans hvt
  have c_F:wc.cell? ⟨bA,1,none⟩=some (.int .i64 (ci:Int)):=bA6.cells 1
  have hge6:w.heap.size<=wc.heap.size:=hM6.out.ext.size
  have ht0:(0:Int)<=(t:Int):=by omega
  have hxd:=(Ext.refl wc).drew
  have hxe:=(Ext.refl wc).alloc (.cells #[.int .i64 yv] 3)
  have c_Td:(World.drew wc).cell? ⟨bt,0,none⟩=some (.int .i64 t):=bT6.cells 0
  have c_Cd:=hC6 hxd
  have c_Ad:(World.drew wc).cell? ⟨ba,t,none⟩=some (.slice A (ans t).length c5):=(hM6.out.kA.cells t).trans hvt
  have c_Fd:(World.drew wc).cell? ⟨bA,1,none⟩=some (.int .i64 (ci:Int)):=bA6.cells 1
  have c_Te:(wc.alloc (.cells #[.int .i64 yv] 3)).cell? ⟨bt,0,none⟩=some (.int .i64 t):=(bT6.alloc _).cells 0
  have c_Ce:(wc.alloc (.cells #[.int .i64 yv] 3)).cell? ⟨bc,ci,none⟩=some (.int .i64 yv):=hC6 hxe
  have c_Fe:(wc.alloc (.cells #[.int .i64 yv] 3)).cell? ⟨bA,1,none⟩=some (.int .i64 (ci:Int)):=(bA6.alloc _).cells 1
  have c_Ae:(wc.alloc (.cells #[.int .i64 yv] 3)).cell? ⟨ba,t,none⟩=some (.slice A (ans t).length c5):=((hM6.out.kA.alloc _).cells t).trans hvt
  clear hC6 hxd hxe bT6 bA6 kC6 hIn hrow
  obtain⟨i0,hi,hz0,hz1,hz2⟩:=info_parts info_int
  go_upto_region 24 with fail
  go_cut [] (fun wx=>∃ vs2,Hid (WMem w ((bA,.cells #[.int .i64 kk,.int .i64 (ci:Int),.int .i64 vv] 50) :: (bu,.cells #[.bool false,.slice (some ⟨bk,0,none⟩) ((ans t).length+1) c3,.slice D3 m3 d3,.slice E3 n3 k3] 46) :: (br,.cells #[.int .i64 0,.int .i64 0] 39) :: (bt,.cells #[.int .i64 t] 3) :: (bo,.cells (obCells m) 31) :: (bc,iCells M2) :: (b1,.cells lv 34) :: (b2,fCells (fun s=>(ph s:Int))) :: gx) ba wx (fun s=>if s=t then ans t++[yv] else ans s) vs2))
  case first =>
   -- [dev
   have hS:(World.drew wc).cell? ⟨bt,0,none⟩=some (.int .i64 t)/\(World.drew wc).cell? ⟨bc,ci,none⟩=some (.int .i64 yv)/\(World.drew wc).cell? ⟨bA,1,none⟩=some (.int .i64 (ci:Int)):=⟨c_Td,c_Cd,c_Fd⟩
   have hSe:((World.drew wc).alloc (.cells #[.int .i64 yv] 3)).cell? ⟨bt,0,none⟩=some (.int .i64 t)/\((World.drew wc).alloc (.cells #[.int .i64 yv] 3)).cell? ⟨bc,ci,none⟩=some (.int .i64 yv)/\((World.drew wc).alloc (.cells #[.int .i64 yv] 3)).cell? ⟨bA,1,none⟩=some (.int .i64 (ci:Int)):=⟨c_Te,c_Ce,c_Fe⟩
   refine wp_region_held_drew (S:=fun w'=>w'.cell? ⟨bt,0,none⟩=some (.int .i64 t)/\w'.cell? ⟨bc,ci,none⟩=some (.int .i64 yv)/\w'.cell? ⟨bA,1,none⟩=some (.int .i64 (ci:Int))) rfl hS (fun hHeld=>?_)
   clear c_T c_C c_A c_F
   refine tkb 0 ?_
   iterate 3
    refine tkn (v:=?_) rfl (by kernel_rfl) (fun _ _ _ h=>h) (by assumption) ?_ ?_
    rotate_left
    · (intro w hSw;(try dsimp only at hSw);go_simp;try with_reducible rfl)
    try simp only [put_pack]
   refine tke ?_
   refine tkb 4 ?_
   iterate 5
    refine tkn (v:=?_) rfl (by kernel_rfl) (fun _ _ _ h=>h) (by assumption) ?_ ?_
    rotate_left
    · (intro w hSw;(try dsimp only at hSw);go_simp;try with_reducible rfl)
    try simp only [put_pack]
   refine tke ?_
   refine wpAnyH_ready (rs:=[3,9]) (by kernel_rfl) (by simp) ?_
   refine AllReadyH.cons rfl (fun K hKK=>?_) (AllReadyH.cons rfl (fun K hKK=>?_) (AllReadyH.nil))
   · go_simp
     refine hKK.out _ _ hS (fun hHeld=>?_)
     clear hKK K
     try dsimp only
     refine wpAnyH_ready (rs:=[9]) (by kernel_rfl) (by simp) ?_
     refine AllReadyH.cons rfl (fun K hKK=>?_) (AllReadyH.nil)
     go_simp
     refine hKK.out _ _ hSe (fun hHeld=>?_)
     clear hKK K
     try dsimp only
     refine wpAnyH_ready (rs:=[10]) (by kernel_rfl) (by simp) ?_
     refine AllReadyH.cons rfl (fun K hKK=>?_) (AllReadyH.nil)
     refine step_append_lies _ (by rfl) _ _ _ (by rfl) w.heap.size 3 i0 _ 1 8 Tryz.underlying33 hi hz0 hz1 hz2 rfl (by omega) (Value.slice A (ans t).length c5) (ans t).length (rowOf (ans t)) (by rfl) ((World.ownsRow.drew hrow6.out).alloc _) ⟨wc.heap.size,0,none⟩ 1 1 [.int .i64 yv] (by rfl) (by rfl) (cells_new1 wc _ _) (by simp [Value.oneCell']) (by omega) (by unfold maxLen;omega) (by omega) (by simp;omega) (wc.heap.size+1) (by simp) ?_
     intro gg cap w1' hown1 hgrow hat1 hlt1
     have hM7:=Lib.hid (hM6.out.grow ht4 hvt hown1 (grown1 hgrow) (hat1.imp id (by omega)))
     have bT7:Blk w1' bt (.cells #[.int .i64 t] 3):=hM6.out.grownAt hvt (grown1 hgrow) 3 rfl
     have bA7:Blk w1' bA (.cells #[.int .i64 kk,.int .i64 (ci:Int),.int .i64 vv] 50):=hM6.out.grownAt hvt (grown1 hgrow) 0 rfl
     have bC7:Blk w1' bc (iCells M2):=hM6.out.grownAt hvt (grown1 hgrow) 5 rfl
     have hp1:=hM6.out.grownA hvt (grown1 hgrow)
     have hq1:=cell_of_heap hp1
     have hf1:=frozen_of_heap hp1
     refine hKK.out _ _ ⟨bT7.cells 0,by rw [bC7.cells ci];simp [hyvh.out],bA7.cells 1⟩ (fun hHeld=>?_)
     clear hKK K hown1 hgrow hat1 hlt1 hp1
     try dsimp only
     refine tk 11 (v:=?_) rfl (by kernel_rfl) (fun _ _ _ h=>h) (by assumption) ?_ ?_
     rotate_left
     · (intro w hSw;(try dsimp only at hSw);go_simp;try with_reducible rfl)
     try simp only [put_pack]
     refine wpAnyH_ready (rs:=[12]) (by kernel_rfl) (by simp) ?_
     refine AllReadyH.cons rfl (fun K hKK=>?_) (AllReadyH.nil)
     go_simp
     refine hKK.out _ _ ⟨(hM7.out.at_ 3 rfl).cells 0,by rw [(hM7.out.at_ 5 rfl).cells ci];simp [hyvh.out],(hM7.out.at_ 0 rfl).cells 1⟩ (fun hHeld=>?_)
     clear hKK K hq1 hf1 bT7 bA7 bC7
     try dsimp only
     refine wpAnyH_done (by kernel_rfl) ?_ _
     go_simp
     go_wp2_with fail
     go_meet
     exact⟨_,hM7⟩
   · go_simp
     refine hKK.out _ _ hSe (fun hHeld=>?_)
     clear hKK K
     try dsimp only
     refine wpAnyH_ready (rs:=[3]) (by kernel_rfl) (by simp) ?_
     refine AllReadyH.cons rfl (fun K hKK=>?_) (AllReadyH.nil)
     go_simp
     refine hKK.out _ _ hSe (fun hHeld=>?_)
     clear hKK K
     try dsimp only
     refine wpAnyH_ready (rs:=[10]) (by kernel_rfl) (by simp) ?_
     refine AllReadyH.cons rfl (fun K hKK=>?_) (AllReadyH.nil)
     refine step_append_lies _ (by rfl) _ _ _ (by rfl) w.heap.size 3 i0 _ 1 8 Tryz.underlying33 hi hz0 hz1 hz2 rfl (by omega) (Value.slice A (ans t).length c5) (ans t).length (rowOf (ans t)) (by rfl) ((World.ownsRow.drew hrow6.out).alloc _) ⟨wc.heap.size,0,none⟩ 1 1 [.int .i64 yv] (by rfl) (by rfl) (cells_new1 wc _ _) (by simp [Value.oneCell']) (by omega) (by unfold maxLen;omega) (by omega) (by simp;omega) (wc.heap.size+1) (by simp) ?_
     intro gg cap w1' hown1 hgrow hat1 hlt1
     have hM7:=Lib.hid (hM6.out.grow ht4 hvt hown1 (grown1 hgrow) (hat1.imp id (by omega)))
     have bT7:Blk w1' bt (.cells #[.int .i64 t] 3):=hM6.out.grownAt hvt (grown1 hgrow) 3 rfl
     have bA7:Blk w1' bA (.cells #[.int .i64 kk,.int .i64 (ci:Int),.int .i64 vv] 50):=hM6.out.grownAt hvt (grown1 hgrow) 0 rfl
     have bC7:Blk w1' bc (iCells M2):=hM6.out.grownAt hvt (grown1 hgrow) 5 rfl
     have hp1:=hM6.out.grownA hvt (grown1 hgrow)
     have hq1:=cell_of_heap hp1
     have hf1:=frozen_of_heap hp1
     refine hKK.out _ _ ⟨bT7.cells 0,by rw [bC7.cells ci];simp [hyvh.out],bA7.cells 1⟩ (fun hHeld=>?_)
     clear hKK K hown1 hgrow hat1 hlt1 hp1
     try dsimp only
     refine tk 11 (v:=?_) rfl (by kernel_rfl) (fun _ _ _ h=>h) (by assumption) ?_ ?_
     rotate_left
     · (intro w hSw;(try dsimp only at hSw);go_simp;try with_reducible rfl)
     try simp only [put_pack]
     refine wpAnyH_ready (rs:=[12]) (by kernel_rfl) (by simp) ?_
     refine AllReadyH.cons rfl (fun K hKK=>?_) (AllReadyH.nil)
     go_simp
     refine hKK.out _ _ ⟨(hM7.out.at_ 3 rfl).cells 0,by rw [(hM7.out.at_ 5 rfl).cells ci];simp [hyvh.out],(hM7.out.at_ 0 rfl).cells 1⟩ (fun hHeld=>?_)
     clear hKK K hq1 hf1 bT7 bA7 bC7
     try dsimp only
     refine wpAnyH_done (by kernel_rfl) ?_ _
     go_simp
     go_wp2_with fail
     go_meet
     exact⟨_,hM7⟩
   -- dev]
  case rest =>
  clear hM6 c_T c_C c_A c_F c_Td c_Cd c_Ad c_Fd c_Te c_Ce c_Fe c_Ae hrow6 hge6 hi hz0 hz1 hz2 hvt
  obtain⟨vs2,hM8⟩:=hcut
  generalize hov:overAt m over kk ci vv=ov at *
  obtain⟨ans2,ha2⟩:∃ f:Nat->List Int,f=(fun s=>if s=t then ans t++[yv] else ans s):=⟨_,rfl⟩
  rw [<- ha2] at hM8
  have h2t:ans2 t=ans t++[yv]:=by rw [ha2];exact if_pos rfl
  have h2s:∀ s,s≠t->ans2 s=ans s:=fun s hs=>by rw [ha2];exact if_neg hs
  have h2l:(ans2 t).length<=j+1:=by rw [h2t];simp;omega
  have hnx2:Hid (∃ pc' F' X' S2,((treeN (onM m t).ask D (.st (decide (ph t=1)))).run (TS0 (onL (ph t)) (ans2 t))=(none,S2)/\OnInv m D (j+1) pc' ph ones ov F' X' M2 ans2) ∨
    ∃ v:Nat,(treeN (onM m t).ask D (.st (decide (ph t=1)))).run (TS0 (onL (ph t)) (ans2 t))=(some (v:Int),S2)/\v<=1/\(ph t=0->v=0->ov=true)/\(v=1->S2.loc=(TS0 [1] []).loc) /\
     OnInv m D (j+1) pc' (fun s=>if s=t then 2-v else ph s) (ones+v) ov F' X' M2 (fun s=>if s=t then [] else ans2 s)):=by
   have e0:(fun s=>if s=t then [] else ans s)=(fun s=>if s=t then [] else ans2 s):=funext fun s=>by
    by_cases e:s=t
    · rw [if_pos e,if_pos e]
    · rw [if_neg e,if_neg e,h2s s e]
   obtain⟨pc',F',X',S2,h⟩:=hnx.out
   refine⟨pc',F',X',S2,?_⟩
   rw [h2t]
   rcases h with⟨q1,q2⟩ | ⟨v,q1,q2,q3,q4,q5⟩
   · refine .inl ⟨q1,?_⟩
     rw [ha2]
     exact q2
   · refine .inr ⟨v,q1,q2,q3,q4,?_⟩
     rw [<- e0];exact q5
  obtain⟨pc',F',X',S2,hnx3⟩:=hnx2.out
  have hnxh:=Lib.hid hnx3
  have hh2:=Lib.hid h2s
  clear ha2 h2t hnx hnx2 hnx3 hyvh h2s hov
  obtain⟨A,c5,hvt,hIn,hrow⟩:=hM8.out.row ht4
  obtain⟨E,kE,hlv,hIE⟩:=hlo.out.2 t ht4 hph
  obtain⟨rv,dn,rw,hrv⟩:∃ (rv:Option Int) (dn:Bool) (rw:Int),(treeN (onM m t).ask D (.st (decide (ph t=1)))).run (TS0 (onL (ph t)) (ans2 t))=(rv,S2)/\rv.isSome=dn/\rv.getD 0=rw:=by
   rcases hnxh.out with⟨q1,_⟩ | ⟨v,q1,_⟩
   · exact⟨_,_,_,q1,rfl,rfl⟩
   · exact⟨_,_,_,q1,rfl,rfl⟩
  have hPl:∀ W,Ext wc W->Calls Tryz.prog 12 #[.func (.func 9) #[] #[.pointer (some ⟨b2,0,none⟩),.pointer (some ⟨bt,0,none⟩),.pointer (some ⟨bo,0,none⟩)],.slice E (onL (ph t)).length kE,.slice A (ans2 t).length c5] W fun e w'=>∃ A4 a4 c4 D4 m4' d4 E4 l4 k4,e=.returned (.tuple #[.agg #[.int .i64 0,.int .i64 rw],.agg #[.bool dn,.slice A4 a4 c4,.slice D4 m4' d4,.slice E4 l4.length k4]])/\Ext W w'/\Ints w' (.slice E4 l4.length k4) l4/\(∀ b,(Value.slice E4 l4.length k4).ownBlock=some b->W.heap.size<=b)/\(S2.loc=(TS0 [1] []).loc->l4=[1]):=by
   intro W hxW
   have hIE2:=hIE W fun q hq=>(hM8.out.fix q (by simp [hq])).ext hxW
   have h:=play_reply (fun _=>0) id encRp (fun _=>rfl) 9 #[.pointer (some ⟨b2,0,none⟩),.pointer (some ⟨bt,0,none⟩),.pointer (some ⟨bo,0,none⟩)] (treeN (onM m t).ask D (.st (decide (ph t=1)))) E kE (onL (ph t)) A c5 (ans2 t) W hIE2 (by have:=onL_len (ph t);omega) (hIn.ext hxW) (by unfold maxAns;omega) (fun k hk=>by have:=(own_ge hrow hk).2;have:=hxW.size;omega) (fun _ _=>rfl) (fun W' p hxW' hP=>oncl _ p m t (ph t) D _ bo bt b2 W' hP m1 (by omega) htm ht4 hp1 (by rw [hDh.out];show (ans2 t).length-0<600;omega) (by show 0+10*((ans2 t).length-0)<=90000;omega) (onL_got hp1 _) ((hM8.out.at_ 4 rfl).ext (hxW.trans hxW')) (((hM8.out.at_ 3 rfl).ext (hxW.trans hxW')).cells 0) ((((hM8.out.at_ 7 rfl).ext (hxW.trans hxW')).cells t).trans (fours_at ht4)) ⟨((hM8.out.at_ 3 rfl).ext (hxW.trans hxW')).lt,((hM8.out.at_ 7 rfl).ext (hxW.trans hxW')).lt⟩)
   rw [hrv.1] at h
   have e8:rv.map (fun _=>(0:Int))=rv.map (fun _=>(0:Int)):=rfl
   refine h.mono ?_
   rintro e w3 ⟨v3,rfl,hO,hB3,hx3⟩
   obtain⟨A3,c3,D3,d3,vs3,L3,rfl,hO3⟩:=hO
   obtain⟨E3,k3,hvs3,_,_⟩:=hO3.locs.slice
   subst hvs3
   have hown:∀ b,(Value.slice E3 (shortL L3).length k3).ownBlock=some b->W.heap.size<=b:=by
    obtain⟨_,_,_,vs9,he9,hvs9,_⟩:=hB3
    unfold outV at he9
    simp only [Value.agg.injEq,Array.mk.injEq,List.cons.injEq] at he9
    obtain⟨_,_,_,rfl,_⟩:=he9
    exact hvs9
   have hl1:S2.loc=(TS0 [1] []).loc->shortL L3=[1]:=fun he=>by
    have h:=shortL_eq (L:=L3) (L':=[1]) fun i=>by
     rw [<- hO3.is i,he]
     rfl
    rw [h]
    rfl
   have e0:((rv.map fun _=>(0:Int)).getD 0)=0:=by cases rv <;> rfl
   have e1:((rv.map id).getD 0)=rw:=by rw [<- hrv.2.2];cases rv <;> rfl
   unfold outV
   dsimp only
   rw [e0,e1,hrv.2.1]
   exact⟨_,_,_,_,_,_,_,shortL L3,_,rfl,hx3,hO3.locs,hown,hl1⟩
  have hS:∀ W,Ext wc W->W.cell? ⟨bt,0,none⟩=some (.int .i64 t)/\W.cell? ⟨b1,t,none⟩=some (.slice E (onL (ph t)).length kE)/\W.cell? ⟨ba,t,none⟩=some (.slice A (ans2 t).length c5):=fun W hx=>⟨((hM8.out.at_ 3 rfl).ext hx).cells 0,(((hM8.out.at_ 6 rfl).ext hx).cells t).trans hlv,((hM8.out.kA.ext hx).cells t).trans hvt⟩
  have hrvh:=Lib.hid hrv
  clear hIn hrow hIE hrv
  go_upto_region 25 with fail
  go_cut [19,20] (fun s19 s20 wx=>∃ bw bv A4 a4 c4 D4 m4' d4 E4 l4 k4 gy,s19=.pointer (some ⟨bw,0,none⟩)/\s20=.pointer (some ⟨bv,0,none⟩)/\Hid (WMem w ((bv,.cells #[.bool dn,.slice A4 a4 c4,.slice D4 m4' d4,.slice E4 l4.length k4] 46) :: (bw,.cells #[.int .i64 0,.int .i64 rw] 39) :: (bA,.cells #[.int .i64 kk,.int .i64 (ci:Int),.int .i64 vv] 50) :: (bu,.cells #[.bool false,.slice (some ⟨bk,0,none⟩) ((ans t).length+1) c3,.slice D3 m3 d3,.slice E3 n3 k3] 46) :: (br,.cells #[.int .i64 0,.int .i64 0] 39) :: (bt,.cells #[.int .i64 t] 3) :: (bo,.cells (obCells m) 31) :: (bc,iCells M2) :: (b1,.cells lv 34) :: (b2,fCells (fun s=>(ph s:Int))) :: (gy++gx)) ba wx ans2 vs2)/\Hid ((∀ W',(∀ q,q∈gy->Blk W' q.1 q.2)->Ints W' (.slice E4 l4.length k4) l4)/\(S2.loc=(TS0 [1] []).loc->l4=[1])))
  case first =>
   -- [dev
   as_aux_lemma =>
   have hMn1:=Lib.hid (hM8.out.keep (Ext.refl wc).drew)
   have e1:=(Ext.refl wc).drew
   refine wp_region_held_drew (S:=fun w'=>w'.cell? ⟨bt,0,none⟩=some (.int .i64 t)/\w'.cell? ⟨b1,t,none⟩=some (.slice E (onL (ph t)).length kE)/\w'.cell? ⟨ba,t,none⟩=some (.slice A (ans2 t).length c5)) rfl (hS _ e1) (fun hHeld=>?_)
   clear hM8 hnxh hrvh hlo hp2 hph hh2
   refine tkb 0 ?_
   iterate 7
    refine tkn (v:=?_) rfl (by kernel_rfl) (fun _ _ _ h=>h) (by assumption) ?_ ?_
    rotate_left
    · (intro w hSw;(try dsimp only at hSw);go_simp;try with_reducible rfl)
    try simp only [put_pack]
   refine tke ?_
   generalize World.drew wc=Wd at *
   refine wpAnyH_ready (rs:=[7,11,12]) (by kernel_rfl) (by simp) ?_
   refine AllReadyH.cons rfl (fun K hKK=>?_) (AllReadyH.cons rfl (fun K hKK=>?_) (AllReadyH.cons rfl (fun K hKK=>?_) (AllReadyH.nil)))
   · go_simp
     refine (hPl _ e1).mono ?_
     rintro e w4 ⟨A4,a4,c4,D4,m4',d4,E4,l4,k4,rfl,hx4,hI4,hown4,hl4⟩
     obtain⟨gy,hMg,hgI⟩:=hMn1.out.rowAdd hx4 hI4 hown4
     have hMn2:Hid (WMem w ((bA,.cells #[.int .i64 kk,.int .i64 (ci:Int),.int .i64 vv] 50) :: (bu,.cells #[.bool false,.slice (some ⟨bk,0,none⟩) ((ans t).length+1) c3,.slice D3 m3 d3,.slice E3 n3 k3] 46) :: (br,.cells #[.int .i64 0,.int .i64 0] 39) :: (bt,.cells #[.int .i64 t] 3) :: (bo,.cells (obCells m) 31) :: (bc,iCells M2) :: (b1,.cells lv 34) :: (b2,fCells (fun s=>(ph s:Int))) :: (gy++gx)) ba w4 ans2 vs2):=hMg.perm (List.perm_append_comm_assoc gy [(bA,.cells #[.int .i64 kk,.int .i64 (ci:Int),.int .i64 vv] 50),(bu,.cells #[.bool false,.slice (some ⟨bk,0,none⟩) ((ans t).length+1) c3,.slice D3 m3 d3,.slice E3 n3 k3] 46),(br,.cells #[.int .i64 0,.int .i64 0] 39),(bt,.cells #[.int .i64 t] 3),(bo,.cells (obCells m) 31),(bc,iCells M2),(b1,.cells lv 34),(b2,fCells (fun s=>(ph s:Int)))] gx)
     have hgIh:=Lib.hid (And.intro hgI hl4)
     have e2:=e1.trans hx4
     clear hx4 hMn1 e1 hPl hMg hgI hl4 hI4 hown4
     refine hKK.out _ _ (hS _ e2) (fun hHeld=>?_)
     clear hKK K
     try dsimp only
     refine tkb 8 ?_
     iterate 3
      refine tkn (v:=?_) rfl (by kernel_rfl) (fun _ _ _ h=>h) (by assumption) ?_ ?_
      rotate_left
      · (intro w hSw;(try dsimp only at hSw);go_simp;try with_reducible rfl)
      try simp only [put_pack]
     refine tke ?_
     refine wpAnyH_ready (rs:=[11,12]) (by kernel_rfl) (by simp) ?_
     refine AllReadyH.cons rfl (fun K hKK=>?_) (AllReadyH.cons rfl (fun K hKK=>?_) (AllReadyH.nil))
     · go_simp
       have hMn3:=Lib.hid (hMn2.out.add ((Ext.refl w4).alloc (.cells #[.int .i64 0,.int .i64 0] 39)) (Blk.new w4 (.cells #[.int .i64 0,.int .i64 0] 39)) (Nat.le_refl _))
       have e3:=e2.alloc (.cells #[.int .i64 0,.int .i64 0] 39)
       have gR:w.heap.size<=w4.heap.size:=hMn2.out.ext.size
       clear hMn2
       refine hKK.out _ _ (hS _ e3) (fun hHeld=>?_)
       clear hKK K
       try dsimp only
       generalize hb9:w4.heap.size=bw at *
       generalize World.alloc w4 _=X3 at *
       clear hb9 e2
       refine wpAnyH_ready (rs:=[12]) (by kernel_rfl) (by simp) ?_
       refine AllReadyH.cons rfl (fun K hKK=>?_) (AllReadyH.nil)
       go_simp
       have hMn4:=Lib.hid (hMn3.out.add ((Ext.refl X3).alloc (.cells #[.bool false,.slice none 0 0,.slice none 0 0,.slice none 0 0] 46)) (Blk.new X3 (.cells #[.bool false,.slice none 0 0,.slice none 0 0,.slice none 0 0] 46)) (Nat.le_refl _))
       have e4:=e3.alloc (.cells #[.bool false,.slice none 0 0,.slice none 0 0,.slice none 0 0] 46)
       have gO:w.heap.size<=X3.heap.size:=hMn3.out.ext.size
       clear hMn3
       refine hKK.out _ _ (hS _ e4) (fun hHeld=>?_)
       clear hKK K
       try dsimp only
       generalize hb9:X3.heap.size=bv at *
       generalize World.alloc X3 _=X4 at *
       clear hb9 e3
       have hZ:Hid (WMem w ((bv,.cells #[.bool false,.slice none 0 0,.slice none 0 0,.slice none 0 0] 46) :: (bw,.cells #[.int .i64 0,.int .i64 0] 39) :: (bA,.cells #[.int .i64 kk,.int .i64 (ci:Int),.int .i64 vv] 50) :: (bu,.cells #[.bool false,.slice (some ⟨bk,0,none⟩) ((ans t).length+1) c3,.slice D3 m3 d3,.slice E3 n3 k3] 46) :: (br,.cells #[.int .i64 0,.int .i64 0] 39) :: (bt,.cells #[.int .i64 t] 3) :: (bo,.cells (obCells m) 31) :: (bc,iCells M2) :: (b1,.cells lv 34) :: (b2,fCells (fun s=>(ph s:Int))) :: (gy++gx)) ba X4 ans2 vs2):=hMn4
       clear hMn4 e4
       have kR:=hZ.out.at_ 1 rfl
       have c_R:=kR.cells
       have f_R:=fun i=>frozen_of_heap kR i
       clear kR
       refine wpAnyH_ready (rs:=[13]) (by kernel_rfl) (by simp) ?_
       refine AllReadyH.cons rfl (fun K hKK=>?_) (AllReadyH.nil)
       go_simp
       have hZ2:Hid (WMem w ((bv,.cells #[.bool false,.slice none 0 0,.slice none 0 0,.slice none 0 0] 46) :: (bw,.cells #[.int .i64 0,.int .i64 rw] 39) :: (bA,.cells #[.int .i64 kk,.int .i64 (ci:Int),.int .i64 vv] 50) :: (bu,.cells #[.bool false,.slice (some ⟨bk,0,none⟩) ((ans t).length+1) c3,.slice D3 m3 d3,.slice E3 n3 k3] 46) :: (br,.cells #[.int .i64 0,.int .i64 0] 39) :: (bt,.cells #[.int .i64 t] 3) :: (bo,.cells (obCells m) 31) :: (bc,iCells M2) :: (b1,.cells lv 34) :: (b2,fCells (fun s=>(ph s:Int))) :: (gy++gx)) ba ((X4.setCell ⟨bw,0,none⟩ (.int .i64 0)).setCell ⟨bw,1,none⟩ (.int .i64 rw)) ans2 vs2):=(hZ.out.putAt 1 rfl gR 0 (.int .i64 0)).putAt 1 rfl gR 1 (.int .i64 rw)
       clear hZ c_R f_R
       refine hKK.out _ _ ⟨(hZ2.out.at_ 5 rfl).cells 0,((hZ2.out.at_ 8 rfl).cells t).trans hlv,(hZ2.out.kA.cells t).trans hvt⟩ (fun hHeld=>?_)
       clear hKK K
       try dsimp only
       generalize World.setCell (World.setCell X4 _ _) _ _=Y2 at *
       have kO:=hZ2.out.at_ 0 rfl
       have c_O:=kO.cells
       have f_O:=fun i=>frozen_of_heap kO i
       clear kO
       refine wpAnyH_ready (rs:=[14]) (by kernel_rfl) (by simp) ?_
       refine AllReadyH.cons rfl (fun K hKK=>?_) (AllReadyH.nil)
       go_simp
       have hZ3:Hid (WMem w ((bv,.cells #[.bool dn,.slice A4 a4 c4,.slice D4 m4' d4,.slice E4 l4.length k4] 46) :: (bw,.cells #[.int .i64 0,.int .i64 rw] 39) :: (bA,.cells #[.int .i64 kk,.int .i64 (ci:Int),.int .i64 vv] 50) :: (bu,.cells #[.bool false,.slice (some ⟨bk,0,none⟩) ((ans t).length+1) c3,.slice D3 m3 d3,.slice E3 n3 k3] 46) :: (br,.cells #[.int .i64 0,.int .i64 0] 39) :: (bt,.cells #[.int .i64 t] 3) :: (bo,.cells (obCells m) 31) :: (bc,iCells M2) :: (b1,.cells lv 34) :: (b2,fCells (fun s=>(ph s:Int))) :: (gy++gx)) ba ((((Y2.setCell ⟨bv,0,none⟩ (.bool dn)).setCell ⟨bv,1,none⟩ (.slice A4 a4 c4)).setCell ⟨bv,2,none⟩ (.slice D4 m4' d4)).setCell ⟨bv,3,none⟩ (.slice E4 l4.length k4)) ans2 vs2):=(((hZ2.out.putAt 0 rfl gO 0 (.bool dn)).putAt 0 rfl gO 1 (.slice A4 a4 c4)).putAt 0 rfl gO 2 (.slice D4 m4' d4)).putAt 0 rfl gO 3 (.slice E4 l4.length k4)
       clear hZ2 c_O f_O
       refine hKK.out _ _ ⟨(hZ3.out.at_ 5 rfl).cells 0,((hZ3.out.at_ 8 rfl).cells t).trans hlv,(hZ3.out.kA.cells t).trans hvt⟩ (fun hHeld=>?_)
       clear hKK K
       try dsimp only
       generalize World.setCell (World.setCell (World.setCell (World.setCell Y2 _ _) _ _) _ _) _ _=Y3 at *
       refine wpAnyH_done (by kernel_rfl) ?_ _
       go_simp
       go_wp2_with fail
       go_meet
       exact⟨bw,bv,A4,a4,c4,D4,m4',d4,E4,l4,k4,gy,rfl,rfl,hZ3,hgIh⟩
     · go_simp
       have hMn3:=Lib.hid (hMn2.out.add ((Ext.refl w4).alloc (.cells #[.bool false,.slice none 0 0,.slice none 0 0,.slice none 0 0] 46)) (Blk.new w4 (.cells #[.bool false,.slice none 0 0,.slice none 0 0,.slice none 0 0] 46)) (Nat.le_refl _))
       have e3:=e2.alloc (.cells #[.bool false,.slice none 0 0,.slice none 0 0,.slice none 0 0] 46)
       have gO:w.heap.size<=w4.heap.size:=hMn2.out.ext.size
       clear hMn2
       refine hKK.out _ _ (hS _ e3) (fun hHeld=>?_)
       clear hKK K
       try dsimp only
       generalize hb9:w4.heap.size=bv at *
       generalize World.alloc w4 _=X3 at *
       clear hb9 e2
       refine wpAnyH_ready (rs:=[11]) (by kernel_rfl) (by simp) ?_
       refine AllReadyH.cons rfl (fun K hKK=>?_) (AllReadyH.nil)
       go_simp
       have hMn4:=Lib.hid (hMn3.out.add ((Ext.refl X3).alloc (.cells #[.int .i64 0,.int .i64 0] 39)) (Blk.new X3 (.cells #[.int .i64 0,.int .i64 0] 39)) (Nat.le_refl _))
       have e4:=e3.alloc (.cells #[.int .i64 0,.int .i64 0] 39)
       have gR:w.heap.size<=X3.heap.size:=hMn3.out.ext.size
       clear hMn3
       refine hKK.out _ _ (hS _ e4) (fun hHeld=>?_)
       clear hKK K
       try dsimp only
       generalize hb9:X3.heap.size=bw at *
       generalize World.alloc X3 _=X4 at *
       clear hb9 e3
       have hZ:Hid (WMem w ((bv,.cells #[.bool false,.slice none 0 0,.slice none 0 0,.slice none 0 0] 46) :: (bw,.cells #[.int .i64 0,.int .i64 0] 39) :: (bA,.cells #[.int .i64 kk,.int .i64 (ci:Int),.int .i64 vv] 50) :: (bu,.cells #[.bool false,.slice (some ⟨bk,0,none⟩) ((ans t).length+1) c3,.slice D3 m3 d3,.slice E3 n3 k3] 46) :: (br,.cells #[.int .i64 0,.int .i64 0] 39) :: (bt,.cells #[.int .i64 t] 3) :: (bo,.cells (obCells m) 31) :: (bc,iCells M2) :: (b1,.cells lv 34) :: (b2,fCells (fun s=>(ph s:Int))) :: (gy++gx)) ba X4 ans2 vs2):=hMn4.out.perm (List.Perm.swap _ _ _)
       clear hMn4 e4
       have kR:=hZ.out.at_ 1 rfl
       have c_R:=kR.cells
       have f_R:=fun i=>frozen_of_heap kR i
       clear kR
       refine wpAnyH_ready (rs:=[13]) (by kernel_rfl) (by simp) ?_
       refine AllReadyH.cons rfl (fun K hKK=>?_) (AllReadyH.nil)
       go_simp
       have hZ2:Hid (WMem w ((bv,.cells #[.bool false,.slice none 0 0,.slice none 0 0,.slice none 0 0] 46) :: (bw,.cells #[.int .i64 0,.int .i64 rw] 39) :: (bA,.cells #[.int .i64 kk,.int .i64 (ci:Int),.int .i64 vv] 50) :: (bu,.cells #[.bool false,.slice (some ⟨bk,0,none⟩) ((ans t).length+1) c3,.slice D3 m3 d3,.slice E3 n3 k3] 46) :: (br,.cells #[.int .i64 0,.int .i64 0] 39) :: (bt,.cells #[.int .i64 t] 3) :: (bo,.cells (obCells m) 31) :: (bc,iCells M2) :: (b1,.cells lv 34) :: (b2,fCells (fun s=>(ph s:Int))) :: (gy++gx)) ba ((X4.setCell ⟨bw,0,none⟩ (.int .i64 0)).setCell ⟨bw,1,none⟩ (.int .i64 rw)) ans2 vs2):=(hZ.out.putAt 1 rfl gR 0 (.int .i64 0)).putAt 1 rfl gR 1 (.int .i64 rw)
       clear hZ c_R f_R
       refine hKK.out _ _ ⟨(hZ2.out.at_ 5 rfl).cells 0,((hZ2.out.at_ 8 rfl).cells t).trans hlv,(hZ2.out.kA.cells t).trans hvt⟩ (fun hHeld=>?_)
       clear hKK K
       try dsimp only
       generalize World.setCell (World.setCell X4 _ _) _ _=Y2 at *
       have kO:=hZ2.out.at_ 0 rfl
       have c_O:=kO.cells
       have f_O:=fun i=>frozen_of_heap kO i
       clear kO
       refine wpAnyH_ready (rs:=[14]) (by kernel_rfl) (by simp) ?_
       refine AllReadyH.cons rfl (fun K hKK=>?_) (AllReadyH.nil)
       go_simp
       have hZ3:Hid (WMem w ((bv,.cells #[.bool dn,.slice A4 a4 c4,.slice D4 m4' d4,.slice E4 l4.length k4] 46) :: (bw,.cells #[.int .i64 0,.int .i64 rw] 39) :: (bA,.cells #[.int .i64 kk,.int .i64 (ci:Int),.int .i64 vv] 50) :: (bu,.cells #[.bool false,.slice (some ⟨bk,0,none⟩) ((ans t).length+1) c3,.slice D3 m3 d3,.slice E3 n3 k3] 46) :: (br,.cells #[.int .i64 0,.int .i64 0] 39) :: (bt,.cells #[.int .i64 t] 3) :: (bo,.cells (obCells m) 31) :: (bc,iCells M2) :: (b1,.cells lv 34) :: (b2,fCells (fun s=>(ph s:Int))) :: (gy++gx)) ba ((((Y2.setCell ⟨bv,0,none⟩ (.bool dn)).setCell ⟨bv,1,none⟩ (.slice A4 a4 c4)).setCell ⟨bv,2,none⟩ (.slice D4 m4' d4)).setCell ⟨bv,3,none⟩ (.slice E4 l4.length k4)) ans2 vs2):=(((hZ2.out.putAt 0 rfl gO 0 (.bool dn)).putAt 0 rfl gO 1 (.slice A4 a4 c4)).putAt 0 rfl gO 2 (.slice D4 m4' d4)).putAt 0 rfl gO 3 (.slice E4 l4.length k4)
       clear hZ2 c_O f_O
       refine hKK.out _ _ ⟨(hZ3.out.at_ 5 rfl).cells 0,((hZ3.out.at_ 8 rfl).cells t).trans hlv,(hZ3.out.kA.cells t).trans hvt⟩ (fun hHeld=>?_)
       clear hKK K
       try dsimp only
       generalize World.setCell (World.setCell (World.setCell (World.setCell Y2 _ _) _ _) _ _) _ _=Y3 at *
       refine wpAnyH_done (by kernel_rfl) ?_ _
       go_simp
       go_wp2_with fail
       go_meet
       exact⟨bw,bv,A4,a4,c4,D4,m4',d4,E4,l4,k4,gy,rfl,rfl,hZ3,hgIh⟩
   · go_simp
     have hMn2:=Lib.hid (hMn1.out.add ((Ext.refl Wd).alloc (.cells #[.int .i64 0,.int .i64 0] 39)) (Blk.new Wd (.cells #[.int .i64 0,.int .i64 0] 39)) (Nat.le_refl _))
     have e2:=e1.alloc (.cells #[.int .i64 0,.int .i64 0] 39)
     have gR:w.heap.size<=Wd.heap.size:=hMn1.out.ext.size
     clear hMn1
     refine hKK.out _ _ (hS _ e2) (fun hHeld=>?_)
     clear hKK K
     try dsimp only
     generalize hb9:Wd.heap.size=bw at *
     generalize World.alloc Wd _=X2 at *
     clear hb9 e1
     refine wpAnyH_ready (rs:=[7,12]) (by kernel_rfl) (by simp) ?_
     refine AllReadyH.cons rfl (fun K hKK=>?_) (AllReadyH.cons rfl (fun K hKK=>?_) (AllReadyH.nil))
     · go_simp
       refine (hPl _ e2).mono ?_
       rintro e w4 ⟨A4,a4,c4,D4,m4',d4,E4,l4,k4,rfl,hx4,hI4,hown4,hl4⟩
       obtain⟨gy,hMg,hgI⟩:=hMn2.out.rowAdd hx4 hI4 hown4
       have hMn3:Hid (WMem w ((bw,.cells #[.int .i64 0,.int .i64 0] 39) :: (bA,.cells #[.int .i64 kk,.int .i64 (ci:Int),.int .i64 vv] 50) :: (bu,.cells #[.bool false,.slice (some ⟨bk,0,none⟩) ((ans t).length+1) c3,.slice D3 m3 d3,.slice E3 n3 k3] 46) :: (br,.cells #[.int .i64 0,.int .i64 0] 39) :: (bt,.cells #[.int .i64 t] 3) :: (bo,.cells (obCells m) 31) :: (bc,iCells M2) :: (b1,.cells lv 34) :: (b2,fCells (fun s=>(ph s:Int))) :: (gy++gx)) ba w4 ans2 vs2):=hMg.perm (List.perm_append_comm_assoc gy [(bw,.cells #[.int .i64 0,.int .i64 0] 39),(bA,.cells #[.int .i64 kk,.int .i64 (ci:Int),.int .i64 vv] 50),(bu,.cells #[.bool false,.slice (some ⟨bk,0,none⟩) ((ans t).length+1) c3,.slice D3 m3 d3,.slice E3 n3 k3] 46),(br,.cells #[.int .i64 0,.int .i64 0] 39),(bt,.cells #[.int .i64 t] 3),(bo,.cells (obCells m) 31),(bc,iCells M2),(b1,.cells lv 34),(b2,fCells (fun s=>(ph s:Int)))] gx)
       have hgIh:=Lib.hid (And.intro hgI hl4)
       have e3:=e2.trans hx4
       clear hx4 hMn2 e2 hPl hMg hgI hl4 hI4 hown4
       refine hKK.out _ _ (hS _ e3) (fun hHeld=>?_)
       clear hKK K
       try dsimp only
       refine tkb 8 ?_
       iterate 3
        refine tkn (v:=?_) rfl (by kernel_rfl) (fun _ _ _ h=>h) (by assumption) ?_ ?_
        rotate_left
        · (intro w hSw;(try dsimp only at hSw);go_simp;try with_reducible rfl)
        try simp only [put_pack]
       refine tke ?_
       refine wpAnyH_ready (rs:=[12]) (by kernel_rfl) (by simp) ?_
       refine AllReadyH.cons rfl (fun K hKK=>?_) (AllReadyH.nil)
       go_simp
       have hMn4:=Lib.hid (hMn3.out.add ((Ext.refl w4).alloc (.cells #[.bool false,.slice none 0 0,.slice none 0 0,.slice none 0 0] 46)) (Blk.new w4 (.cells #[.bool false,.slice none 0 0,.slice none 0 0,.slice none 0 0] 46)) (Nat.le_refl _))
       have e4:=e3.alloc (.cells #[.bool false,.slice none 0 0,.slice none 0 0,.slice none 0 0] 46)
       have gO:w.heap.size<=w4.heap.size:=hMn3.out.ext.size
       clear hMn3
       refine hKK.out _ _ (hS _ e4) (fun hHeld=>?_)
       clear hKK K
       try dsimp only
       generalize hb9:w4.heap.size=bv at *
       generalize World.alloc w4 _=X4 at *
       clear hb9 e3
       have hZ:Hid (WMem w ((bv,.cells #[.bool false,.slice none 0 0,.slice none 0 0,.slice none 0 0] 46) :: (bw,.cells #[.int .i64 0,.int .i64 0] 39) :: (bA,.cells #[.int .i64 kk,.int .i64 (ci:Int),.int .i64 vv] 50) :: (bu,.cells #[.bool false,.slice (some ⟨bk,0,none⟩) ((ans t).length+1) c3,.slice D3 m3 d3,.slice E3 n3 k3] 46) :: (br,.cells #[.int .i64 0,.int .i64 0] 39) :: (bt,.cells #[.int .i64 t] 3) :: (bo,.cells (obCells m) 31) :: (bc,iCells M2) :: (b1,.cells lv 34) :: (b2,fCells (fun s=>(ph s:Int))) :: (gy++gx)) ba X4 ans2 vs2):=hMn4
       clear hMn4 e4
       have kR:=hZ.out.at_ 1 rfl
       have c_R:=kR.cells
       have f_R:=fun i=>frozen_of_heap kR i
       clear kR
       refine wpAnyH_ready (rs:=[13]) (by kernel_rfl) (by simp) ?_
       refine AllReadyH.cons rfl (fun K hKK=>?_) (AllReadyH.nil)
       go_simp
       have hZ2:Hid (WMem w ((bv,.cells #[.bool false,.slice none 0 0,.slice none 0 0,.slice none 0 0] 46) :: (bw,.cells #[.int .i64 0,.int .i64 rw] 39) :: (bA,.cells #[.int .i64 kk,.int .i64 (ci:Int),.int .i64 vv] 50) :: (bu,.cells #[.bool false,.slice (some ⟨bk,0,none⟩) ((ans t).length+1) c3,.slice D3 m3 d3,.slice E3 n3 k3] 46) :: (br,.cells #[.int .i64 0,.int .i64 0] 39) :: (bt,.cells #[.int .i64 t] 3) :: (bo,.cells (obCells m) 31) :: (bc,iCells M2) :: (b1,.cells lv 34) :: (b2,fCells (fun s=>(ph s:Int))) :: (gy++gx)) ba ((X4.setCell ⟨bw,0,none⟩ (.int .i64 0)).setCell ⟨bw,1,none⟩ (.int .i64 rw)) ans2 vs2):=(hZ.out.putAt 1 rfl gR 0 (.int .i64 0)).putAt 1 rfl gR 1 (.int .i64 rw)
       clear hZ c_R f_R
       refine hKK.out _ _ ⟨(hZ2.out.at_ 5 rfl).cells 0,((hZ2.out.at_ 8 rfl).cells t).trans hlv,(hZ2.out.kA.cells t).trans hvt⟩ (fun hHeld=>?_)
       clear hKK K
       try dsimp only
       generalize World.setCell (World.setCell X4 _ _) _ _=Y2 at *
       have kO:=hZ2.out.at_ 0 rfl
       have c_O:=kO.cells
       have f_O:=fun i=>frozen_of_heap kO i
       clear kO
       refine wpAnyH_ready (rs:=[14]) (by kernel_rfl) (by simp) ?_
       refine AllReadyH.cons rfl (fun K hKK=>?_) (AllReadyH.nil)
       go_simp
       have hZ3:Hid (WMem w ((bv,.cells #[.bool dn,.slice A4 a4 c4,.slice D4 m4' d4,.slice E4 l4.length k4] 46) :: (bw,.cells #[.int .i64 0,.int .i64 rw] 39) :: (bA,.cells #[.int .i64 kk,.int .i64 (ci:Int),.int .i64 vv] 50) :: (bu,.cells #[.bool false,.slice (some ⟨bk,0,none⟩) ((ans t).length+1) c3,.slice D3 m3 d3,.slice E3 n3 k3] 46) :: (br,.cells #[.int .i64 0,.int .i64 0] 39) :: (bt,.cells #[.int .i64 t] 3) :: (bo,.cells (obCells m) 31) :: (bc,iCells M2) :: (b1,.cells lv 34) :: (b2,fCells (fun s=>(ph s:Int))) :: (gy++gx)) ba ((((Y2.setCell ⟨bv,0,none⟩ (.bool dn)).setCell ⟨bv,1,none⟩ (.slice A4 a4 c4)).setCell ⟨bv,2,none⟩ (.slice D4 m4' d4)).setCell ⟨bv,3,none⟩ (.slice E4 l4.length k4)) ans2 vs2):=(((hZ2.out.putAt 0 rfl gO 0 (.bool dn)).putAt 0 rfl gO 1 (.slice A4 a4 c4)).putAt 0 rfl gO 2 (.slice D4 m4' d4)).putAt 0 rfl gO 3 (.slice E4 l4.length k4)
       clear hZ2 c_O f_O
       refine hKK.out _ _ ⟨(hZ3.out.at_ 5 rfl).cells 0,((hZ3.out.at_ 8 rfl).cells t).trans hlv,(hZ3.out.kA.cells t).trans hvt⟩ (fun hHeld=>?_)
       clear hKK K
       try dsimp only
       generalize World.setCell (World.setCell (World.setCell (World.setCell Y2 _ _) _ _) _ _) _ _=Y3 at *
       refine wpAnyH_done (by kernel_rfl) ?_ _
       go_simp
       go_wp2_with fail
       go_meet
       exact⟨bw,bv,A4,a4,c4,D4,m4',d4,E4,l4,k4,gy,rfl,rfl,hZ3,hgIh⟩
     · go_simp
       have hMn3:=Lib.hid (hMn2.out.add ((Ext.refl X2).alloc (.cells #[.bool false,.slice none 0 0,.slice none 0 0,.slice none 0 0] 46)) (Blk.new X2 (.cells #[.bool false,.slice none 0 0,.slice none 0 0,.slice none 0 0] 46)) (Nat.le_refl _))
       have e3:=e2.alloc (.cells #[.bool false,.slice none 0 0,.slice none 0 0,.slice none 0 0] 46)
       have gO:w.heap.size<=X2.heap.size:=hMn2.out.ext.size
       clear hMn2
       refine hKK.out _ _ (hS _ e3) (fun hHeld=>?_)
       clear hKK K
       try dsimp only
       generalize hb9:X2.heap.size=bv at *
       generalize World.alloc X2 _=X3 at *
       clear hb9 e2
       refine wpAnyH_ready (rs:=[7]) (by kernel_rfl) (by simp) ?_
       refine AllReadyH.cons rfl (fun K hKK=>?_) (AllReadyH.nil)
       go_simp
       refine (hPl _ e3).mono ?_
       rintro e w4 ⟨A4,a4,c4,D4,m4',d4,E4,l4,k4,rfl,hx4,hI4,hown4,hl4⟩
       obtain⟨gy,hMg,hgI⟩:=hMn3.out.rowAdd hx4 hI4 hown4
       have hMn4:Hid (WMem w ((bv,.cells #[.bool false,.slice none 0 0,.slice none 0 0,.slice none 0 0] 46) :: (bw,.cells #[.int .i64 0,.int .i64 0] 39) :: (bA,.cells #[.int .i64 kk,.int .i64 (ci:Int),.int .i64 vv] 50) :: (bu,.cells #[.bool false,.slice (some ⟨bk,0,none⟩) ((ans t).length+1) c3,.slice D3 m3 d3,.slice E3 n3 k3] 46) :: (br,.cells #[.int .i64 0,.int .i64 0] 39) :: (bt,.cells #[.int .i64 t] 3) :: (bo,.cells (obCells m) 31) :: (bc,iCells M2) :: (b1,.cells lv 34) :: (b2,fCells (fun s=>(ph s:Int))) :: (gy++gx)) ba w4 ans2 vs2):=hMg.perm (List.perm_append_comm_assoc gy [(bv,.cells #[.bool false,.slice none 0 0,.slice none 0 0,.slice none 0 0] 46),(bw,.cells #[.int .i64 0,.int .i64 0] 39),(bA,.cells #[.int .i64 kk,.int .i64 (ci:Int),.int .i64 vv] 50),(bu,.cells #[.bool false,.slice (some ⟨bk,0,none⟩) ((ans t).length+1) c3,.slice D3 m3 d3,.slice E3 n3 k3] 46),(br,.cells #[.int .i64 0,.int .i64 0] 39),(bt,.cells #[.int .i64 t] 3),(bo,.cells (obCells m) 31),(bc,iCells M2),(b1,.cells lv 34),(b2,fCells (fun s=>(ph s:Int)))] gx)
       have hgIh:=Lib.hid (And.intro hgI hl4)
       have e4:=e3.trans hx4
       clear hx4 hMn3 e3 hPl hMg hgI hl4 hI4 hown4
       refine hKK.out _ _ (hS _ e4) (fun hHeld=>?_)
       clear hKK K
       try dsimp only
       refine tkb 8 ?_
       iterate 3
        refine tkn (v:=?_) rfl (by kernel_rfl) (fun _ _ _ h=>h) (by assumption) ?_ ?_
        rotate_left
        · (intro w hSw;(try dsimp only at hSw);go_simp;try with_reducible rfl)
        try simp only [put_pack]
       refine tke ?_
       have hZ:Hid (WMem w ((bv,.cells #[.bool false,.slice none 0 0,.slice none 0 0,.slice none 0 0] 46) :: (bw,.cells #[.int .i64 0,.int .i64 0] 39) :: (bA,.cells #[.int .i64 kk,.int .i64 (ci:Int),.int .i64 vv] 50) :: (bu,.cells #[.bool false,.slice (some ⟨bk,0,none⟩) ((ans t).length+1) c3,.slice D3 m3 d3,.slice E3 n3 k3] 46) :: (br,.cells #[.int .i64 0,.int .i64 0] 39) :: (bt,.cells #[.int .i64 t] 3) :: (bo,.cells (obCells m) 31) :: (bc,iCells M2) :: (b1,.cells lv 34) :: (b2,fCells (fun s=>(ph s:Int))) :: (gy++gx)) ba w4 ans2 vs2):=hMn4
       clear hMn4 e4
       have kR:=hZ.out.at_ 1 rfl
       have c_R:=kR.cells
       have f_R:=fun i=>frozen_of_heap kR i
       clear kR
       refine wpAnyH_ready (rs:=[13]) (by kernel_rfl) (by simp) ?_
       refine AllReadyH.cons rfl (fun K hKK=>?_) (AllReadyH.nil)
       go_simp
       have hZ2:Hid (WMem w ((bv,.cells #[.bool false,.slice none 0 0,.slice none 0 0,.slice none 0 0] 46) :: (bw,.cells #[.int .i64 0,.int .i64 rw] 39) :: (bA,.cells #[.int .i64 kk,.int .i64 (ci:Int),.int .i64 vv] 50) :: (bu,.cells #[.bool false,.slice (some ⟨bk,0,none⟩) ((ans t).length+1) c3,.slice D3 m3 d3,.slice E3 n3 k3] 46) :: (br,.cells #[.int .i64 0,.int .i64 0] 39) :: (bt,.cells #[.int .i64 t] 3) :: (bo,.cells (obCells m) 31) :: (bc,iCells M2) :: (b1,.cells lv 34) :: (b2,fCells (fun s=>(ph s:Int))) :: (gy++gx)) ba ((w4.setCell ⟨bw,0,none⟩ (.int .i64 0)).setCell ⟨bw,1,none⟩ (.int .i64 rw)) ans2 vs2):=(hZ.out.putAt 1 rfl gR 0 (.int .i64 0)).putAt 1 rfl gR 1 (.int .i64 rw)
       clear hZ c_R f_R
       refine hKK.out _ _ ⟨(hZ2.out.at_ 5 rfl).cells 0,((hZ2.out.at_ 8 rfl).cells t).trans hlv,(hZ2.out.kA.cells t).trans hvt⟩ (fun hHeld=>?_)
       clear hKK K
       try dsimp only
       generalize World.setCell (World.setCell w4 _ _) _ _=Y2 at *
       have kO:=hZ2.out.at_ 0 rfl
       have c_O:=kO.cells
       have f_O:=fun i=>frozen_of_heap kO i
       clear kO
       refine wpAnyH_ready (rs:=[14]) (by kernel_rfl) (by simp) ?_
       refine AllReadyH.cons rfl (fun K hKK=>?_) (AllReadyH.nil)
       go_simp
       have hZ3:Hid (WMem w ((bv,.cells #[.bool dn,.slice A4 a4 c4,.slice D4 m4' d4,.slice E4 l4.length k4] 46) :: (bw,.cells #[.int .i64 0,.int .i64 rw] 39) :: (bA,.cells #[.int .i64 kk,.int .i64 (ci:Int),.int .i64 vv] 50) :: (bu,.cells #[.bool false,.slice (some ⟨bk,0,none⟩) ((ans t).length+1) c3,.slice D3 m3 d3,.slice E3 n3 k3] 46) :: (br,.cells #[.int .i64 0,.int .i64 0] 39) :: (bt,.cells #[.int .i64 t] 3) :: (bo,.cells (obCells m) 31) :: (bc,iCells M2) :: (b1,.cells lv 34) :: (b2,fCells (fun s=>(ph s:Int))) :: (gy++gx)) ba ((((Y2.setCell ⟨bv,0,none⟩ (.bool dn)).setCell ⟨bv,1,none⟩ (.slice A4 a4 c4)).setCell ⟨bv,2,none⟩ (.slice D4 m4' d4)).setCell ⟨bv,3,none⟩ (.slice E4 l4.length k4)) ans2 vs2):=(((hZ2.out.putAt 0 rfl gO 0 (.bool dn)).putAt 0 rfl gO 1 (.slice A4 a4 c4)).putAt 0 rfl gO 2 (.slice D4 m4' d4)).putAt 0 rfl gO 3 (.slice E4 l4.length k4)
       clear hZ2 c_O f_O
       refine hKK.out _ _ ⟨(hZ3.out.at_ 5 rfl).cells 0,((hZ3.out.at_ 8 rfl).cells t).trans hlv,(hZ3.out.kA.cells t).trans hvt⟩ (fun hHeld=>?_)
       clear hKK K
       try dsimp only
       generalize World.setCell (World.setCell (World.setCell (World.setCell Y2 _ _) _ _) _ _) _ _=Y3 at *
       refine wpAnyH_done (by kernel_rfl) ?_ _
       go_simp
       go_wp2_with fail
       go_meet
       exact⟨bw,bv,A4,a4,c4,D4,m4',d4,E4,l4,k4,gy,rfl,rfl,hZ3,hgIh⟩
   · go_simp
     have hMn2:=Lib.hid (hMn1.out.add ((Ext.refl Wd).alloc (.cells #[.bool false,.slice none 0 0,.slice none 0 0,.slice none 0 0] 46)) (Blk.new Wd (.cells #[.bool false,.slice none 0 0,.slice none 0 0,.slice none 0 0] 46)) (Nat.le_refl _))
     have e2:=e1.alloc (.cells #[.bool false,.slice none 0 0,.slice none 0 0,.slice none 0 0] 46)
     have gO:w.heap.size<=Wd.heap.size:=hMn1.out.ext.size
     clear hMn1
     refine hKK.out _ _ (hS _ e2) (fun hHeld=>?_)
     clear hKK K
     try dsimp only
     generalize hb9:Wd.heap.size=bv at *
     generalize World.alloc Wd _=X2 at *
     clear hb9 e1
     refine wpAnyH_ready (rs:=[7,11]) (by kernel_rfl) (by simp) ?_
     refine AllReadyH.cons rfl (fun K hKK=>?_) (AllReadyH.cons rfl (fun K hKK=>?_) (AllReadyH.nil))
     · go_simp
       refine (hPl _ e2).mono ?_
       rintro e w4 ⟨A4,a4,c4,D4,m4',d4,E4,l4,k4,rfl,hx4,hI4,hown4,hl4⟩
       obtain⟨gy,hMg,hgI⟩:=hMn2.out.rowAdd hx4 hI4 hown4
       have hMn3:Hid (WMem w ((bv,.cells #[.bool false,.slice none 0 0,.slice none 0 0,.slice none 0 0] 46) :: (bA,.cells #[.int .i64 kk,.int .i64 (ci:Int),.int .i64 vv] 50) :: (bu,.cells #[.bool false,.slice (some ⟨bk,0,none⟩) ((ans t).length+1) c3,.slice D3 m3 d3,.slice E3 n3 k3] 46) :: (br,.cells #[.int .i64 0,.int .i64 0] 39) :: (bt,.cells #[.int .i64 t] 3) :: (bo,.cells (obCells m) 31) :: (bc,iCells M2) :: (b1,.cells lv 34) :: (b2,fCells (fun s=>(ph s:Int))) :: (gy++gx)) ba w4 ans2 vs2):=hMg.perm (List.perm_append_comm_assoc gy [(bv,.cells #[.bool false,.slice none 0 0,.slice none 0 0,.slice none 0 0] 46),(bA,.cells #[.int .i64 kk,.int .i64 (ci:Int),.int .i64 vv] 50),(bu,.cells #[.bool false,.slice (some ⟨bk,0,none⟩) ((ans t).length+1) c3,.slice D3 m3 d3,.slice E3 n3 k3] 46),(br,.cells #[.int .i64 0,.int .i64 0] 39),(bt,.cells #[.int .i64 t] 3),(bo,.cells (obCells m) 31),(bc,iCells M2),(b1,.cells lv 34),(b2,fCells (fun s=>(ph s:Int)))] gx)
       have hgIh:=Lib.hid (And.intro hgI hl4)
       have e3:=e2.trans hx4
       clear hx4 hMn2 e2 hPl hMg hgI hl4 hI4 hown4
       refine hKK.out _ _ (hS _ e3) (fun hHeld=>?_)
       clear hKK K
       try dsimp only
       refine tkb 8 ?_
       iterate 3
        refine tkn (v:=?_) rfl (by kernel_rfl) (fun _ _ _ h=>h) (by assumption) ?_ ?_
        rotate_left
        · (intro w hSw;(try dsimp only at hSw);go_simp;try with_reducible rfl)
        try simp only [put_pack]
       refine tke ?_
       refine wpAnyH_ready (rs:=[11]) (by kernel_rfl) (by simp) ?_
       refine AllReadyH.cons rfl (fun K hKK=>?_) (AllReadyH.nil)
       go_simp
       have hMn4:=Lib.hid (hMn3.out.add ((Ext.refl w4).alloc (.cells #[.int .i64 0,.int .i64 0] 39)) (Blk.new w4 (.cells #[.int .i64 0,.int .i64 0] 39)) (Nat.le_refl _))
       have e4:=e3.alloc (.cells #[.int .i64 0,.int .i64 0] 39)
       have gR:w.heap.size<=w4.heap.size:=hMn3.out.ext.size
       clear hMn3
       refine hKK.out _ _ (hS _ e4) (fun hHeld=>?_)
       clear hKK K
       try dsimp only
       generalize hb9:w4.heap.size=bw at *
       generalize World.alloc w4 _=X4 at *
       clear hb9 e3
       have hZ:Hid (WMem w ((bv,.cells #[.bool false,.slice none 0 0,.slice none 0 0,.slice none 0 0] 46) :: (bw,.cells #[.int .i64 0,.int .i64 0] 39) :: (bA,.cells #[.int .i64 kk,.int .i64 (ci:Int),.int .i64 vv] 50) :: (bu,.cells #[.bool false,.slice (some ⟨bk,0,none⟩) ((ans t).length+1) c3,.slice D3 m3 d3,.slice E3 n3 k3] 46) :: (br,.cells #[.int .i64 0,.int .i64 0] 39) :: (bt,.cells #[.int .i64 t] 3) :: (bo,.cells (obCells m) 31) :: (bc,iCells M2) :: (b1,.cells lv 34) :: (b2,fCells (fun s=>(ph s:Int))) :: (gy++gx)) ba X4 ans2 vs2):=hMn4.out.perm (List.Perm.swap _ _ _)
       clear hMn4 e4
       have kR:=hZ.out.at_ 1 rfl
       have c_R:=kR.cells
       have f_R:=fun i=>frozen_of_heap kR i
       clear kR
       refine wpAnyH_ready (rs:=[13]) (by kernel_rfl) (by simp) ?_
       refine AllReadyH.cons rfl (fun K hKK=>?_) (AllReadyH.nil)
       go_simp
       have hZ2:Hid (WMem w ((bv,.cells #[.bool false,.slice none 0 0,.slice none 0 0,.slice none 0 0] 46) :: (bw,.cells #[.int .i64 0,.int .i64 rw] 39) :: (bA,.cells #[.int .i64 kk,.int .i64 (ci:Int),.int .i64 vv] 50) :: (bu,.cells #[.bool false,.slice (some ⟨bk,0,none⟩) ((ans t).length+1) c3,.slice D3 m3 d3,.slice E3 n3 k3] 46) :: (br,.cells #[.int .i64 0,.int .i64 0] 39) :: (bt,.cells #[.int .i64 t] 3) :: (bo,.cells (obCells m) 31) :: (bc,iCells M2) :: (b1,.cells lv 34) :: (b2,fCells (fun s=>(ph s:Int))) :: (gy++gx)) ba ((X4.setCell ⟨bw,0,none⟩ (.int .i64 0)).setCell ⟨bw,1,none⟩ (.int .i64 rw)) ans2 vs2):=(hZ.out.putAt 1 rfl gR 0 (.int .i64 0)).putAt 1 rfl gR 1 (.int .i64 rw)
       clear hZ c_R f_R
       refine hKK.out _ _ ⟨(hZ2.out.at_ 5 rfl).cells 0,((hZ2.out.at_ 8 rfl).cells t).trans hlv,(hZ2.out.kA.cells t).trans hvt⟩ (fun hHeld=>?_)
       clear hKK K
       try dsimp only
       generalize World.setCell (World.setCell X4 _ _) _ _=Y2 at *
       have kO:=hZ2.out.at_ 0 rfl
       have c_O:=kO.cells
       have f_O:=fun i=>frozen_of_heap kO i
       clear kO
       refine wpAnyH_ready (rs:=[14]) (by kernel_rfl) (by simp) ?_
       refine AllReadyH.cons rfl (fun K hKK=>?_) (AllReadyH.nil)
       go_simp
       have hZ3:Hid (WMem w ((bv,.cells #[.bool dn,.slice A4 a4 c4,.slice D4 m4' d4,.slice E4 l4.length k4] 46) :: (bw,.cells #[.int .i64 0,.int .i64 rw] 39) :: (bA,.cells #[.int .i64 kk,.int .i64 (ci:Int),.int .i64 vv] 50) :: (bu,.cells #[.bool false,.slice (some ⟨bk,0,none⟩) ((ans t).length+1) c3,.slice D3 m3 d3,.slice E3 n3 k3] 46) :: (br,.cells #[.int .i64 0,.int .i64 0] 39) :: (bt,.cells #[.int .i64 t] 3) :: (bo,.cells (obCells m) 31) :: (bc,iCells M2) :: (b1,.cells lv 34) :: (b2,fCells (fun s=>(ph s:Int))) :: (gy++gx)) ba ((((Y2.setCell ⟨bv,0,none⟩ (.bool dn)).setCell ⟨bv,1,none⟩ (.slice A4 a4 c4)).setCell ⟨bv,2,none⟩ (.slice D4 m4' d4)).setCell ⟨bv,3,none⟩ (.slice E4 l4.length k4)) ans2 vs2):=(((hZ2.out.putAt 0 rfl gO 0 (.bool dn)).putAt 0 rfl gO 1 (.slice A4 a4 c4)).putAt 0 rfl gO 2 (.slice D4 m4' d4)).putAt 0 rfl gO 3 (.slice E4 l4.length k4)
       clear hZ2 c_O f_O
       refine hKK.out _ _ ⟨(hZ3.out.at_ 5 rfl).cells 0,((hZ3.out.at_ 8 rfl).cells t).trans hlv,(hZ3.out.kA.cells t).trans hvt⟩ (fun hHeld=>?_)
       clear hKK K
       try dsimp only
       generalize World.setCell (World.setCell (World.setCell (World.setCell Y2 _ _) _ _) _ _) _ _=Y3 at *
       refine wpAnyH_done (by kernel_rfl) ?_ _
       go_simp
       go_wp2_with fail
       go_meet
       exact⟨bw,bv,A4,a4,c4,D4,m4',d4,E4,l4,k4,gy,rfl,rfl,hZ3,hgIh⟩
     · go_simp
       have hMn3:=Lib.hid (hMn2.out.add ((Ext.refl X2).alloc (.cells #[.int .i64 0,.int .i64 0] 39)) (Blk.new X2 (.cells #[.int .i64 0,.int .i64 0] 39)) (Nat.le_refl _))
       have e3:=e2.alloc (.cells #[.int .i64 0,.int .i64 0] 39)
       have gR:w.heap.size<=X2.heap.size:=hMn2.out.ext.size
       clear hMn2
       refine hKK.out _ _ (hS _ e3) (fun hHeld=>?_)
       clear hKK K
       try dsimp only
       generalize hb9:X2.heap.size=bw at *
       generalize World.alloc X2 _=X3 at *
       clear hb9 e2
       refine wpAnyH_ready (rs:=[7]) (by kernel_rfl) (by simp) ?_
       refine AllReadyH.cons rfl (fun K hKK=>?_) (AllReadyH.nil)
       go_simp
       refine (hPl _ e3).mono ?_
       rintro e w4 ⟨A4,a4,c4,D4,m4',d4,E4,l4,k4,rfl,hx4,hI4,hown4,hl4⟩
       obtain⟨gy,hMg,hgI⟩:=hMn3.out.rowAdd hx4 hI4 hown4
       have hMn4:Hid (WMem w ((bw,.cells #[.int .i64 0,.int .i64 0] 39) :: (bv,.cells #[.bool false,.slice none 0 0,.slice none 0 0,.slice none 0 0] 46) :: (bA,.cells #[.int .i64 kk,.int .i64 (ci:Int),.int .i64 vv] 50) :: (bu,.cells #[.bool false,.slice (some ⟨bk,0,none⟩) ((ans t).length+1) c3,.slice D3 m3 d3,.slice E3 n3 k3] 46) :: (br,.cells #[.int .i64 0,.int .i64 0] 39) :: (bt,.cells #[.int .i64 t] 3) :: (bo,.cells (obCells m) 31) :: (bc,iCells M2) :: (b1,.cells lv 34) :: (b2,fCells (fun s=>(ph s:Int))) :: (gy++gx)) ba w4 ans2 vs2):=hMg.perm (List.perm_append_comm_assoc gy [(bw,.cells #[.int .i64 0,.int .i64 0] 39),(bv,.cells #[.bool false,.slice none 0 0,.slice none 0 0,.slice none 0 0] 46),(bA,.cells #[.int .i64 kk,.int .i64 (ci:Int),.int .i64 vv] 50),(bu,.cells #[.bool false,.slice (some ⟨bk,0,none⟩) ((ans t).length+1) c3,.slice D3 m3 d3,.slice E3 n3 k3] 46),(br,.cells #[.int .i64 0,.int .i64 0] 39),(bt,.cells #[.int .i64 t] 3),(bo,.cells (obCells m) 31),(bc,iCells M2),(b1,.cells lv 34),(b2,fCells (fun s=>(ph s:Int)))] gx)
       have hgIh:=Lib.hid (And.intro hgI hl4)
       have e4:=e3.trans hx4
       clear hx4 hMn3 e3 hPl hMg hgI hl4 hI4 hown4
       refine hKK.out _ _ (hS _ e4) (fun hHeld=>?_)
       clear hKK K
       try dsimp only
       refine tkb 8 ?_
       iterate 3
        refine tkn (v:=?_) rfl (by kernel_rfl) (fun _ _ _ h=>h) (by assumption) ?_ ?_
        rotate_left
        · (intro w hSw;(try dsimp only at hSw);go_simp;try with_reducible rfl)
        try simp only [put_pack]
       refine tke ?_
       have hZ:Hid (WMem w ((bv,.cells #[.bool false,.slice none 0 0,.slice none 0 0,.slice none 0 0] 46) :: (bw,.cells #[.int .i64 0,.int .i64 0] 39) :: (bA,.cells #[.int .i64 kk,.int .i64 (ci:Int),.int .i64 vv] 50) :: (bu,.cells #[.bool false,.slice (some ⟨bk,0,none⟩) ((ans t).length+1) c3,.slice D3 m3 d3,.slice E3 n3 k3] 46) :: (br,.cells #[.int .i64 0,.int .i64 0] 39) :: (bt,.cells #[.int .i64 t] 3) :: (bo,.cells (obCells m) 31) :: (bc,iCells M2) :: (b1,.cells lv 34) :: (b2,fCells (fun s=>(ph s:Int))) :: (gy++gx)) ba w4 ans2 vs2):=hMn4.out.perm (List.Perm.swap _ _ _)
       clear hMn4 e4
       have kR:=hZ.out.at_ 1 rfl
       have c_R:=kR.cells
       have f_R:=fun i=>frozen_of_heap kR i
       clear kR
       refine wpAnyH_ready (rs:=[13]) (by kernel_rfl) (by simp) ?_
       refine AllReadyH.cons rfl (fun K hKK=>?_) (AllReadyH.nil)
       go_simp
       have hZ2:Hid (WMem w ((bv,.cells #[.bool false,.slice none 0 0,.slice none 0 0,.slice none 0 0] 46) :: (bw,.cells #[.int .i64 0,.int .i64 rw] 39) :: (bA,.cells #[.int .i64 kk,.int .i64 (ci:Int),.int .i64 vv] 50) :: (bu,.cells #[.bool false,.slice (some ⟨bk,0,none⟩) ((ans t).length+1) c3,.slice D3 m3 d3,.slice E3 n3 k3] 46) :: (br,.cells #[.int .i64 0,.int .i64 0] 39) :: (bt,.cells #[.int .i64 t] 3) :: (bo,.cells (obCells m) 31) :: (bc,iCells M2) :: (b1,.cells lv 34) :: (b2,fCells (fun s=>(ph s:Int))) :: (gy++gx)) ba ((w4.setCell ⟨bw,0,none⟩ (.int .i64 0)).setCell ⟨bw,1,none⟩ (.int .i64 rw)) ans2 vs2):=(hZ.out.putAt 1 rfl gR 0 (.int .i64 0)).putAt 1 rfl gR 1 (.int .i64 rw)
       clear hZ c_R f_R
       refine hKK.out _ _ ⟨(hZ2.out.at_ 5 rfl).cells 0,((hZ2.out.at_ 8 rfl).cells t).trans hlv,(hZ2.out.kA.cells t).trans hvt⟩ (fun hHeld=>?_)
       clear hKK K
       try dsimp only
       generalize World.setCell (World.setCell w4 _ _) _ _=Y2 at *
       have kO:=hZ2.out.at_ 0 rfl
       have c_O:=kO.cells
       have f_O:=fun i=>frozen_of_heap kO i
       clear kO
       refine wpAnyH_ready (rs:=[14]) (by kernel_rfl) (by simp) ?_
       refine AllReadyH.cons rfl (fun K hKK=>?_) (AllReadyH.nil)
       go_simp
       have hZ3:Hid (WMem w ((bv,.cells #[.bool dn,.slice A4 a4 c4,.slice D4 m4' d4,.slice E4 l4.length k4] 46) :: (bw,.cells #[.int .i64 0,.int .i64 rw] 39) :: (bA,.cells #[.int .i64 kk,.int .i64 (ci:Int),.int .i64 vv] 50) :: (bu,.cells #[.bool false,.slice (some ⟨bk,0,none⟩) ((ans t).length+1) c3,.slice D3 m3 d3,.slice E3 n3 k3] 46) :: (br,.cells #[.int .i64 0,.int .i64 0] 39) :: (bt,.cells #[.int .i64 t] 3) :: (bo,.cells (obCells m) 31) :: (bc,iCells M2) :: (b1,.cells lv 34) :: (b2,fCells (fun s=>(ph s:Int))) :: (gy++gx)) ba ((((Y2.setCell ⟨bv,0,none⟩ (.bool dn)).setCell ⟨bv,1,none⟩ (.slice A4 a4 c4)).setCell ⟨bv,2,none⟩ (.slice D4 m4' d4)).setCell ⟨bv,3,none⟩ (.slice E4 l4.length k4)) ans2 vs2):=(((hZ2.out.putAt 0 rfl gO 0 (.bool dn)).putAt 0 rfl gO 1 (.slice A4 a4 c4)).putAt 0 rfl gO 2 (.slice D4 m4' d4)).putAt 0 rfl gO 3 (.slice E4 l4.length k4)
       clear hZ2 c_O f_O
       refine hKK.out _ _ ⟨(hZ3.out.at_ 5 rfl).cells 0,((hZ3.out.at_ 8 rfl).cells t).trans hlv,(hZ3.out.kA.cells t).trans hvt⟩ (fun hHeld=>?_)
       clear hKK K
       try dsimp only
       generalize World.setCell (World.setCell (World.setCell (World.setCell Y2 _ _) _ _) _ _) _ _=Y3 at *
       refine wpAnyH_done (by kernel_rfl) ?_ _
       go_simp
       go_wp2_with fail
       go_meet
       exact⟨bw,bv,A4,a4,c4,D4,m4',d4,E4,l4,k4,gy,rfl,rfl,hZ3,hgIh⟩
   -- dev]
  case rest =>
  obtain⟨bw,bv,A4,a4,c4,D4,m4',d4,E4,l4,k4,gy,rfl,rfl,hM9,hgIh⟩:=hcut
  clear hM8 hPl hS hlv hvt
  cases dn with
  | false =>
    have hI3:Hid (OnInv m D (j+1) pc' ph ones ov F' X' M2 ans2):=by
     rcases hnxh.out with⟨q1,q2⟩ | ⟨v,q1,_⟩
     · exact q2
     · rw [hrvh.out.1] at q1
       injection q1 with q1
       have:=hrvh.out.2.1
       rw [q1] at this
       cases this
    have hlo2:Hid (OnLoc lv ph (gy++gx)):=hlo.out.mono fun q hq=>List.mem_append_right _ hq
    have hM5:=Lib.hid (hM9.out.less (fy:=((bo,.cells (obCells m) 31) :: (bc,iCells M2) :: (b1,.cells lv 34) :: (b2,fCells (fun s=>(ph s:Int))) :: (gy++gx))) ((((((List.Sublist.refl _).cons _).cons _).cons _).cons _).cons _ |>.cons _))
    have c_O:=(hM9.out.at_ 0 rfl).cells
    clear hM9 hnxh hrvh hh2 hgIh hlo
    go_wp2_with fail
    refine⟨⟨j+1,pc',ph,ones,ov,F',X',M2,ans2,vs2,lv,gy++gx,by first | rfl | go_num,by first | rfl | go_num,by first | rfl | go_num,by omega,hI3,hlo2,hp2,hM5⟩,?_⟩
    simp [intOf]
    omega
  | true =>
    obtain⟨v,hv0,hv1,hv2,hv3,hI3⟩:∃ v:Nat,rw=(v:Int)/\v<=1/\(ph t=0->v=0->ov=true)/\Hid (v=1->S2.loc=(TS0 [1] []).loc)/\Hid (OnInv m D (j+1) pc' (fun s=>if s=t then 2-v else ph s) (ones+v) ov F' X' M2 (fun s=>if s=t then [] else ans2 s)):=by
     rcases hnxh.out with⟨q1,_⟩ | ⟨v,q1,q2,q3,q4,q5⟩
     · rw [hrvh.out.1] at q1
       injection q1 with q1
       have:=hrvh.out.2.1
       rw [q1] at this
       cases this
     · rw [hrvh.out.1] at q1
       injection q1 with q1
       refine⟨v,?_,q2,q3,q4,q5⟩
       rw [<- hrvh.out.2.2,q1]
       rfl
    subst hv0
    clear hnxh hrvh
    have c_O:=(hM9.out.at_ 0 rfl).cells
    have c_R:=(hM9.out.at_ 1 rfl).cells
    have c_T:wc.cell? ⟨bt,0,none⟩=some (.int .i64 t):=(hM9.out.at_ 5 rfl).cells 0
    have c_P:wc.cell? ⟨b2,t,none⟩=some (.int .i64 (ph t:Int)):=((hM9.out.at_ 9 rfl).cells t).trans (fours_at ht4)
    go_upto_region 27 with fail
    go_cut [156] (fun s156 wx=>s156=.bool false/\wx=wc)
    case first =>
     have hv2h:=Lib.hid hv2
     obtain⟨q,hq⟩:∃ q,ph t=q:=⟨_,rfl⟩
     rw [hq] at c_P hp1 hv2h
     clear hv2 hq
     obtain rfl | rfl:q=0∨q=1:=by omega
     · obtain rfl | rfl:v=0∨v=1:=by omega
       · have ho:=hv2h.out rfl rfl
         subst ho
         clear hv2h
         go_wp2_with fail
         go_meet
         exact⟨rfl,rfl⟩
       · clear hv2h
         go_wp2_with fail
         go_meet
         exact⟨rfl,rfl⟩
     · clear hv2h
       go_wp2_with fail
       go_meet
       exact⟨rfl,rfl⟩
    case rest =>
    obtain⟨rfl,rfl⟩:=hcut
    have hfA:wc.frozen? ⟨ba,t,none⟩=false:=frozen_of_heap hM9.out.kA t
    obtain⟨u5,c_A⟩:∃ u5,wc.cell? ⟨ba,t,none⟩=some u5:=by
     obtain⟨A6,c6,q1,_⟩:=hM9.out.row ht4
     exact⟨_,(hM9.out.kA.cells t).trans q1⟩
    go_upto_region 30 with fail
    have hMa:=Lib.hid (hM9.out.clear t)
    clear hM9 c_O c_R c_T c_P c_A hfA
    generalize World.setCell wc _ _=Wa at *
    have c_O:=(hMa.out.at_ 0 rfl).cells
    have c_T:Wa.cell? ⟨bt,0,none⟩=some (.int .i64 t):=(hMa.out.at_ 5 rfl).cells 0
    have k1:=hMa.out.at_ 8 rfl
    have hf1:Wa.frozen? ⟨b1,t,none⟩=false:=frozen_of_heap k1 t
    obtain⟨E,kE,hlv,_⟩:=hlo.out.2 t ht4 hph
    have c_L:Wa.cell? ⟨b1,t,none⟩=some (.slice E (onL (ph t)).length kE):=(k1.cells t).trans hlv
    clear k1 hlv
    go_upto_region 31 with fail
    have hMb:=Lib.hid (hMa.out.putAt 8 rfl hgeh.out.2.2.2.1 t (.slice E4 l4.length k4))
    clear hMa c_O c_T hf1 c_L
    generalize World.setCell Wa _ _=Wb at *
    have c_R:=(hMb.out.at_ 1 rfl).cells
    have c_T:Wb.cell? ⟨bt,0,none⟩=some (.int .i64 t):=(hMb.out.at_ 5 rfl).cells 0
    have k2:=hMb.out.at_ 9 rfl
    have c_P:Wb.cell? ⟨b2,t,none⟩=some (.int .i64 (ph t:Int)):=(k2.cells t).trans (fours_at ht4)
    have hf2:Wb.frozen? ⟨b2,t,none⟩=false:=frozen_of_heap k2 t
    have hw2:=IntWalk.i64_in (2-(v:Int)) (by omega)
    clear k2
    go_upto_region 32 with fail
    have hMc:=Lib.hid (hMb.out.setF 9 rfl hgeh.out.2.2.2.2 ht4 (2-(v:Int)))
    clear hMb c_R c_T c_P hf2 hw2
    generalize World.setCell Wb _ _=Wc at *
    obtain⟨ph3,hp3⟩:∃ f:Nat->Nat,f=(fun s=>if s=t then 2-v else ph s):=⟨_,rfl⟩
    have h3t:ph3 t=2-v:=by rw [hp3];exact if_pos rfl
    have h3s:∀ s,s≠t->ph3 s=ph s:=fun s hs=>by rw [hp3];exact if_neg hs
    rw [<- hp3] at hI3
    have hp32:Hid (∀ s,ph3 s<=2):=Lib.hid fun s=>by
     rw [hp3]
     dsimp only
     split
     · omega
     · exact hp2.out s
    have hMd:Hid (WMem w ((bv,.cells #[.bool true,.slice A4 a4 c4,.slice D4 m4' d4,.slice E4 l4.length k4] 46) :: (bw,.cells #[.int .i64 0,.int .i64 (v:Int)] 39) :: (bA,.cells #[.int .i64 kk,.int .i64 (ci:Int),.int .i64 vv] 50) :: (bu,.cells #[.bool false,.slice (some ⟨bk,0,none⟩) ((ans t).length+1) c3,.slice D3 m3 d3,.slice E3 n3 k3] 46) :: (br,.cells #[.int .i64 0,.int .i64 0] 39) :: (bt,.cells #[.int .i64 t] 3) :: (bo,.cells (obCells m) 31) :: (bc,iCells M2) :: (b1,.cells (lv.setIfInBounds t (.slice E4 l4.length k4)) 34) :: (b2,fCells (fun s=>(ph3 s:Int))) :: (gy++gx)) ba Wc (fun s=>if s=t then [] else ans2 s) (vs2.setIfInBounds t (.slice none 0 0))):=by
     have h:=hMc.out
     have e2:fours (putF (fun s=>(ph s:Int)) t (2-(v:Int)))=fours (fun s=>(ph3 s:Int)):=fours_same fun s _=>by
      unfold putF
      by_cases e:s=t
      · rw [if_pos e,e,h3t];omega
      · rw [if_neg e,h3s s e]
     simp only [List.set_cons_succ,List.set_cons_zero] at h
     unfold fCells at h ⊢
     rw [e2] at h
     exact h
    have hlo3:Hid (OnLoc (lv.setIfInBounds t (.slice E4 l4.length k4)) ph3 (gy++gx)):=by
     have hlo':=hlo.out
     refine⟨by rw [Array.size_setIfInBounds];exact hlo'.1,fun s hs hps=>?_⟩
     by_cases e:s=t
     · subst e
       have hv:v=1:=by rw [h3t] at hps;omega
       have hl4:=hgIh.out.2 (hv3.out hv)
       have h1:ph3 s=1:=by rw [h3t];omega
       rw [h1]
       refine⟨E4,k4,?_,fun W hq=>?_⟩
       · rw [Array.getElem?_setIfInBounds_self_of_lt (by rw [hlo'.1];omega),hl4]
         rfl
       · have h:=hgIh.out.1 W fun q hqy=>hq q (List.mem_append_left _ hqy)
         rw [hl4] at h
         exact h
     · rw [h3s s e] at hps ⊢
       obtain⟨E5,k5,q1,q2⟩:=hlo'.2 s hs hps
       exact⟨E5,k5,by rw [Array.getElem?_setIfInBounds_ne (Ne.symm e)];exact q1,fun W hq=>q2 W fun q hqx=>hq q (List.mem_append_right _ hqx)⟩
    have hM5:=Lib.hid (hMd.out.less (fy:=((bo,.cells (obCells m) 31) :: (bc,iCells M2) :: (b1,.cells (lv.setIfInBounds t (.slice E4 l4.length k4)) 34) :: (b2,fCells (fun s=>(ph3 s:Int))) :: (gy++gx))) ((((((List.Sublist.refl _).cons _).cons _).cons _).cons _).cons _ |>.cons _))
    have c_R:=(hMd.out.at_ 1 rfl).cells
    have hwo:=IntWalk.i64_in ((ones:Int)+(v:Int)) (by have:=hI3.out.s.ob;omega)
    clear hMc hMd hp3 h3t h3s hv3 hh2 hgIh hlo hp2
    go_wp2_with fail
    refine⟨⟨j+1,pc',ph3,ones+v,ov,F',X',M2,_,_,lv.setIfInBounds t (.slice E4 l4.length k4),gy++gx,by first | rfl | go_num,by first | rfl | go_num,by first | rfl | go_num,by omega,hI3,hlo3,hp32,hM5⟩,?_⟩
    simp [intOf]
    omega
end Go.Proofs.YtmmmiplmiooioaaGreat
namespace Go.Proofs.YtmmmiplmiooioaaGreat.onceOne
open Go.ChangeShapes Go.WideShapes Go.ChangeAt Go.RowKit Kv
set_option maxRecDepth 100000 in
theorem main (H:Type)(enc:TypeId × Value->H)(W:World)(base:Nat)(args:Array Value)(ds:List (DataW H))(p:List MemPlace)
  (hval:∀ (j:Nat) t v,Tryz.f3.params[j]?=some t->args[j]?=some v->Value.okWide Tryz.prog W .any base t v)
  (hA:DataW.TrodAll enc Tryz.prog W 0 (fun _=>true) true Tryz.f3.params.toList args.toList ds p)(_hL:laidMetH Tryz.prog Rows.onceOneRow.laid W) :
  Calls Tryz.prog 3 args W fun e w'=>e=.returned (.bool true)/\Ext W w':=by
 rw [Tryz.params3] at hA hval
 obtain⟨v0,vs0,d0,ds0,p0,q0,hargs,rfl,rfl,h0,r0⟩:=trodAll_cons hA
 obtain⟨v1,vs1,d1,ds1,p1,q1,rfl,rfl,rfl,h1,r1⟩:=trodAll_cons r0
 obtain⟨rfl,rfl,rfl⟩:=trodAll_nil r1
 obtain rfl:args=#[v0,v1]:=by cases args;simp_all
 obtain⟨s,rfl,rfl,rfl,ws⟩:=open_int Tryz.underlying5 (hval 0 5 v0 rfl rfl) h0
 have hs:=bounds_u8 ws
 obtain⟨La,hLa,hLb⟩:=bytes_arg (hval 1 22 v1 rfl rfl) h1
 obtain⟨n,rfl⟩:∃ n:Nat,s=(n:Int):=⟨s.toNat,by omega⟩
 exact on_walk n v1 La W (by omega) hLa hLb
end Go.Proofs.YtmmmiplmiooioaaGreat.onceOne
namespace Go.Proofs.YtmmmiplmiooioaaGreat.onceOne
open Go.ChangeShapes Go.WideShapes Go.ChangeAt Go.RowKit
theorem laidOut:laidOutB Tryz.prog=true:=by kernel_rfl
set_option maxRecDepth 100000 in
theorem contract (H:Type)(enc:TypeId × Value->H)(W:World)(base:Nat)(args:Array Value)(ds gs:List (DataW H))(before:List MemPlace)
  (hval:∀ (j:Nat) t v,Tryz.f3.params[j]?=some t->args[j]?=some v->Value.okWide Tryz.prog W .any base t v)
  (hW:DataW.Whole enc Tryz.prog Tryz.f3.params.toList Rows.onceOneSpec.vars false W args.toList ds gs before)(hL:laidMetH Tryz.prog Rows.onceOneRow.laid W) :
  Calls Tryz.prog 3 args W fun e W'=>∃ v,e=.returned v/\Rows.onceOneSpec.post enc Tryz.prog Tryz.f3 false true false false W args v W':=by
 refine (main H enc W base args ds before hval (by obtain⟨p,q,hA,hV,hpq,_,_⟩:=hW;obtain⟨_,rfl⟩:=trodVars_none hV;rw [List.append_nil] at hpq;subst hpq;exact hA) hL).mono fun e W' ⟨he,hg⟩=>⟨_,he,?_⟩
 refine law_post (tb:=4) laidOut ?_ (by kernel_rfl) Tryz.underlying4 rfl ?_ hW hg
 · rw [Tryz.params3]
   intro t ht
   simp only [List.mem_cons,List.not_mem_nil,or_false] at ht
   rcases ht with rfl | rfl <;> exact⟨by kernel_rfl,of_decide_eq_true (by kernel_rfl)⟩
 · intro ds hl
   rw [Tryz.params3] at hl
   match ds,hl with
   | [d0,d1],_=>rfl
set_option maxRecDepth 100000 in
theorem laid_met (os:Os):laidMet Tryz.prog Rows.onceOneRow.laid (((World.holding Tryz.prog os ⟨#[],#[],[]⟩)).forCall (fun _ _=>0) ⟨#[],#[.int .u8 0,.slice none 0 0],[]⟩).memory :=
 laidMet_of_run' 8 (by kernel_rfl) (by kernel_rfl)
set_option maxRecDepth 100000 in
theorem reads (os:Os){H:Type}(enc:TypeId × Value->H):∃ places,DataW.whole enc Tryz.prog (((World.holding Tryz.prog os ⟨#[],#[],[]⟩)).forCall (fun _ _=>0) ⟨#[],#[.int .u8 0,.slice none 0 0],[]⟩).memory Tryz.f3.params.toList Rows.onceOneSpec.vars false (#[.int .u8 0,.slice none 0 0]:Array Value).toList 8=some ([.lit (.int .u8 0),.nil],[],places) :=
 ⟨[],by kernel_rfl⟩
set_option maxRecDepth 100000 in
theorem lifted (os:Os)(started:os.Started)(H:Type)(enc:TypeId × Value->H)(F:Stop.Interp) :
  ReturnsInHanded {} Tryz.checked os 3 .any ((OpenSpec.ofChange Rows.onceOneSpec).preRow enc Tryz.prog Tryz.f3 Rows.onceOneRow.domain false Rows.onceOneRow.laid) (((OpenSpec.ofChange Rows.onceOneSpec).at F).post enc Tryz.prog Tryz.f3 false true false false):=by
 obtain⟨places,hx⟩:=reads os enc
 refine returnsInHanded_of_row (C:=Tryz.checked) (s:=(OpenSpec.ofChange Rows.onceOneSpec)) own started (by kernel_rfl) Tryz.func3
  (witness_row_at (enc:=enc) (C:=Tryz.checked) false (World.holding Tryz.prog os ⟨#[],#[],[]⟩) #[.int .u8 0,.slice none 0 0] rfl (by kernel_rfl) (by kernel_rfl) (by kernel_rfl)
    (OpenSpec.preRow_of_cond 8 hx (by kernel_rfl) (fun k hk=>by cases hk) (by kernel_rfl) (laid_met os))) ?_
 intro W base args ds gs before hval hW _ _ _ hL _ _
 exact contract H enc W base args ds gs before hval hW hL
theorem c1:(Rows.onceOneRow.inPlace==Tryz.pinned.checked.prog.inPlace 3)=true:=by kernel_rfl
theorem c2:(Rows.onceOneRow.unfollowed==Tryz.pinned.checked.prog.unfollowed 3)=true:=by kernel_rfl
theorem c3:(Rows.onceOneRow.recurses==Tryz.pinned.checked.prog.recurses 3)=true:=by kernel_rfl
theorem c4:(Rows.onceOneRow.named==Tryz.pinned.checked.prog.varsNamed 3)=true:=by kernel_rfl
theorem closed:joinedFacts Tryz.pinned.checked.prog 3 Tryz.f3 (OpenSpec.ofChange Rows.onceOneSpec).bare Rows.onceOneRow=true:=by
 unfold joinedFacts
 simp only [Bool.and_eq_true]
 repeat' refine And.intro ?_ ?_
 all_goals first | with_reducible exact c1 | with_reducible exact c2 | with_reducible exact c3 | with_reducible exact c4 | kernel_rfl
theorem said:Rows.OnceOneSaid :=
 OpenClaim.holds_of_cond 3 Tryz.f3 rfl rfl rfl rfl rfl rfl rfl ⟨rfl,rfl,rfl,rfl,rfl⟩ rfl rfl rfl rfl rfl (by kernel_rfl) Tryz.func3 closed
  (of_decide_eq_true (by kernel_rfl)) (by unfold Func.isWrapper;first | (rw [if_pos (by decide +kernel)];kernel_rfl) | (rw [if_neg (by decide +kernel)];exact⟨rfl,rfl⟩))
  (fun os started H enc _ F=>by rw [OpenClaim.pre_eq_preRow];exact lifted os started H enc F)
end Go.Proofs.YtmmmiplmiooioaaGreat.onceOne
