/-
  YangOne holds: at any paces, on atomic cells, no two are in at once, each of up to four threads once, or again and again, without conditions.
-/
import Derived.Test.YtbphlkaihfbgeaaJYangOneSaid5
import Derived.Deep.RegionLaw
import Derived.Deep.AppendLies
import Derived.Deep.RegionHeld2
import Derived.Deep.DeepCutAuto
namespace Go.Proofs.Ytbphlkaihfbgeaa
open Go.RowKit Kv
set_option maxRecDepth 100000 in
set_option maxHeartbeats 4000000 in
theorem yang_walk (n:Nat)(vP:Value)(Ls:List Int)(w:World)(hn:n<256)(hL:U8s w vP Ls)(hLb:∀ x∈Ls,0<=x/\x<256) :
  Calls Try.prog 9 #[.int .u8 n,vP] w fun e w'=>e=.returned (.bool true)/\Ext w w':=by
 have hmf:∀ (fn:Fn) (first cap:Array Value) (w:World),(Instr.makeFunc fn first cap).run Try.prog w=.ok (.func fn first cap) w:=fun _ _ _ _=>rfl
 obtain⟨m,hm⟩:∃ m:Nat,1+(n:Int) % 4=m:=⟨1+n % 4,by omega⟩
 have m1:1<=m:=by omega
 have m4:m<=4:=by omega
 obtain⟨AL,cL,rfl,z1,z2⟩:∃ A c,vP=.slice A Ls.length c/\Ls.length<=c/\c<=9223372036854775807:=by
  obtain⟨A,c,e,q1,q2,_⟩:=hL
  exact⟨A,c,e,q1,q2⟩
 go_enter Try.func9,Try.ntmps9
 by_cases hl:500<Ls.length
 · have d1:decide ((500:Int)<(Ls.length:Int))=true:=by rw [decide_eq_true_eq];omega
   go_wp2_with fail
   refine (alive47 _).mono ?_
   rintro e w7 ⟨rfl,hx7⟩
   have hf:=Lib.hid hx7
   clear hx7
   go_wp2_with fail
   go_ret
   exact⟨rfl,hf.out⟩
 have d1:decide ((500:Int)<(Ls.length:Int))=false:=by rw [decide_eq_false_iff_not];omega
 go_upto_region 4 with fail
 have bN:=Blk.new w (.cells #[.int .i64 m] 3)
 have hX:=(Ext.refl w).alloc (.cells #[.int .i64 m] 3)
 generalize hbn:w.heap.size=bn at *
 generalize World.alloc w _=V0 at *
 have hS:∀ w',Ext V0 w'->w'.cell? ⟨bn,0,none⟩=some (.int .i64 m):=fun w' hx=>(bN.ext hx).cells 0
 have hWp:∀ W,Calls Try.prog 48 #[.int .i64 m] W fun e w'=>∃ A k c,e=.returned (.slice A k c)/\Ext W w'/\∀ W2,Ext w' W2->Calls Try.prog 21 #[.slice A k c,.int .i64 m,.int .i64 1] W2 fun e w'=>∃ A c rs,e=.returned (.slice A rs.length c)/\YAll rs m/\YNat rs/\rs.length<=c/\c<=9223372036854775807/\Ext W2 w'/\(rs≠[]->∃ b,A=some ⟨b,0,none⟩/\b<w'.heap.size/\(∀ (i:Nat) u,(rs.flatMap regVals)[i]?=some u->w'.cell? ⟨b,i,none⟩=some u)):=fun W=>by
  refine (yallw_p m W m1 (by omega)).mono ?_
  rintro e w1 ⟨v1,rfl,hW,hx⟩
  obtain⟨A,c,rfl,z⟩:=id hW
  refine⟨A,_,c,rfl,hx,fun W2 hx2=>(yang_some m _ W2 (hW.ext hx2) m1 (by omega)).mono ?_⟩
  rintro e w' ⟨A,c,rs,rfl,q1,q2,q3,q4,q5,q6⟩
  refine⟨A,c,rs,rfl,q1,q2,q3,q4,q5,fun hne=>?_⟩
  obtain⟨b,e1,_,e2,e3⟩:=q6 hne
  exact⟨b,e1,e2,e3⟩
 have hWph:=Lib.hid hWp
 go_cut [6] (fun s6 wx=>∃ bl A c rs,s6=.pointer (some ⟨bl,0,none⟩)/\YAll rs m/\YNat rs/\rs.length<=c/\c<=9223372036854775807/\Ext V0 wx/\V0.heap.size<=bl/\Blk wx bl (.cells #[.slice A rs.length c] 44)/\(rs≠[]->∃ b,A=some ⟨b,0,none⟩/\b<wx.heap.size/\(∀ (i:Nat) u,(rs.flatMap regVals)[i]?=some u->wx.cell? ⟨b,i,none⟩=some u)))
 case first =>
  -- [dev
  have hWh:=Lib.hid hWp
  clear hWp
  refine wp_region_held_drew (S:=fun w'=>w'.cell? ⟨bn,0,none⟩=some (.int .i64 m)) rfl (hS _ (Ext.refl _).drew) (fun hHeld=>?_)
  refine tk 0 (v:=?_) rfl (by kernel_rfl) (fun _ _ _ h=>h) (by assumption) ?_ ?_
  rotate_left
  · (intro w hSw;(try dsimp only at hSw);go_simp;try with_reducible rfl)
  try simp only [put_pack]
  refine tk 2 (v:=?_) rfl (by kernel_rfl) (fun _ _ _ h=>h) (by assumption) ?_ ?_
  rotate_left
  · (intro w hSw;(try dsimp only at hSw);go_simp;try with_reducible rfl)
  try simp only [put_pack]
  refine wpAnyH_ready (rs:=[1,4]) (by kernel_rfl) (by simp) ?_
  refine AllReadyH.cons rfl (fun K hKK=>?_) (AllReadyH.cons rfl (fun K hKK=>?_) (AllReadyH.nil))
  · go_simp
    refine (hWh.out _).mono ?_
    rintro e w1 ⟨A,k,c0,rfl,hx1,hs1⟩
    have hx1d:=(Ext.refl V0).drew.trans hx1
    refine hKK.out _ _ (hS _ hx1d) (fun hHeld=>?_)
    clear hKK K
    try dsimp only
    refine wpAnyH_ready (rs:=[3,4]) (by kernel_rfl) (by simp) ?_
    refine AllReadyH.cons rfl (fun K hKK=>?_) (AllReadyH.cons rfl (fun K hKK=>?_) (AllReadyH.nil))
    · go_simp
      refine (hs1 _ (Ext.refl _)).mono ?_
      rintro e w2 ⟨A,c,rs,rfl,he,hy,u1,u2,hx2,hreg⟩
      have hx3:=hx1d.trans hx2
      refine hKK.out _ _ (hS _ hx3) (fun hHeld=>?_)
      clear hKK K
      try dsimp only
      have hz:=Blk.new w2 (.cells #[.slice none 0 0] 44)
      have hxq:=hx3.alloc (.cells #[.slice none 0 0] 44)
      have hVz:V0.heap.size<=w2.heap.size:=hx3.size
      replace hreg:=fun hne:rs≠[]=>(hreg hne).imp fun b hb=>show A=some ⟨b,0,none⟩/\b<(w2.alloc (.cells #[.slice none 0 0] 44)).heap.size/\(∀ (i:Nat) u,(rs.flatMap regVals)[i]?=some u->(w2.alloc (.cells #[.slice none 0 0] 44)).cell? ⟨b,i,none⟩=some u) from ⟨hb.1,by have:=hb.2.1;simp;omega,fun i u hu=>(((Ext.refl w2).alloc (.cells #[.slice none 0 0] 44)).cell (p:=⟨b,i,none⟩) hb.2.1).trans (hb.2.2 i u hu)⟩
      refine wpAnyH_ready (rs:=[4]) (by kernel_rfl) (by simp) ?_
      refine AllReadyH.cons rfl (fun K hKK=>?_) (AllReadyH.nil)
      go_simp
      generalize w2.heap.size=bl at *
      generalize World.alloc w2 _=wq at *
      refine hKK.out _ _ (hS _ hxq) (fun hHeld=>?_)
      clear hKK K
      try dsimp only
      have c_hz:=hz.cells 0
      have hfz:=frozen_of_heap hz 0
      refine wpAnyH_ready (rs:=[5]) (by kernel_rfl) (by simp) ?_
      refine AllReadyH.cons rfl (fun K hKK=>?_) (AllReadyH.nil)
      simp only [List.getElem?_toArray,List.getElem?_cons_zero] at c_hz
      go_simp
      clear c_hz hfz
      obtain⟨z1,z2⟩:=box_end (v:=.slice A rs.length c) hz hxq hVz
      have hreg2:=fun hne:rs≠[]=>(hreg hne).imp fun b hb=>show A=some ⟨b,0,none⟩/\b<_/\_ from ⟨hb.1,(lay_end (v:=.slice A rs.length c) hz hxq hVz hb.2.1 hne hb.2.2).2.2⟩
      refine hKK.out _ _ (hS _ z1) (fun hHeld=>?_)
      clear hKK K
      try dsimp only
      refine wpAnyH_done (by kernel_rfl) ?_ _
      go_simp
      go_wp2_with fail
      go_meet
      exact⟨_,A,c,rs,rfl,he,hy,u1,u2,z1,hVz,z2,hreg2⟩
    · go_simp
      have hz:=Blk.new w1 (.cells #[.slice none 0 0] 44)
      have hxq:=hx1d.alloc (.cells #[.slice none 0 0] 44)
      have hs2:=hs1 _ ((Ext.refl w1).alloc (.cells #[.slice none 0 0] 44))
      have hVz:V0.heap.size<=w1.heap.size:=hx1d.size
      generalize w1.heap.size=bl at *
      generalize World.alloc w1 _=wq at *
      refine hKK.out _ _ (hS _ hxq) (fun hHeld=>?_)
      clear hKK K
      try dsimp only
      refine wpAnyH_ready (rs:=[3]) (by kernel_rfl) (by simp) ?_
      refine AllReadyH.cons rfl (fun K hKK=>?_) (AllReadyH.nil)
      go_simp
      refine (hs2).mono ?_
      rintro e w2 ⟨A,c,rs,rfl,he,hy,u1,u2,hx2,hreg⟩
      have hx3:=hxq.trans hx2
      refine hKK.out _ _ (hS _ hx3) (fun hHeld=>?_)
      clear hKK K
      try dsimp only
      replace hz:=hz.ext hx2
      replace hxq:=hx3
      have c_hz:=hz.cells 0
      have hfz:=frozen_of_heap hz 0
      refine wpAnyH_ready (rs:=[5]) (by kernel_rfl) (by simp) ?_
      refine AllReadyH.cons rfl (fun K hKK=>?_) (AllReadyH.nil)
      simp only [List.getElem?_toArray,List.getElem?_cons_zero] at c_hz
      go_simp
      clear c_hz hfz
      obtain⟨z1,z2⟩:=box_end (v:=.slice A rs.length c) hz hxq hVz
      have hreg2:=fun hne:rs≠[]=>(hreg hne).imp fun b hb=>show A=some ⟨b,0,none⟩/\b<_/\_ from ⟨hb.1,(lay_end (v:=.slice A rs.length c) hz hxq hVz hb.2.1 hne hb.2.2).2.2⟩
      refine hKK.out _ _ (hS _ z1) (fun hHeld=>?_)
      clear hKK K
      try dsimp only
      refine wpAnyH_done (by kernel_rfl) ?_ _
      go_simp
      go_wp2_with fail
      go_meet
      exact⟨_,A,c,rs,rfl,he,hy,u1,u2,z1,hVz,z2,hreg2⟩
  · go_simp
    have hz:Blk ((World.drew V0).alloc (.cells #[.slice none 0 0] 44)) V0.heap.size (.cells #[.slice none 0 0] 44):=Blk.new (World.drew V0) (.cells #[.slice none 0 0] 44)
    have hxq:=(Ext.refl V0).drew.alloc (.cells #[.slice none 0 0] 44)
    have hVz:V0.heap.size<=V0.heap.size:=Nat.le_refl _
    refine hKK.out _ _ (hS _ hxq) (fun hHeld=>?_)
    clear hKK K
    try dsimp only
    refine wpAnyH_ready (rs:=[1]) (by kernel_rfl) (by simp) ?_
    refine AllReadyH.cons rfl (fun K hKK=>?_) (AllReadyH.nil)
    go_simp
    refine (hWh.out _).mono ?_
    rintro e w1 ⟨A,k,c0,rfl,hx1,hs1⟩
    replace hz:=hz.ext hx1
    replace hxq:=hxq.trans hx1
    refine hKK.out _ _ (hS _ hxq) (fun hHeld=>?_)
    clear hKK K
    try dsimp only
    refine wpAnyH_ready (rs:=[3]) (by kernel_rfl) (by simp) ?_
    refine AllReadyH.cons rfl (fun K hKK=>?_) (AllReadyH.nil)
    go_simp
    refine (hs1 _ (Ext.refl _)).mono ?_
    rintro e w2 ⟨A,c,rs,rfl,he,hy,u1,u2,hx2,hreg⟩
    have hx3:=hxq.trans hx2
    refine hKK.out _ _ (hS _ hx3) (fun hHeld=>?_)
    clear hKK K
    try dsimp only
    replace hz:=hz.ext hx2
    replace hxq:=hx3
    have c_hz:=hz.cells 0
    have hfz:=frozen_of_heap hz 0
    refine wpAnyH_ready (rs:=[5]) (by kernel_rfl) (by simp) ?_
    refine AllReadyH.cons rfl (fun K hKK=>?_) (AllReadyH.nil)
    simp only [List.getElem?_toArray,List.getElem?_cons_zero] at c_hz
    go_simp
    clear c_hz hfz
    obtain⟨z1,z2⟩:=box_end (v:=.slice A rs.length c) hz hxq hVz
    have hreg2:=fun hne:rs≠[]=>(hreg hne).imp fun b hb=>show A=some ⟨b,0,none⟩/\b<_/\_ from ⟨hb.1,(lay_end (v:=.slice A rs.length c) hz hxq hVz hb.2.1 hne hb.2.2).2.2⟩
    refine hKK.out _ _ (hS _ z1) (fun hHeld=>?_)
    clear hKK K
    try dsimp only
    refine wpAnyH_done (by kernel_rfl) ?_ _
    go_simp
    go_wp2_with fail
    go_meet
    exact⟨_,A,c,rs,rfl,he,hy,u1,u2,z1,hVz,z2,hreg2⟩
  -- dev]
 case rest =>
 obtain⟨bl,A,c,rs,rfl,he,hy,u1,u2,hx0,hVl,kL,hreg⟩:=hcut
 clear hWp hS
 have kN:=bN.ext hx0
 have hX2:=hX.trans hx0
 clear hX bN hx0 hVl
 obtain⟨KN,hK⟩:∃ KN,(2 ^ levels m-1)*(m+3)=KN:=⟨_,rfl⟩
 have hrl:rs.length=KN:=by rw [he.len];exact hK
 have hK77:KN<=77:=by
  have:=yAllW_le (n:=m) (by omega)
  rw [yAllW_len,hK] at this
  exact this
 have hreg0:=Lib.hid hreg
 have heh:=Lib.hid he
 have hyh:=Lib.hid hy
 have hc1h:Hid (rs.length<=c):=Lib.hid u1
 have hc2h:Hid (c<=9223372036854775807):=Lib.hid u2
 have hrlh:=Lib.hid hrl
 have hKh:=Lib.hid hK
 rw [hrl] at kL
 clear hreg he hy u1 u2 hrl hK
 have hAl:∀ W,Calls Try.prog 48 #[.int .i64 m] W fun e w'=>∃ A c,e=.returned (.slice A KN c)/\Ext W w':=fun W=>by
  refine (yallw_p m W m1 (by omega)).mono ?_
  rintro e w1 ⟨v1,rfl,⟨A,c,rfl,_⟩,hx⟩
  refine⟨A,c,?_,hx⟩
  rw [yAllW_len,hKh.out]
 have hAlh:=Lib.hid hAl
 clear hAl
 go_upto_region 5 with fail
 have c_N:wc.drew.cell? ⟨bn,0,none⟩=some (.int .i64 m):=kN.cells 0
 have c_L:wc.drew.cell? ⟨bl,0,none⟩=some (.slice A KN c):=kL.cells 0
 refine wp_region_held_drew (S:=fun w'=>w'.cell? ⟨bn,0,none⟩=some (.int .i64 m)/\w'.cell? ⟨bl,0,none⟩=some (.slice A KN c)) rfl ⟨c_N,c_L⟩ (fun hHeld=>?_)
 refine tkb 0 ?_
 iterate 3
  refine tkn (v:=?_) rfl (by kernel_rfl) (fun _ _ _ h=>h) (by assumption) ?_ ?_
  rotate_left
  · (intro w hSw;(try dsimp only at hSw);go_simp;try with_reducible rfl)
  try simp only [put_pack]
 refine tke ?_
 refine wpAnyH_ready (rs:=[3]) (by kernel_rfl) (by simp) ?_
 refine AllReadyH.cons rfl (fun K hKK=>?_) (AllReadyH.nil)
 go_simp
 refine (hAlh.out _).mono ?_
 rintro e w5 ⟨A5,c5,rfl,hx5⟩
 replace hx5:=(Ext.refl wc).drew.trans hx5
 replace kN:=kN.ext hx5
 replace kL:=kL.ext hx5
 have hreg1:=Lib.hid fun hne:rs≠[]=>(hreg0.out hne).imp fun b hb=>show A=some ⟨b,0,none⟩/\b<w5.heap.size/\(∀ (i:Nat) u,(rs.flatMap regVals)[i]?=some u->w5.cell? ⟨b,i,none⟩=some u) from ⟨hb.1,Nat.lt_of_lt_of_le hb.2.1 hx5.size,fun i u hu=>(hx5.cell (p:=⟨b,i,none⟩) hb.2.1).trans (hb.2.2 i u hu)⟩
 replace hX2:=hX2.trans hx5
 refine hKK.out _ _ ⟨kN.cells 0,kL.cells 0⟩ (fun hHeld=>?_)
 clear hKK c_N c_L hx5 hreg0 hAlh
 try dsimp only
 refine tk 4 (v:=?_) rfl (by kernel_rfl) (fun _ _ _ h=>h) (by assumption) ?_ ?_
 rotate_left
 · (intro w hSw;(try dsimp only at hSw);go_simp;try with_reducible rfl)
 try simp only [put_pack]
 refine tk 5 (v:=?_) rfl (by kernel_rfl) (fun _ _ _ h=>h) (by assumption) ?_ ?_
 rotate_left
 · (intro w hSw;(try dsimp only at hSw);go_simp;try with_reducible rfl)
 try simp only [put_pack]
 refine wpAnyH_done (by kernel_rfl) ?_ _
 go_simp
 have c_N:w5.cell? ⟨bn,0,none⟩=some (.int .i64 m):=kN.cells 0
 have c_L:w5.cell? ⟨bl,0,none⟩=some (.slice A KN c):=kL.cells 0
 have hmk:=fun W=>make_ints ((KN:Int)+3) (KN+3) (by omega) (by omega) W
 have w1:=IntWalk.i64_in ((KN:Int)+3) (by omega)
 have hKne:((KN:Int) != (KN:Int))=false:=by simp
 go_upto_region 10 with fail
 clear c_N c_L hmk w1 hKne hHeld
 have hM:QMem w5 bn bl w5.heap.size (w5.heap.size+1) (w5.heap.size+1+1) (.cells #[.int .i64 m] 3) (.cells #[.slice A KN c] 44) (((w5.alloc (.cells ((zeros (KN+3)).map (Value.int .i64)).toArray 3)).alloc (.cells #[.slice none 0 0,.slice none 0 0,.slice none 0 0,.slice none 0 0] 58)).alloc (.cells #[.int .i64 0,.int .i64 0,.int .i64 0,.int .i64 0] 50)) (zeros (KN+3)) (fun _=>0) (fun _=>[]) (Array.replicate 4 (.slice none 0 0)):=by
  have l1:=kN.lt
  have l2:=kL.lt
  have l3:bn≠bl:=fun e=>by
   have q1:=kN.cells 0
   rw [e,kL.cells 0] at q1
   cases q1
  refine⟨(((Ext.refl w5).alloc _).alloc _).alloc _,((kN.alloc _).alloc _).alloc _,((kL.alloc _).alloc _).alloc _,((Blk.new w5 _).alloc _).alloc _,?_,?_,ARows.start _ _ _ (by simp;omega) 4,⟨l1,l2⟩,by omega,by omega⟩
  · have h:=(Blk.new (w5.alloc (.cells ((zeros (KN+3)).map (Value.int .i64)).toArray 3)) (.cells #[.slice none 0 0,.slice none 0 0,.slice none 0 0,.slice none 0 0] 58)).alloc (.cells #[.int .i64 0,.int .i64 0,.int .i64 0,.int .i64 0] 50)
    simp only [World.size_alloc] at h
    exact h
  · have h:=Blk.new ((w5.alloc (.cells ((zeros (KN+3)).map (Value.int .i64)).toArray 3)).alloc (.cells #[.slice none 0 0,.slice none 0 0,.slice none 0 0,.slice none 0 0] 58)) (.cells #[.int .i64 0,.int .i64 0,.int .i64 0,.int .i64 0] 50)
    simp only [World.size_alloc] at h
    exact h
 clear kN kL
 generalize hbc:w5.heap.size=bc at hM ⊢
 generalize hba:bc+1=ba at *
 generalize hbp:ba+1=bp at *
 generalize World.alloc (World.alloc (World.alloc w5 _) _) _=W0 at *
 clear hbc hba hbp
 obtain⟨w0,hw0⟩:∃ w0,w0=w5:=⟨_,rfl⟩
 subst hw0
 obtain⟨OL,hOL⟩:∃ OL:Obj,OL=(.cells #[.slice A KN c] 44):=⟨_,rfl⟩
 obtain⟨ON,hON⟩:∃ ON:Obj,ON=(.cells #[.int .i64 m] 3):=⟨_,rfl⟩
 rw [<- hOL,<- hON] at hM
 have hOLh:=Lib.hid hOL
 have hONh:=Lib.hid hON
 have hLh:=Lib.hid hL
 have hLbh:=Lib.hid hLb
 have hXh:=Lib.hid hX2
 obtain⟨D,hD⟩:∃ D:Nat,D=600:=⟨_,rfl⟩
 have hDh:=Lib.hid hD
 have hI0:=Lib.hid (YOne.start m D m1 (by omega) (by omega) (zeros (KN+3)) (by unfold zeros;rw [<- hKh.out]))
 clear hOL hON hL hLb hX2 hD
 go_wp2_with fail
 go_loopw [10] (fun a10 wr=>∃ (j:Nat) (ph:Nat->Nat) (M:List Int) (ans:Nat->List Int) (vs:Array Value),a10=.int .i64 j/\j<=Ls.length/\Hid (YOne m D j ph M ans)/\Hid (QMem w0 bn bl bc ba bp ON OL wr M (fun t=>(ph t:Int)) ans vs)) (fun a10 _=>Ls.length-(intOf a10).toNat)
 case atStart =>
  refine⟨0,_,_,_,Array.replicate 4 (.slice none 0 0),rfl,by omega,hI0,?_⟩
  exact hM
 case round =>
  clear hM hI0
  obtain⟨j,ph,M,ans,vs,rfl,hj,hI,hM⟩:=hrel
  by_cases hjl:j<Ls.length
  rotate_left
  · have dj:decide ((j:Int)<(Ls.length:Int))=false:=by rw [decide_eq_false_iff_not];omega
    have hE1:=Lib.hid (hXh.out.trans hM.out.ext)
    clear hM hI
    go_wp2_with fail
    refine (alive47 _).mono ?_
    rintro e w7 ⟨rfl,hx7⟩
    have hf:=Lib.hid (hE1.out.trans hx7)
    clear hx7
    go_wp2_with fail
    first | exact⟨rfl,hf.out⟩ | (go_ret;exact⟨rfl,hf.out⟩) | (go_ret2;exact⟨rfl,hf.out⟩)
  have dj:decide ((j:Int)<(Ls.length:Int))=true:=by rw [decide_eq_true_eq];omega
  obtain⟨x,hx⟩:∃ x,Ls[j]?=some x:=⟨_,List.getElem?_eq_getElem hjl⟩
  obtain⟨bq,oq,rfl,hbq,hcx0⟩:=hLh.out.at_ hx
  have hcx:=((hM.out.ext.cell (p:=⟨bq,oq+j,none⟩) (Nat.lt_of_lt_of_le hbq hXh.out.size)).trans (hXh.out.cell (p:=⟨bq,oq+j,none⟩) hbq)).trans hcx0
  clear hcx0
  have hxb:=hLbh.out x (List.mem_of_getElem? hx)
  obtain⟨y,rfl⟩:∃ y:Nat,x=y:=⟨x.toNat,by omega⟩
  obtain⟨t,htt⟩:∃ t:Nat,((y:Int)).tmod (m:Int)=t:=⟨(((y:Int)).tmod (m:Int)).toNat,by
   have:=Int.tmod_nonneg (m:Int) (show (0:Int)<=y by omega)
   omega⟩
  have htm:t<m:=by
   have:=Int.tmod_lt_of_pos (y:Int) (show (0:Int)<m by omega)
   omega
  have hm0:¬ m=0:=by omega
  have hwy:=IntWalk.i64_in (y:Int) (by omega)
  have c_N:wr.cell? ⟨bn,0,none⟩=some (.int .i64 m):=by have h:=hM.out.kN;rw [hONh.out] at h;exact h.cells 0
  have c_Nd:wr.drew.cell? ⟨bn,0,none⟩=some (.int .i64 m):=by have h:=hM.out.kN;rw [hONh.out] at h;exact h.cells 0
  go_upto_region 13 with fail
  have hS:(wr.drew.cell? ⟨bq,oq+j,none⟩=some (.int .u8 y))/\wr.drew.cell? ⟨bn,0,none⟩=some (.int .i64 m):=⟨hcx,c_Nd⟩
  have hlt:=(Array.getElem?_eq_some_iff.1 (show wr.heap[bn]?=_ from hM.out.kN)).1
  go_cut [11] (fun s11 wx=>∃ bz,s11=.pointer (some ⟨bz,0,none⟩)/\wr.heap.size<=bz/\Ext wr wx/\Blk wx bz (.cells #[.int .i64 t] 3))
  case first =>
   -- [dev
   have hbq':bq<wr.heap.size:=Nat.lt_of_lt_of_le (Nat.lt_of_lt_of_le hbq hXh.out.size) hM.out.ext.size
   refine wp_region_held_drew (S:=fun w'=>w'.cell? ⟨bq,oq+j,none⟩=some (.int .u8 y)/\w'.cell? ⟨bn,0,none⟩=some (.int .i64 m)) rfl hS (fun hHeld=>?_)
   clear c_N c_Nd hcx hM hI
   refine tkb 0 ?_
   iterate 7
    refine tkn (v:=?_) rfl (by kernel_rfl) (fun _ _ _ h=>h) (by assumption) ?_ ?_
    rotate_left
    · (intro w hSw;(try dsimp only at hSw);go_simp;try with_reducible rfl)
    try simp only [put_pack]
   refine tke ?_
   refine wpAnyH_ready (rs:=[7]) (by kernel_rfl) (by simp) ?_
   refine AllReadyH.cons rfl (fun K hKK=>?_) (AllReadyH.nil)
   go_simp
   have hz:Blk ((wr.alloc (.cells #[.int .i64 0] 3)).drew) wr.heap.size (.cells #[.int .i64 0] 3):=(Blk.new wr (.cells #[.int .i64 0] 3)).ext (Ext.refl _).drew
   have hxq:=((Ext.refl wr).alloc (.cells #[.int .i64 0] 3)).drew
   generalize hbz:wr.heap.size=bz at *
   generalize World.drew (World.alloc wr _)=wq at *
   refine hKK.out _ _ ⟨(hxq.cell (p:=⟨bq,oq+j,none⟩) (hbz▸hbq')).trans hS.1,(hxq.cell (p:=⟨bn,0,none⟩) (hbz▸hlt)).trans hS.2⟩ (fun hHeld=>?_)
   clear hKK K
   try dsimp only
   obtain⟨z1,z2⟩:=box_end (v:=.int .i64 t) hz hxq (by omega)
   have c_hz:=hz.cells 0
   have hfz:=frozen_of_heap hz 0
   refine wpAnyH_ready (rs:=[8]) (by kernel_rfl) (by simp) ?_
   refine AllReadyH.cons rfl (fun K hKK=>?_) (AllReadyH.nil)
   simp only [List.getElem?_toArray,List.getElem?_cons_zero] at c_hz
   go_simp
   clear c_hz hfz
   refine hKK.out _ _ ⟨(z1.cell (p:=⟨bq,oq+j,none⟩) (hbz▸hbq')).trans hS.1,(z1.cell (p:=⟨bn,0,none⟩) (hbz▸hlt)).trans hS.2⟩ (fun hHeld=>?_)
   clear hKK K
   try dsimp only
   refine wpAnyH_done (by kernel_rfl) ?_ _
   go_simp
   go_wp2_with fail
   go_meet
   exact⟨bz,rfl,Nat.le_refl _,z1,z2⟩
   -- dev]
  case rest =>
  obtain⟨bz,rfl,hbz,hxz,bT⟩:=hcut
  have hvz0:Hid (∀ v,vs[t]?=some v->v.ownBlock≠some bz):=fun v h1 h2=>(hM.out.rows.more hbz).off t v _ h1 h2 (by simp)
  have gT:bc<bz/\ba<bz/\bp<bz:=⟨by have:=hM.out.kC.lt;omega,by have:=hM.out.kA.lt;omega,by have:=hM.out.kP.lt;omega⟩
  have hM1:=Lib.hid (hM.out.keep hxz)
  clear hM hxz hcx htt c_N c_Nd hS hlt hbz
  have ht4:t<4:=by omega
  have ht4i:(t:Int)<4:=by omega
  have c_T:wc.cell? ⟨bz,0,none⟩=some (.int .i64 t):=bT.cells 0
  have c_P:wc.cell? ⟨bp,t,none⟩=some (.int .i64 (ph t:Int)):=by
   rw [hM1.out.kP.cells t]
   exact fours_at ht4
  have hfP:wc.frozen? ⟨bp,t,none⟩=false:=frozen_of_heap hM1.out.kP t
  go_upto_if 55 with fail
  go_cut [] (fun wx=>∃ ph':Nat->Nat,ph' t≠1/\Hid (YOne m D j ph' M ans)/\Hid (QMem w0 bn bl bc ba bp ON OL wx M (fun s=>(ph' s:Int)) ans vs)/\Blk wx bz (.cells #[.int .i64 t] 3))
  case first =>
   by_cases hp1:ph t=1
   · have dp:((ph t:Int)==1)=true:=by rw [beq_iff_eq];omega
     have hI2:=Lib.hid (hI.out.begin2 (by rw [hDh.out];omega) htm hp1)
     have hM2:=Lib.hid (hM1.out.setP ht4 2)
     have bT2:=Lib.hid (blk_ne (b':=bp) (i:=t) bT (by omega) (.int .i64 2))
     clear hI hM1 bT hp1
     go_wp2_with fail
     go_meet
     refine⟨_,?_,hI2,hM2.out.same fun s _=>?_,bT2.out⟩
     · rw [putN_self];decide
     · by_cases e:s=t
       · subst e;rw [putN_self];simp [putF]
       · rw [putN_ne e];simp [putF,e]
   · have dp:((ph t:Int)==1)=false:=by rw [beq_eq_false_iff_ne];omega
     have hI2:=Lib.hid hI.out
     have bT2:=Lib.hid bT
     have hp:=Lib.hid hp1
     clear hI bT hp1
     go_wp2_with fail
     go_meet
     exact⟨ph,hp.out,hI2,hM1,bT2.out⟩
  case rest =>
  clear hM1 bT c_T c_P hfP hI
  obtain⟨ph2,hp1,hI,hM1,bT⟩:=hcut
  clear ph
  have c_T:wc.cell? ⟨bz,0,none⟩=some (.int .i64 t):=bT.cells 0
  have hlen:=(hI.out.small t htm).2
  have hph2:=(hI.out.small t htm).1
  have hlM:=hI.out.len
  rw [hKh.out] at hlM
  obtain⟨A1,c5,hvt,hIn,hrow⟩:=hM1.out.rows.ints ht4
  have c_A:wc.cell? ⟨ba,t,none⟩=some (.slice A1 (ans t).length c5):=(hM1.out.kA.cells t).trans hvt
  have hcl:=Lib.hid fun (al:List Int) (hal:al.length<D) (hta:TameA (TS0 [] al)) (W0':World) (hM:QMem w0 bn bl bc ba bp ON OL W0' M (fun s=>(ph2 s:Int)) ans vs)=>True.intro
  clear hcl
  have hPl:=play_int 53 #[.pointer (some ⟨bp,0,none⟩),.pointer (some ⟨bz,0,none⟩),.pointer (some ⟨bl,0,none⟩),.pointer (some ⟨bn,0,none⟩)] (yOp D rs m t (ph2 t)) none 0 [] A1 c5 (ans t) wc (Ints.nil _) (by simp) hIn (by unfold maxAns;omega) (fun k hk=>(own_ge hrow hk).2) (fun _ _=>rfl) (fun W p hxW hP=>yangcl _ p m t (ph2 t) D _ A c bl bn bz bp rs W hP (fun hne=>by
    obtain⟨b,e1,e2,e3⟩:=hreg1.out hne
    exact⟨b,e1,regsP e2 e3 (hM1.out.ext.trans hxW) hP hM1.out.ext.size⟩) heh.out m1 m4 htm hc1h.out hc2h.out (hI.out.tame t) (by unfold TS.left TS0;simp;rw [hDh.out];omega) (by have h:=hM1.out.kL.ext hxW;rw [hOLh.out] at h;rw [hrlh.out];exact h.cells 0) (by have h:=hM1.out.kN.ext hxW;rw [hONh.out] at h;exact h.cells 0) ((bT.ext hxW).cells 0) (((hM1.out.kP.ext hxW).cells t).trans (fours_at ht4)))
  rcases hI.out.pick hyh.out heh.out (by omega) htm hp1 (by rw [hDh.out];omega) with⟨S2,hr1,hnext⟩ | ⟨kk,ci,vv,yv,M2,S1,l1,hr1,hacc,hl1,hci,hkk,hyv,hyb,S2,rv,dn,hr2,hdn,hnext⟩
  · rw [hr1] at hPl
    simp only [Option.getD_some,Option.isSome_some] at hPl
    have hnxt:=Lib.hid hnext
    clear hnext hr1 hI
    go_wp2_with fail
    refine hPl.mono ?_
    clear hPl
    rintro e w3 ⟨v3,rfl,hO,hx3⟩
    obtain⟨A3,c3,D3,d3,E3,k3,n3,rfl⟩:=hO.parts
    have hxo:=hx3.alloc (.cells #[.bool true,.slice A3 S2.acc.length c3,.slice D3 S2.nts.length d3,.slice E3 n3 k3] 30)
    have hM5:=Lib.hid (hM1.out.keep hxo)
    have bT5:=bT.ext hxo
    have bO5:=Blk.new w3 (.cells #[.bool true,.slice A3 S2.acc.length c3,.slice D3 S2.nts.length d3,.slice E3 n3 k3] 30)
    clear hx3 hO hM1 bT c_T c_A hIn hrow hxo hvt
    generalize hb9:w3.heap.size=bo at *
    go_upto_region 18 with fail
    generalize World.alloc w3 _=W5 at *
    clear hb9
    have c_O:=bO5.cells
    obtain⟨ph3,hph3⟩:∃ f,f=putN ph2 t ((ph2 t+1) % 3):=⟨_,rfl⟩
    have hp3:Hid (ph3 t=(ph2 t+1) % 3):=Lib.hid (by rw [hph3,putN_self])
    have hothh:Hid (∀ s,s≠t->ph3 s=ph2 s):=Lib.hid fun s hs=>by rw [hph3,putN_ne hs]
    have hI4:Hid (YOne m D (j+1) ph3 M (fun s=>if s=t then [] else ans s)):=Lib.hid (by rw [hph3];exact hnxt.out)
    clear hph3 hnxt
    have c_T:W5.cell? ⟨bz,0,none⟩=some (.int .i64 t):=bT5.cells 0
    have hfA:W5.frozen? ⟨ba,t,none⟩=false:=frozen_of_heap hM5.out.kA t
    obtain⟨u5,c_A⟩:∃ u5,W5.cell? ⟨ba,t,none⟩=some u5:=by
     obtain⟨A6,c6,q1,_⟩:=hM5.out.rows.ints ht4
     exact⟨_,(hM5.out.kA.cells t).trans q1⟩
    go_upto_region 30 with fail
    have hM6:=Lib.hid (hM5.out.clear t)
    have bT6:=blk_ne (b':=ba) (i:=t) bT5 (by omega) (.slice none 0 0)
    clear hM5 bT5 bO5 c_T hfA c_A c_O
    generalize World.setCell W5 _ _=W6 at *
    have c_T:(World.drew W6).cell? ⟨bz,0,none⟩=some (.int .i64 t):=bT6.cells 0
    have c_P:(World.drew W6).cell? ⟨bp,t,none⟩=some (.int .i64 (ph2 t:Int)):=(hM6.out.kP.cells t).trans (fours_at ht4)
    have hfP:(World.drew W6).frozen? ⟨bp,t,none⟩=false:=frozen_of_heap hM6.out.kP t
    obtain⟨q,hq⟩:∃ q:Nat,ph2 t=q:=⟨_,rfl⟩
    have hq2:q<=2:=by omega
    rw [hq] at c_P
    have hwq:=IntWalk.i64_in ((q:Int)+1) (by omega)
    have htq:((q:Int)+1).tmod 3=(ph3 t:Int):=by
     rw [hp3.out,hq,Int.tmod_eq_emod_of_nonneg (by omega)]
     omega
    refine wp_region_held_drew (S:=fun w'=>w'.cell? ⟨bz,0,none⟩=some (.int .i64 t)) rfl c_T (fun hHeld=>?_)
    refine tkb 0 ?_
    iterate 3
     refine tkn (v:=?_) rfl (by kernel_rfl) (fun _ _ _ h=>h) (by assumption) ?_ ?_
     rotate_left
     · (intro w hSw;(try dsimp only at hSw);go_simp;try with_reducible rfl)
     try simp only [put_pack]
    refine tke ?_
    refine wpAnyH_ready (rs:=[3]) (by kernel_rfl) (by simp) ?_
    refine AllReadyH.cons rfl (fun K hKK=>?_) (AllReadyH.nil)
    go_simp
    refine hKK.out _ _ c_T (fun hHeld=>?_)
    clear hKK K
    try dsimp only
    refine tkb 4 ?_
    iterate 3
     refine tkn (v:=?_) rfl (by kernel_rfl) (fun _ _ _ h=>h) (by assumption) ?_ ?_
     rotate_left
     · (intro w hSw;(try dsimp only at hSw);go_simp;try with_reducible rfl)
     try simp only [put_pack]
    refine tke ?_
    refine wpAnyH_ready (rs:=[7]) (by kernel_rfl) (by simp) ?_
    refine AllReadyH.cons rfl (fun K hKK=>?_) (AllReadyH.nil)
    go_simp
    have hM7:Hid (QMem w0 bn bl bc ba bp ON OL ((W6.setCell ⟨bp,t,none⟩ (.int .i64 (ph3 t:Int))).drew) M (fun s=>(ph3 s:Int)) (fun s=>if s=t then [] else ans s) (vs.setIfInBounds t (.slice none 0 0))):=by
     refine ((hM6.out.setP ht4 (ph3 t:Int)).keep (Ext.refl _).drew).same fun s _=>?_
     by_cases e:s=t
     · rw [e];simp [putF]
     · rw [hothh.out s e];simp [putF,e]
    have bT7:Blk ((W6.setCell ⟨bp,t,none⟩ (.int .i64 (ph3 t:Int))).drew) bz (.cells #[.int .i64 t] 3):=blk_ne (b':=bp) (i:=t) bT6 (by omega) _
    generalize World.drew (World.setCell W6 _ _)=W7 at *
    refine hKK.out _ _ (bT7.cells 0) (fun hHeld=>?_)
    clear hKK K c_T c_P hfP hM6 bT6
    try dsimp only
    refine wpAnyH_done (by kernel_rfl) ?_ _
    go_simp
    have c_T:W7.cell? ⟨bz,0,none⟩=some (.int .i64 t):=bT7.cells 0
    have c_N:W7.cell? ⟨bn,0,none⟩=some (.int .i64 m):=by have h:=hM7.out.kN;rw [hONh.out] at h;exact h.cells 0
    have c_Q:∀ s,s<4->W7.cell? ⟨bp,s,none⟩=some (.int .i64 (ph3 s:Int)):=fun s hs=>(hM7.out.kP.cells s).trans (fours_at hs)
    have hQh:=Lib.hid c_Q
    have bTh:=Lib.hid bT7
    clear hHeld hwq htq hq hp3 c_Q bT7
    go_wp2_with fail
    go_loopw [16] (fun a16 wr'=>∃ s:Nat,a16=.int .i64 s/\s<=m/\wr'=W7) (fun a16 _=>m-(intOf a16).toNat)
    case atStart=>exact⟨0,rfl,by omega,rfl⟩
    case round =>
     obtain⟨s,rfl,hs,rfl⟩:=hrel
     by_cases hsm:s<m
     · have ds:decide ((s:Int)<(m:Int))=true:=by rw [decide_eq_true_eq];omega
       have hs4:(s:Int)<4:=by omega
       have hs0:(0:Int)<=(s:Int):=by omega
       have c_S:=hQh.out s (by omega)
       have c_T2:=hQh.out t (by omega)
       by_cases hst:s=t
       · have dst:((s:Int) != (t:Int))=false:=by simp;omega
         clear hst c_S c_T2
         go_wp2_with fail
         refine⟨⟨s+1,by go_num,by omega,by first | trivial | rfl⟩,?_⟩
         simp [intOf];omega
       · have dst:((s:Int) != (t:Int))=true:=by simp;omega
         have hno:=hI4.out.alone htm hsm (Ne.symm hst)
         by_cases hp1':ph3 s=1
         · have dp:((ph3 s:Int)==1)=true:=by rw [beq_iff_eq];omega
           have dq:((ph3 t:Int)==1)=false:=by rw [beq_eq_false_iff_ne];intro e;exact hno ⟨by omega,hp1'⟩
           clear hno hst hp1'
           go_wp2_with fail
           refine⟨⟨s+1,by go_num,by omega,by first | trivial | rfl⟩,?_⟩
           simp [intOf];omega
         · have dp:((ph3 s:Int)==1)=false:=by rw [beq_eq_false_iff_ne];omega
           clear hno hst hp1' c_T2
           go_wp2_with fail
           refine⟨⟨s+1,by go_num,by omega,by first | trivial | rfl⟩,?_⟩
           simp [intOf];omega
     · have ds:decide ((s:Int)<(m:Int))=false:=by rw [decide_eq_false_iff_not];omega
       go_wp2_with fail
       refine⟨⟨j+1,ph3,M,_,_,by first | rfl | go_num,by omega,hI4,hM7⟩,?_⟩
       simp [intOf]
       omega
  · rw [hr1] at hPl
    simp only [Option.getD_none,Option.isSome_none] at hPl
    go_wp2_with fail
    refine hPl.mono ?_
    clear hPl
    rintro e w3 ⟨v3,rfl,hO,hx3⟩
    obtain⟨A3,c3,D3,d3,vs3,L3,rfl,hO3⟩:=hO
    obtain⟨E3,k3,hvs3,_,_⟩:=hO3.locs.slice
    subst hvs3
    generalize (shortL L3).length=n3 at *
    have hat:S1.acc[(ans t).length]?=some ⟨kk,(ci:Int),vv⟩:=by rw [hacc,<- hl1];simp
    have hal:S1.acc.length=(ans t).length+1:=by rw [hacc,<- hl1];simp
    obtain⟨bk,rfl,hbk,q0,q1,q2⟩:=hO3.accs.at_ hat
    simp only at q0 q1 q2
    unfold outV
    rw [hal]
    have hxo:=(Ext.refl w3).alloc (.cells #[.bool false,.slice (some ⟨bk,0,none⟩) ((ans t).length+1) c3,.slice D3 S1.nts.length d3,.slice E3 n3 k3] 30)
    have hM3:=Lib.hid (hM1.out.keep (hx3.trans hxo))
    have bT3:=bT.ext (hx3.trans hxo)
    have bO3:=Blk.new w3 (.cells #[.bool false,.slice (some ⟨bk,0,none⟩) ((ans t).length+1) c3,.slice D3 S1.nts.length d3,.slice E3 n3 k3] 30)
    have q0:=(hxo.cell (p:=⟨bk,_,none⟩) hbk).trans q0
    have q1:=(hxo.cell (p:=⟨bk,_,none⟩) hbk).trans q1
    have q2:=(hxo.cell (p:=⟨bk,_,none⟩) hbk).trans q2
    have hnx:=Lib.hid hnext
    have hta2:=Lib.hid (show TameA (TS0 [] (ans t++[yv])) from fun v hv=>by
     rcases List.mem_append.1 (show v∈ans t++[yv] from hv) with hv | hv
     · exact hI.out.tame t v hv
     · obtain rfl:v=yv:=by simpa using hv
       omega)
    have hkkh:=Lib.hid hkk
    have hyvh:=Lib.hid hyv
    have gO:bc<w3.heap.size/\ba<w3.heap.size/\bp<w3.heap.size/\bz<w3.heap.size:=⟨by have:=hM1.out.kC.ext hx3;exact this.lt,by have:=hM1.out.kA.ext hx3;exact this.lt,by have:=hM1.out.kP.ext hx3;exact this.lt,(bT.ext hx3).lt⟩
    have hvo0:Hid (∀ v,vs[t]?=some v->v.ownBlock≠some w3.heap.size):=fun v h1 h2=>by
     have:=((hM1.out.keep hx3).rows.more (Nat.le_refl _)).off t v _ h1 h2
     simp at this
    clear hx3 hO3 hM1 bT c_T c_A hIn hrow hat hxo hr1 hacc hnext hkk hyv hI hal hyb
    have hz:(((ans t).length:Int)+1==0)=false:=by rw [beq_eq_false_iff_ne];omega
    generalize hb9:w3.heap.size=bo at *
    go_upto_region 18 with fail
    generalize World.alloc w3 _=V3 at *
    clear hb9
    have c_O:=bO3.cells
    go_upto_region 22 with fail
    have hxa:=(Ext.refl V3).alloc (.cells #[.int .i64 kk,.int .i64 (ci:Int),.int .i64 vv] 54)
    have bA:=Blk.new V3 (.cells #[.int .i64 kk,.int .i64 (ci:Int),.int .i64 vv] 54)
    have hM4:=Lib.hid (hM3.out.keep hxa)
    have bT4:=bT3.ext hxa
    have bO4:=bO3.ext hxa
    have gA:bz<V3.heap.size/\bo<V3.heap.size:=⟨bT3.lt,bO3.lt⟩
    have hvA0:Hid (∀ v,vs[t]?=some v->v.ownBlock≠some V3.heap.size):=fun v h1 h2=>by
     have:=(hM3.out.rows.more (Nat.le_refl _)).off t v _ h1 h2
     simp at this
    clear hM3 bT3 bO3 hxa c_O q0 q1 q2 hz
    generalize hb9:V3.heap.size=bA' at *
    generalize World.alloc V3 _=V4 at *
    clear hb9
    have c_A:∀ i,V4.cell? ⟨bA',i,none⟩=(#[.int .i64 kk,.int .i64 (ci:Int),.int .i64 vv]:Array Value)[i]?:=bA.cells
    have hc0:decide ((ci:Int)<0)=false:=by rw [decide_eq_false_iff_not];omega
    have hc1:decide ((KN:Int)+3<=(ci:Int))=false:=by rw [decide_eq_false_iff_not];omega
    have hc2:decide (KN+3<=ci)=false:=by rw [decide_eq_false_iff_not];omega
    have hci0:(0:Int)<=(ci:Int):=by omega
    have hcil:(ci:Int)<(KN:Int)+3:=by omega
    have hfC:V4.frozen? ⟨bc,ci,none⟩=false:=frozen_of_heap hM4.out.kC ci
    obtain⟨x0,hx0⟩:∃ x0,M[ci]?=some x0:=⟨_,List.getElem?_eq_getElem hci⟩
    have c_C:V4.cell? ⟨bc,ci,none⟩=some (.int .i64 x0):=by
     rw [hM4.out.kC.cells ci]
     simp [hx0]
    go_upto_if 94 with fail
    go_cut [] (fun wx=>Hid (QMem w0 bn bl bc ba bp ON OL wx M2 (fun s=>(ph2 s:Int)) ans vs)/\Blk wx bz (.cells #[.int .i64 t] 3)/\Blk wx bo (.cells #[.bool false,.slice (some ⟨bk,0,none⟩) ((ans t).length+1) c3,.slice D3 S1.nts.length d3,.slice E3 n3 k3] 30)/\Blk wx bA' (.cells #[.int .i64 kk,.int .i64 (ci:Int),.int .i64 vv] 54))
    case first =>
     -- [dev
     rcases hkkh.out with⟨hk1,e1⟩ | ⟨hk2,e1⟩
     · have dk:(kk==2)=false:=by rw [beq_eq_false_iff_ne];omega
       go_wp2_with fail
       go_meet
       exact⟨by rw [e1];exact hM4,bT4,bO4,bA⟩
     · have dk:(kk==2)=true:=by rw [beq_iff_eq];omega
       go_wp2_with fail
       go_meet
       exact⟨by rw [e1];exact hM4.out.setC ci vv,blk_ne bT4 (by omega) _,blk_ne bO4 (by omega) _,blk_ne bA (by omega) _⟩
     -- dev]
    case rest =>
    clear hM4 bT4 bO4 bA c_A c_C hfC hkkh hc0 hc1 hx0
    obtain⟨hM6,bT6,bO6,bA6⟩:=hcut
    have c_T:wc.cell? ⟨bz,0,none⟩=some (.int .i64 t):=bT6.cells 0
    have hC6:∀ {W:World},Ext wc W->W.cell? ⟨bc,ci,none⟩=some (.int .i64 yv):=fun hx=>by
     rw [(hM6.out.kC.ext hx).cells ci]
     simp [hyvh.out]
    have c_C:=hC6 (Ext.refl wc)
    have c_A:wc.cell? ⟨ba,t,none⟩=some (.slice A1 (ans t).length c5):=(hM6.out.kA.cells t).trans hvt
    have c_F:wc.cell? ⟨bA',1,none⟩=some (.int .i64 (ci:Int)):=bA6.cells 1
    have hrow6:Hid (wc.ownsRow w0.heap.size 3 1 (.slice A1 (ans t).length c5) (ans t).length (rowOf (ans t))):=by
     obtain⟨v',q1,q2⟩:=hM6.out.rows.row t (by omega)
     rw [hvt] at q1
     injection q1 with q1
     subst q1
     exact q2
    have hge6:w0.heap.size<=wc.heap.size:=hM6.out.ext.size
    have hvo:Hid (∀ b',b'∈[bn,bl,bc,ba,bp]->(Value.slice A1 (ans t).length c5).ownBlock≠some b'):=fun b' hb' e=>hM6.out.rows.off t _ b' hvt e hb'
    have hvz:=hvz0.out _ hvt
    have hvo1:=hvo0.out _ hvt
    have hvA:=hvA0.out _ hvt
    have ht0:(0:Int)<=(t:Int):=by omega
    have hxd:=(Ext.refl wc).drew
    have hxe:=(Ext.refl wc).alloc (.cells #[.int .i64 yv] 3)
    have c_Td:(World.drew wc).cell? ⟨bz,0,none⟩=some (.int .i64 t):=bT6.cells 0
    have c_Cd:=hC6 hxd
    have c_Ad:(World.drew wc).cell? ⟨ba,t,none⟩=some (.slice A1 (ans t).length c5):=(hM6.out.kA.cells t).trans hvt
    have c_Fd:(World.drew wc).cell? ⟨bA',1,none⟩=some (.int .i64 (ci:Int)):=bA6.cells 1
    have c_Te:(wc.alloc (.cells #[.int .i64 yv] 3)).cell? ⟨bz,0,none⟩=some (.int .i64 t):=(bT6.alloc _).cells 0
    have c_Ce:(wc.alloc (.cells #[.int .i64 yv] 3)).cell? ⟨bc,ci,none⟩=some (.int .i64 yv):=hC6 hxe
    have c_Fe:(wc.alloc (.cells #[.int .i64 yv] 3)).cell? ⟨bA',1,none⟩=some (.int .i64 (ci:Int)):=(bA6.alloc _).cells 1
    have c_Ae:(wc.alloc (.cells #[.int .i64 yv] 3)).cell? ⟨ba,t,none⟩=some (.slice A1 (ans t).length c5):=((hM6.out.kA.alloc _).cells t).trans hvt
    clear hC6 hxd hxe
    obtain⟨i0,hi,hz0,hz1,hz2⟩:=info_parts info_int
    go_upto_region 26 with fail
    go_cut [] (fun wx=>∃ gg cap,Hid (QMem w0 bn bl bc ba bp ON OL wx M2 (fun s=>(ph2 s:Int)) (fun s=>if s=t then ans t++[yv] else ans s) (vs.setIfInBounds t (.slice (some ⟨gg,0,none⟩) ((ans t).length+1) cap)))/\Blk wx bz (.cells #[.int .i64 t] 3)/\Blk wx bo (.cells #[.bool false,.slice (some ⟨bk,0,none⟩) ((ans t).length+1) c3,.slice D3 S1.nts.length d3,.slice E3 n3 k3] 30))
    case first =>
     -- [dev
     have hS:(World.drew wc).cell? ⟨bz,0,none⟩=some (.int .i64 t)/\(World.drew wc).cell? ⟨bc,ci,none⟩=some (.int .i64 yv)/\(World.drew wc).cell? ⟨bA',1,none⟩=some (.int .i64 (ci:Int)):=⟨c_Td,c_Cd,c_Fd⟩
     have hSe:((World.drew wc).alloc (.cells #[.int .i64 yv] 3)).cell? ⟨bz,0,none⟩=some (.int .i64 t)/\((World.drew wc).alloc (.cells #[.int .i64 yv] 3)).cell? ⟨bc,ci,none⟩=some (.int .i64 yv)/\((World.drew wc).alloc (.cells #[.int .i64 yv] 3)).cell? ⟨bA',1,none⟩=some (.int .i64 (ci:Int)):=⟨c_Te,c_Ce,c_Fe⟩
     refine wp_region_held_drew (S:=fun w'=>w'.cell? ⟨bz,0,none⟩=some (.int .i64 t)/\w'.cell? ⟨bc,ci,none⟩=some (.int .i64 yv)/\w'.cell? ⟨bA',1,none⟩=some (.int .i64 (ci:Int))) rfl hS (fun hHeld=>?_)
     clear c_T c_C c_A c_F
     refine tkb 0 ?_
     iterate 3
      refine tkn (v:=?_) rfl (by kernel_rfl) (fun _ _ _ h=>h) (by assumption) ?_ ?_
      rotate_left
      · (intro w hSw;(try dsimp only at hSw);go_simp;try with_reducible rfl)
      try simp only [put_pack]
     refine tke ?_
     refine tkb 4 ?_
     iterate 5
      refine tkn (v:=?_) rfl (by kernel_rfl) (fun _ _ _ h=>h) (by assumption) ?_ ?_
      rotate_left
      · (intro w hSw;(try dsimp only at hSw);go_simp;try with_reducible rfl)
      try simp only [put_pack]
     refine tke ?_
     refine wpAnyH_ready (rs:=[3,9]) (by kernel_rfl) (by simp) ?_
     refine AllReadyH.cons rfl (fun K hKK=>?_) (AllReadyH.cons rfl (fun K hKK=>?_) (AllReadyH.nil))
     · go_simp
       refine hKK.out _ _ hS (fun hHeld=>?_)
       clear hKK K
       try dsimp only
       refine wpAnyH_ready (rs:=[9]) (by kernel_rfl) (by simp) ?_
       refine AllReadyH.cons rfl (fun K hKK=>?_) (AllReadyH.nil)
       go_simp
       refine hKK.out _ _ hSe (fun hHeld=>?_)
       clear hKK K
       try dsimp only
       refine wpAnyH_ready (rs:=[10]) (by kernel_rfl) (by simp) ?_
       refine AllReadyH.cons rfl (fun K hKK=>?_) (AllReadyH.nil)
       refine step_append_lies _ (by rfl) _ _ _ (by rfl) w0.heap.size 3 i0 _ 1 8 Try.underlying28 hi hz0 hz1 hz2 rfl (by omega) (Value.slice A1 (ans t).length c5) (ans t).length (rowOf (ans t)) (by rfl) ((World.ownsRow.drew hrow6.out).alloc _) ⟨wc.heap.size,0,none⟩ 1 1 [.int .i64 yv] (by rfl) (by rfl) (cells_new1 wc _ _) (by simp [Value.oneCell']) (by omega) (by unfold maxLen;omega) (by omega) (by simp;omega) (wc.heap.size+1) (by simp) ?_
       intro gg cap w1' hown1 hgrow hat1 hlt1
       have hM7:=Lib.hid (hM6.out.grow ht4 hvt hown1 (grown1 hgrow) (hat1.imp id (by omega)))
       have bT7:Blk w1' bz (.cells #[.int .i64 t] 3):=grown_heap bT6 hvz (grown1 hgrow)
       have bO7:Blk w1' bo (.cells #[.bool false,.slice (some ⟨bk,0,none⟩) ((ans t).length+1) c3,.slice D3 S1.nts.length d3,.slice E3 n3 k3] 30):=grown_heap bO6 hvo1 (grown1 hgrow)
       have bA7:Blk w1' bA' (.cells #[.int .i64 kk,.int .i64 (ci:Int),.int .i64 vv] 54):=grown_heap bA6 hvA (grown1 hgrow)
       have bC7:Blk w1' bc (.cells (M2.map (Value.int .i64)).toArray 3):=grown_heap hM6.out.kC (hvo.out bc (by simp)) (grown1 hgrow)
       have bT8:=blk_ne (b':=ba) (i:=t) bT7 (by omega) (.slice (some ⟨gg,0,none⟩) ((ans t).length+1) cap)
       have bO8:=blk_ne (b':=ba) (i:=t) bO7 (by omega) (.slice (some ⟨gg,0,none⟩) ((ans t).length+1) cap)
       have bA8:=blk_ne (b':=ba) (i:=t) bA7 (by omega) (.slice (some ⟨gg,0,none⟩) ((ans t).length+1) cap)
       have bC8:=blk_ne (b':=ba) (i:=t) bC7 hM6.out.ne.2.2.2.2.2.2.2.1 (.slice (some ⟨gg,0,none⟩) ((ans t).length+1) cap)
       have hp1:=grown_heap hM6.out.kA (hvo.out ba (by simp)) (grown1 hgrow)
       have hq1:=cell_of_heap hp1
       have hf1:=frozen_of_heap hp1
       refine hKK.out _ _ ⟨bT7.cells 0,by rw [bC7.cells ci];simp [hyvh.out],bA7.cells 1⟩ (fun hHeld=>?_)
       clear hKK K hown1 hgrow hat1 hlt1 hp1
       try dsimp only
       refine tk 11 (v:=?_) rfl (by kernel_rfl) (fun _ _ _ h=>h) (by assumption) ?_ ?_
       rotate_left
       · (intro w hSw;(try dsimp only at hSw);go_simp;try with_reducible rfl)
       try simp only [put_pack]
       refine wpAnyH_ready (rs:=[12]) (by kernel_rfl) (by simp) ?_
       refine AllReadyH.cons rfl (fun K hKK=>?_) (AllReadyH.nil)
       go_simp
       refine hKK.out _ _ ⟨bT8.cells 0,by rw [bC8.cells ci];simp [hyvh.out],bA8.cells 1⟩ (fun hHeld=>?_)
       clear hKK K hq1 hf1 bT7 bO7 bA7 bC7
       try dsimp only
       have hbb:=Lib.hid (And.intro bT8 bO8)
       clear bT8 bO8 bA8 bC8
       refine wpAnyH_done (by kernel_rfl) ?_ _
       go_simp
       go_wp2_with fail
       go_meet
       exact⟨gg,cap,hM7,hbb.out.1,hbb.out.2⟩
     · go_simp
       refine hKK.out _ _ hSe (fun hHeld=>?_)
       clear hKK K
       try dsimp only
       refine wpAnyH_ready (rs:=[3]) (by kernel_rfl) (by simp) ?_
       refine AllReadyH.cons rfl (fun K hKK=>?_) (AllReadyH.nil)
       go_simp
       refine hKK.out _ _ hSe (fun hHeld=>?_)
       clear hKK K
       try dsimp only
       refine wpAnyH_ready (rs:=[10]) (by kernel_rfl) (by simp) ?_
       refine AllReadyH.cons rfl (fun K hKK=>?_) (AllReadyH.nil)
       refine step_append_lies _ (by rfl) _ _ _ (by rfl) w0.heap.size 3 i0 _ 1 8 Try.underlying28 hi hz0 hz1 hz2 rfl (by omega) (Value.slice A1 (ans t).length c5) (ans t).length (rowOf (ans t)) (by rfl) ((World.ownsRow.drew hrow6.out).alloc _) ⟨wc.heap.size,0,none⟩ 1 1 [.int .i64 yv] (by rfl) (by rfl) (cells_new1 wc _ _) (by simp [Value.oneCell']) (by omega) (by unfold maxLen;omega) (by omega) (by simp;omega) (wc.heap.size+1) (by simp) ?_
       intro gg cap w1' hown1 hgrow hat1 hlt1
       have hM7:=Lib.hid (hM6.out.grow ht4 hvt hown1 (grown1 hgrow) (hat1.imp id (by omega)))
       have bT7:Blk w1' bz (.cells #[.int .i64 t] 3):=grown_heap bT6 hvz (grown1 hgrow)
       have bO7:Blk w1' bo (.cells #[.bool false,.slice (some ⟨bk,0,none⟩) ((ans t).length+1) c3,.slice D3 S1.nts.length d3,.slice E3 n3 k3] 30):=grown_heap bO6 hvo1 (grown1 hgrow)
       have bA7:Blk w1' bA' (.cells #[.int .i64 kk,.int .i64 (ci:Int),.int .i64 vv] 54):=grown_heap bA6 hvA (grown1 hgrow)
       have bC7:Blk w1' bc (.cells (M2.map (Value.int .i64)).toArray 3):=grown_heap hM6.out.kC (hvo.out bc (by simp)) (grown1 hgrow)
       have bT8:=blk_ne (b':=ba) (i:=t) bT7 (by omega) (.slice (some ⟨gg,0,none⟩) ((ans t).length+1) cap)
       have bO8:=blk_ne (b':=ba) (i:=t) bO7 (by omega) (.slice (some ⟨gg,0,none⟩) ((ans t).length+1) cap)
       have bA8:=blk_ne (b':=ba) (i:=t) bA7 (by omega) (.slice (some ⟨gg,0,none⟩) ((ans t).length+1) cap)
       have bC8:=blk_ne (b':=ba) (i:=t) bC7 hM6.out.ne.2.2.2.2.2.2.2.1 (.slice (some ⟨gg,0,none⟩) ((ans t).length+1) cap)
       have hp1:=grown_heap hM6.out.kA (hvo.out ba (by simp)) (grown1 hgrow)
       have hq1:=cell_of_heap hp1
       have hf1:=frozen_of_heap hp1
       refine hKK.out _ _ ⟨bT7.cells 0,by rw [bC7.cells ci];simp [hyvh.out],bA7.cells 1⟩ (fun hHeld=>?_)
       clear hKK K hown1 hgrow hat1 hlt1 hp1
       try dsimp only
       refine tk 11 (v:=?_) rfl (by kernel_rfl) (fun _ _ _ h=>h) (by assumption) ?_ ?_
       rotate_left
       · (intro w hSw;(try dsimp only at hSw);go_simp;try with_reducible rfl)
       try simp only [put_pack]
       refine wpAnyH_ready (rs:=[12]) (by kernel_rfl) (by simp) ?_
       refine AllReadyH.cons rfl (fun K hKK=>?_) (AllReadyH.nil)
       go_simp
       refine hKK.out _ _ ⟨bT8.cells 0,by rw [bC8.cells ci];simp [hyvh.out],bA8.cells 1⟩ (fun hHeld=>?_)
       clear hKK K hq1 hf1 bT7 bO7 bA7 bC7
       try dsimp only
       have hbb:=Lib.hid (And.intro bT8 bO8)
       clear bT8 bO8 bA8 bC8
       refine wpAnyH_done (by kernel_rfl) ?_ _
       go_simp
       go_wp2_with fail
       go_meet
       exact⟨gg,cap,hM7,hbb.out.1,hbb.out.2⟩
     -- dev]
    case rest =>
    clear hM6 bT6 bO6 bA6 c_T c_C c_A c_F c_Td c_Cd c_Ad c_Fd c_Te c_Ce c_Fe c_Ae hrow6 hge6 hvo hvz hvo1 hvA hi hz0 hz1 hz2
    obtain⟨gg,cap,hM8,bT8,bO8⟩:=hcut
    obtain⟨ans2,ha2⟩:∃ f:Nat->List Int,f=(fun s=>if s=t then ans t++[yv] else ans s):=⟨_,rfl⟩
    obtain⟨vs2,hv2⟩:∃ v,v=vs.setIfInBounds t (.slice (some ⟨gg,0,none⟩) ((ans t).length+1) cap):=⟨_,rfl⟩
    rw [<- ha2,<- hv2] at hM8
    have h2t:ans2 t=ans t++[yv]:=by rw [ha2];exact if_pos rfl
    have h2l:(ans2 t).length<=j+1:=by rw [h2t];simp;omega
    have hnx3:(dn=false/\YOne m D (j+1) ph2 M2 ans2)∨(dn=true/\YOne m D (j+1) (putN ph2 t ((ph2 t+1) % 3)) M2 (fun s=>if s=t then [] else ans2 s)):=by
     rcases hnx.out with⟨q1,q2⟩ | ⟨q1,q2⟩
     · refine .inl ⟨q1,?_⟩
       rw [ha2]
       exact q2
     · refine .inr ⟨q1,?_⟩
       have e:(fun s=>if s=t then ([]:List Int) else ans2 s)=fun s=>if s=t then [] else ans s:=funext fun s=>by
        by_cases e:s=t
        · rw [if_pos e,if_pos e]
        · rw [if_neg e,if_neg e,ha2];exact if_neg e
       rw [e]
       exact q2
    rw [<- h2t] at hr2
    have hta3:Hid (TameA (TS0 [] (ans2 t))):=Lib.hid (by rw [h2t];exact hta2.out)
    have hnxh:=Lib.hid hnx3
    clear ha2 hv2 h2t hnx hnx3 hvt hta2
    obtain⟨A2,c2,hvt2,hI2,hrow2⟩:=hM8.out.rows.ints ht4
    have c_T:wc.cell? ⟨bz,0,none⟩=some (.int .i64 t):=bT8.cells 0
    have c_A:wc.cell? ⟨ba,t,none⟩=some (.slice A2 (ans2 t).length c2):=(hM8.out.kA.cells t).trans hvt2
    have hPl:=play_int 53 #[.pointer (some ⟨bp,0,none⟩),.pointer (some ⟨bz,0,none⟩),.pointer (some ⟨bl,0,none⟩),.pointer (some ⟨bn,0,none⟩)] (yOp D rs m t (ph2 t)) none 0 [] A2 c2 (ans2 t) wc (Ints.nil _) (by simp) hI2 (by unfold maxAns;omega) (fun k hk=>(own_ge hrow2 hk).2) (fun _ _=>rfl) (fun W p hxW hP=>yangcl _ p m t (ph2 t) D _ A c bl bn bz bp rs W hP (fun hne=>by
      obtain⟨b,e1,e2,e3⟩:=hreg1.out hne
      exact⟨b,e1,regsP e2 e3 (hM8.out.ext.trans hxW) hP hM8.out.ext.size⟩) heh.out m1 m4 htm hc1h.out hc2h.out hta3.out (by unfold TS.left TS0;simp;rw [hDh.out];omega) (by have h:=hM8.out.kL.ext hxW;rw [hOLh.out] at h;rw [hrlh.out];exact h.cells 0) (by have h:=hM8.out.kN.ext hxW;rw [hONh.out] at h;exact h.cells 0) ((bT8.ext hxW).cells 0) (((hM8.out.kP.ext hxW).cells t).trans (fours_at ht4)))
    rw [hr2] at hPl
    simp only [hdn] at hPl
    clear hr2 hta3
    go_wp2_with fail
    refine hPl.mono ?_
    clear hPl
    rintro e w4 ⟨v4,rfl,hO4,hx4⟩
    obtain⟨A4,c4,D4,d4,E4,k4,n4,rfl⟩:=hO4.parts
    have hM9:=Lib.hid (hM8.out.keep hx4)
    have bT9:=bT8.ext hx4
    have bO9:=bO8.ext hx4
    clear hM8 bT8 bO8 c_T c_A hx4 hO4 hI2 hrow2 hvt2
    have c_O:=bO9.cells
    have hfO:∀ i,w4.frozen? ⟨bo,i,none⟩=false:=fun i=>frozen_of_heap bO9 i
    go_upto_region 28 with fail
    have hg0:w0.heap.size<=bo:=by have:=hM9.out.ge.1;omega
    have hxo:Ext w0 ((((w4.setCell ⟨bo,0,none⟩ (.bool dn)).setCell ⟨bo,1,none⟩ (.slice A4 S2.acc.length c4)).setCell ⟨bo,2,none⟩ (.slice D4 S2.nts.length d4)).setCell ⟨bo,3,none⟩ (.slice E4 n4 k4)):=(((hM9.out.ext.setCell (p:=⟨bo,0,none⟩) hg0 _).setCell (p:=⟨bo,1,none⟩) hg0 _).setCell (p:=⟨bo,2,none⟩) hg0 _).setCell (p:=⟨bo,3,none⟩) hg0 _
    have hko:∀ q,q≠bo->(((((w4.setCell ⟨bo,0,none⟩ (.bool dn)).setCell ⟨bo,1,none⟩ (.slice A4 S2.acc.length c4)).setCell ⟨bo,2,none⟩ (.slice D4 S2.nts.length d4)).setCell ⟨bo,3,none⟩ (.slice E4 n4 k4))).heap[q]?=w4.heap[q]?:=fun q hq=>by
     rw [heap_setCell_ne _ _ hq,heap_setCell_ne _ _ hq,heap_setCell_ne _ _ hq,heap_setCell_ne _ _ hq]
    have bO5:Blk ((((w4.setCell ⟨bo,0,none⟩ (.bool dn)).setCell ⟨bo,1,none⟩ (.slice A4 S2.acc.length c4)).setCell ⟨bo,2,none⟩ (.slice D4 S2.nts.length d4)).setCell ⟨bo,3,none⟩ (.slice E4 n4 k4)) bo (.cells #[.bool dn,.slice A4 S2.acc.length c4,.slice D4 S2.nts.length d4,.slice E4 n4 k4] 30):=heap_setCell (heap_setCell (heap_setCell (heap_setCell bO9 _) _) _) _
    have hM5:=Lib.hid (hM9.out.far bO9 (by decide) (by omega) hko hxo)
    have bT5:Blk ((((w4.setCell ⟨bo,0,none⟩ (.bool dn)).setCell ⟨bo,1,none⟩ (.slice A4 S2.acc.length c4)).setCell ⟨bo,2,none⟩ (.slice D4 S2.nts.length d4)).setCell ⟨bo,3,none⟩ (.slice E4 n4 k4)) bz (.cells #[.int .i64 t] 3):=(hko bz (by omega)).trans bT9
    clear hM9 bT9 bO9 c_O hfO hxo hko
    generalize World.setCell (World.setCell (World.setCell (World.setCell w4 _ _) _ _) _ _) _ _=W5 at *
    have c_O:=bO5.cells
    clear hdn
    cases dn with
    | false =>
      have hI4:Hid (YOne m D (j+1) ph2 M2 ans2):=by
       rcases hnxh.out with⟨_,q⟩ | ⟨q,_⟩
       · exact Lib.hid q
       · cases q
      clear bT5 bO5 hnxh
      go_wp2_with fail
      refine⟨⟨j+1,ph2,M2,ans2,vs2,by first | rfl | go_num,by omega,hI4,hM5⟩,?_⟩
      simp [intOf]
      omega
    | true =>
      have hnxt:Hid (YOne m D (j+1) (putN ph2 t ((ph2 t+1) % 3)) M2 (fun s=>if s=t then [] else ans2 s)):=by
       rcases hnxh.out with⟨q,_⟩ | ⟨_,q⟩
       · cases q
       · exact Lib.hid q
      clear hnxh
      obtain⟨ph3,hph3⟩:∃ f,f=putN ph2 t ((ph2 t+1) % 3):=⟨_,rfl⟩
      have hp3:Hid (ph3 t=(ph2 t+1) % 3):=Lib.hid (by rw [hph3,putN_self])
      have hothh:Hid (∀ s,s≠t->ph3 s=ph2 s):=Lib.hid fun s hs=>by rw [hph3,putN_ne hs]
      have hI4:Hid (YOne m D (j+1) ph3 M2 (fun s=>if s=t then [] else ans2 s)):=Lib.hid (by rw [hph3];exact hnxt.out)
      clear hph3 hnxt
      have c_T:W5.cell? ⟨bz,0,none⟩=some (.int .i64 t):=bT5.cells 0
      have hfA:W5.frozen? ⟨ba,t,none⟩=false:=frozen_of_heap hM5.out.kA t
      obtain⟨u5,c_A⟩:∃ u5,W5.cell? ⟨ba,t,none⟩=some u5:=by
       obtain⟨A6,c6,q1,_⟩:=hM5.out.rows.ints ht4
       exact⟨_,(hM5.out.kA.cells t).trans q1⟩
      go_upto_region 30 with fail
      have hM6:=Lib.hid (hM5.out.clear t)
      have bT6:=blk_ne (b':=ba) (i:=t) bT5 (by omega) (.slice none 0 0)
      clear hM5 bT5 bO5 c_T hfA c_A c_O
      generalize World.setCell W5 _ _=W6 at *
      have c_T:(World.drew W6).cell? ⟨bz,0,none⟩=some (.int .i64 t):=bT6.cells 0
      have c_P:(World.drew W6).cell? ⟨bp,t,none⟩=some (.int .i64 (ph2 t:Int)):=(hM6.out.kP.cells t).trans (fours_at ht4)
      have hfP:(World.drew W6).frozen? ⟨bp,t,none⟩=false:=frozen_of_heap hM6.out.kP t
      obtain⟨q,hq⟩:∃ q:Nat,ph2 t=q:=⟨_,rfl⟩
      have hq2:q<=2:=by omega
      rw [hq] at c_P
      have hwq:=IntWalk.i64_in ((q:Int)+1) (by omega)
      have htq:((q:Int)+1).tmod 3=(ph3 t:Int):=by
       rw [hp3.out,hq,Int.tmod_eq_emod_of_nonneg (by omega)]
       omega
      refine wp_region_held_drew (S:=fun w'=>w'.cell? ⟨bz,0,none⟩=some (.int .i64 t)) rfl c_T (fun hHeld=>?_)
      refine tkb 0 ?_
      iterate 3
       refine tkn (v:=?_) rfl (by kernel_rfl) (fun _ _ _ h=>h) (by assumption) ?_ ?_
       rotate_left
       · (intro w hSw;(try dsimp only at hSw);go_simp;try with_reducible rfl)
       try simp only [put_pack]
      refine tke ?_
      refine wpAnyH_ready (rs:=[3]) (by kernel_rfl) (by simp) ?_
      refine AllReadyH.cons rfl (fun K hKK=>?_) (AllReadyH.nil)
      go_simp
      refine hKK.out _ _ c_T (fun hHeld=>?_)
      clear hKK K
      try dsimp only
      refine tkb 4 ?_
      iterate 3
       refine tkn (v:=?_) rfl (by kernel_rfl) (fun _ _ _ h=>h) (by assumption) ?_ ?_
       rotate_left
       · (intro w hSw;(try dsimp only at hSw);go_simp;try with_reducible rfl)
       try simp only [put_pack]
      refine tke ?_
      refine wpAnyH_ready (rs:=[7]) (by kernel_rfl) (by simp) ?_
      refine AllReadyH.cons rfl (fun K hKK=>?_) (AllReadyH.nil)
      go_simp
      have hM7:Hid (QMem w0 bn bl bc ba bp ON OL ((W6.setCell ⟨bp,t,none⟩ (.int .i64 (ph3 t:Int))).drew) M2 (fun s=>(ph3 s:Int)) (fun s=>if s=t then [] else ans2 s) (vs2.setIfInBounds t (.slice none 0 0))):=by
       refine ((hM6.out.setP ht4 (ph3 t:Int)).keep (Ext.refl _).drew).same fun s _=>?_
       by_cases e:s=t
       · rw [e];simp [putF]
       · rw [hothh.out s e];simp [putF,e]
      have bT7:Blk ((W6.setCell ⟨bp,t,none⟩ (.int .i64 (ph3 t:Int))).drew) bz (.cells #[.int .i64 t] 3):=blk_ne (b':=bp) (i:=t) bT6 (by omega) _
      generalize World.drew (World.setCell W6 _ _)=W7 at *
      refine hKK.out _ _ (bT7.cells 0) (fun hHeld=>?_)
      clear hKK K c_T c_P hfP hM6 bT6
      try dsimp only
      refine wpAnyH_done (by kernel_rfl) ?_ _
      go_simp
      have c_T:W7.cell? ⟨bz,0,none⟩=some (.int .i64 t):=bT7.cells 0
      have c_N:W7.cell? ⟨bn,0,none⟩=some (.int .i64 m):=by have h:=hM7.out.kN;rw [hONh.out] at h;exact h.cells 0
      have c_Q:∀ s,s<4->W7.cell? ⟨bp,s,none⟩=some (.int .i64 (ph3 s:Int)):=fun s hs=>(hM7.out.kP.cells s).trans (fours_at hs)
      have hQh:=Lib.hid c_Q
      have bTh:=Lib.hid bT7
      clear hHeld hwq htq hq hp3 c_Q bT7 hci0 hcil
      go_wp2_with fail
      go_loopw [16] (fun a16 wr'=>∃ s:Nat,a16=.int .i64 s/\s<=m/\wr'=W7) (fun a16 _=>m-(intOf a16).toNat)
      case atStart=>exact⟨0,rfl,by omega,rfl⟩
      case round =>
       obtain⟨s,rfl,hs,rfl⟩:=hrel
       by_cases hsm:s<m
       · have ds:decide ((s:Int)<(m:Int))=true:=by rw [decide_eq_true_eq];omega
         have hs4:(s:Int)<4:=by omega
         have hs0:(0:Int)<=(s:Int):=by omega
         have c_S:=hQh.out s (by omega)
         have c_T2:=hQh.out t (by omega)
         by_cases hst:s=t
         · have dst:((s:Int) != (t:Int))=false:=by simp;omega
           clear hst c_S c_T2
           go_wp2_with fail
           refine⟨⟨s+1,by go_num,by omega,by first | trivial | rfl⟩,?_⟩
           simp [intOf];omega
         · have dst:((s:Int) != (t:Int))=true:=by simp;omega
           have hno:=hI4.out.alone htm hsm (Ne.symm hst)
           by_cases hp1':ph3 s=1
           · have dp:((ph3 s:Int)==1)=true:=by rw [beq_iff_eq];omega
             have dq:((ph3 t:Int)==1)=false:=by rw [beq_eq_false_iff_ne];intro e;exact hno ⟨by omega,hp1'⟩
             clear hno hst hp1'
             go_wp2_with fail
             refine⟨⟨s+1,by go_num,by omega,by first | trivial | rfl⟩,?_⟩
             simp [intOf];omega
           · have dp:((ph3 s:Int)==1)=false:=by rw [beq_eq_false_iff_ne];omega
             clear hno hst hp1' c_T2
             go_wp2_with fail
             refine⟨⟨s+1,by go_num,by omega,by first | trivial | rfl⟩,?_⟩
             simp [intOf];omega
       · have ds:decide ((s:Int)<(m:Int))=false:=by rw [decide_eq_false_iff_not];omega
         go_wp2_with fail
         refine⟨⟨j+1,ph3,M2,_,_,by first | rfl | go_num,by omega,hI4,hM7⟩,?_⟩
         simp [intOf]
         omega
end Go.Proofs.Ytbphlkaihfbgeaa
namespace Go.Proofs.Ytbphlkaihfbgeaa.yangOne
open Go.ChangeShapes Go.WideShapes Go.ChangeAt Go.RowKit Kv
set_option maxRecDepth 100000 in
theorem main (H:Type)(enc:TypeId × Value->H)(W:World)(base:Nat)(args:Array Value)(ds:List (DataW H))(p:List MemPlace)
  (hval:∀ (j:Nat) t v,Try.f9.params[j]?=some t->args[j]?=some v->Value.okWide Try.prog W .any base t v)
  (hA:DataW.TrodAll enc Try.prog W 0 (fun _=>true) true Try.f9.params.toList args.toList ds p)(_hL:laidMetH Try.prog Rows.yangOneRow.laid W) :
  Calls Try.prog 9 args W fun e w'=>e=.returned (.bool true)/\Ext W w':=by
 rw [Try.params9] at hA hval
 obtain⟨v0,vs0,d0,ds0,p0,q0,hargs,rfl,rfl,h0,r0⟩:=trodAll_cons hA
 obtain⟨v1,vs1,d1,ds1,p1,q1,rfl,rfl,rfl,h1,r1⟩:=trodAll_cons r0
 obtain⟨rfl,rfl,rfl⟩:=trodAll_nil r1
 obtain rfl:args=#[v0,v1]:=by cases args;simp_all
 obtain⟨s,rfl,rfl,rfl,ws⟩:=open_int Try.underlying5 (hval 0 5 v0 rfl rfl) h0
 have hs:=bounds_u8 ws
 obtain⟨La,hLa,hLb⟩:=bytes_arg (hval 1 43 v1 rfl rfl) h1
 obtain⟨n,rfl⟩:∃ n:Nat,s=(n:Int):=⟨s.toNat,by omega⟩
 exact yang_walk n v1 La W (by omega) hLa hLb
end Go.Proofs.Ytbphlkaihfbgeaa.yangOne
namespace Go.Proofs.Ytbphlkaihfbgeaa.yangOne
open Go.ChangeShapes Go.WideShapes Go.ChangeAt Go.RowKit
theorem laidOut:laidOutB Try.prog=true:=by kernel_rfl
set_option maxRecDepth 100000 in
theorem contract (H:Type)(enc:TypeId × Value->H)(W:World)(base:Nat)(args:Array Value)(ds gs:List (DataW H))(before:List MemPlace)
  (hval:∀ (j:Nat) t v,Try.f9.params[j]?=some t->args[j]?=some v->Value.okWide Try.prog W .any base t v)
  (hW:DataW.Whole enc Try.prog Try.f9.params.toList Rows.yangOneSpec.vars false W args.toList ds gs before)(hL:laidMetH Try.prog Rows.yangOneRow.laid W) :
  Calls Try.prog 9 args W fun e W'=>∃ v,e=.returned v/\Rows.yangOneSpec.post enc Try.prog Try.f9 false true false false W args v W':=by
 refine (main H enc W base args ds before hval (by obtain⟨p,q,hA,hV,hpq,_,_⟩:=hW;obtain⟨_,rfl⟩:=trodVars_none hV;rw [List.append_nil] at hpq;subst hpq;exact hA) hL).mono fun e W' ⟨he,hg⟩=>⟨_,he,?_⟩
 refine law_post (tb:=4) laidOut ?_ (by kernel_rfl) Try.underlying4 rfl ?_ hW hg
 · rw [Try.params9]
   intro t ht
   simp only [List.mem_cons,List.not_mem_nil,or_false] at ht
   rcases ht with rfl | rfl <;> exact⟨by kernel_rfl,of_decide_eq_true (by kernel_rfl)⟩
 · intro ds hl
   rw [Try.params9] at hl
   match ds,hl with
   | [d0,d1],_=>rfl
set_option maxRecDepth 100000 in
theorem laid_met (os:Os):laidMet Try.prog Rows.yangOneRow.laid (((World.holding Try.prog os ⟨#[],#[],[]⟩)).forCall (fun _ _=>0) ⟨#[],#[.int .u8 0,.slice none 0 0],[]⟩).memory :=
 laidMet_of_run' 8 (by kernel_rfl) (by kernel_rfl)
set_option maxRecDepth 100000 in
theorem reads (os:Os){H:Type}(enc:TypeId × Value->H):∃ places,DataW.whole enc Try.prog (((World.holding Try.prog os ⟨#[],#[],[]⟩)).forCall (fun _ _=>0) ⟨#[],#[.int .u8 0,.slice none 0 0],[]⟩).memory Try.f9.params.toList Rows.yangOneSpec.vars false (#[.int .u8 0,.slice none 0 0]:Array Value).toList 8=some ([.lit (.int .u8 0),.nil],[],places) :=
 ⟨[],by kernel_rfl⟩
set_option maxRecDepth 100000 in
theorem lifted (os:Os)(started:os.Started)(H:Type)(enc:TypeId × Value->H)(F:Stop.Interp) :
  ReturnsInHanded {} Try.checked os 9 .any ((OpenSpec.ofChange Rows.yangOneSpec).preRow enc Try.prog Try.f9 Rows.yangOneRow.domain false Rows.yangOneRow.laid) (((OpenSpec.ofChange Rows.yangOneSpec).at F).post enc Try.prog Try.f9 false true false false):=by
 obtain⟨places,hx⟩:=reads os enc
 refine returnsInHanded_of_row (C:=Try.checked) (s:=(OpenSpec.ofChange Rows.yangOneSpec)) own started (by kernel_rfl) Try.func9
  (witness_row_at (enc:=enc) (C:=Try.checked) false (World.holding Try.prog os ⟨#[],#[],[]⟩) #[.int .u8 0,.slice none 0 0] rfl (by kernel_rfl) (by kernel_rfl) (by kernel_rfl)
    (OpenSpec.preRow_of_cond 8 hx (by kernel_rfl) (fun k hk=>by cases hk) (by kernel_rfl) (laid_met os))) ?_
 intro W base args ds gs before hval hW _ _ _ hL _ _
 exact contract H enc W base args ds gs before hval hW hL
theorem c1:(Rows.yangOneRow.inPlace==Try.pinned.checked.prog.inPlace 9)=true:=by kernel_rfl
theorem c2:(Rows.yangOneRow.unfollowed==Try.pinned.checked.prog.unfollowed 9)=true:=by kernel_rfl
theorem c3:(Rows.yangOneRow.recurses==Try.pinned.checked.prog.recurses 9)=true:=by kernel_rfl
theorem c4:(Rows.yangOneRow.named==Try.pinned.checked.prog.varsNamed 9)=true:=by kernel_rfl
theorem closed:joinedFacts Try.pinned.checked.prog 9 Try.f9 (OpenSpec.ofChange Rows.yangOneSpec).bare Rows.yangOneRow=true:=by
 unfold joinedFacts
 simp only [Bool.and_eq_true]
 repeat' refine And.intro ?_ ?_
 all_goals first | with_reducible exact c1 | with_reducible exact c2 | with_reducible exact c3 | with_reducible exact c4 | kernel_rfl
theorem said:Rows.YangOneSaid :=
 OpenClaim.holds_of_cond 9 Try.f9 rfl rfl rfl rfl rfl rfl rfl ⟨rfl,rfl,rfl,rfl,rfl⟩ rfl rfl rfl rfl rfl (by kernel_rfl) Try.func9 closed
  (of_decide_eq_true (by kernel_rfl)) (by unfold Func.isWrapper;first | (rw [if_pos (by decide +kernel)];kernel_rfl) | (rw [if_neg (by decide +kernel)];exact⟨rfl,rfl⟩))
  (fun os started H enc _ F=>by rw [OpenClaim.pre_eq_preRow];exact lifted os started H enc F)
end Go.Proofs.Ytbphlkaihfbgeaa.yangOne
