/-
  SemaRow holds: threads that take and give permits one behind the other, on cells that keep what they were told, are told what they have, without conditions.
-/
import Derived.Test.YtbaajjkopdjbgaaGreatJSemaRowSaid8
import Derived.Deep.DeepCutAuto
namespace Go.Proofs.YtbaajjkopdjbgaaGreat
open Go.RowKit Kv
theorem giveA_none {I U:Prog Unit}{c l:Int}{S:TS}(h:S.got l=0):(giveA I U c l).run S=(some 9,S):=by
 unfold giveA
 rw [run_gt,if_pos h]
 rfl
set_option maxRecDepth 100000 in
theorem counted36 (b c:Nat)(w:World)(hb:b<w.heap.size)(hc:∀ i,w.cell? ⟨b,i,none⟩=(#[.int .i64 1,.int .i64 1,.int .i64 8,.int .i64 2,.int .i64 1,.int .i64 1048576]:Array Value)[i]?) :
  Calls Tryz.prog 143 #[.slice (some ⟨b,0,none⟩) 2 c] w fun e w'=>e=.returned (.int .i64 3)/\Ext w w':=by
 go_enter Tryz.func143,Tryz.ntmps143
 go_wp2_with fail
 go_loopw [3,4] (fun u i wr=>((i=.int .i64 0/\u=.int .i64 0)∨(i=.int .i64 1/\u=.int .i64 1)∨(i=.int .i64 2/\u=.int .i64 3))/\Ext w wr) (fun _ i _=>2-(intOf i).toNat)
 case atStart=>exact⟨.inl ⟨rfl,rfl⟩,Ext.refl _⟩
 case round =>
  obtain⟨hr,hX⟩:=hrel
  have c_b:∀ i,wr.cell? ⟨b,i,none⟩=(#[.int .i64 1,.int .i64 1,.int .i64 8,.int .i64 2,.int .i64 1,.int .i64 1048576]:Array Value)[i]?:=fun i=>(hX.cell (p:=⟨b,i,none⟩) hb).trans (hc i)
  clear hc
  rcases hr with⟨rfl,rfl⟩ | ⟨rfl,rfl⟩ | ⟨rfl,rfl⟩
  · go_wp2_with fail
    refine⟨⟨.inr (.inl ⟨rfl,rfl⟩),hX⟩,?_⟩
    simp [intOf]
  · go_wp2_with fail
    refine⟨⟨.inr (.inr ⟨rfl,rfl⟩),hX⟩,?_⟩
    simp [intOf]
  · go_wp2_with fail
    go_ret
    exact⟨rfl,hX⟩
theorem strips36 (w:World):Calls Tryz.prog 144 #[] w fun e w'=>∃ b,e=.returned (.slice (some ⟨b,0,none⟩) 2 2)/\Blk w' b (.cells #[.int .i64 1,.int .i64 1,.int .i64 8,.int .i64 2,.int .i64 1,.int .i64 1048576] 176)/\Ext w w':=by
 have hX:=(Ext.refl w).alloc (.cells #[.int .i64 1,.int .i64 1,.int .i64 8,.int .i64 2,.int .i64 1,.int .i64 1048576] 176)
 go_enter Tryz.func144,Tryz.ntmps144
 go_wp2_with fail
 go_ret
 exact⟨_,rfl,Blk.new w _,hX⟩
theorem locals36 (w:World):Calls Tryz.prog 145 #[] w fun e w'=>e=.returned (.int .i64 1)/\Ext w w':=by
 have hX:=Ext.refl w
 go_enter Tryz.func145,Tryz.ntmps145
 go_wp2_with fail
 go_ret
 exact⟨rfl,hX⟩
theorem seal1 (B p:Nat)(S:TS)(bk:Nat)(w:World)(h:Plays B w p S)(hta:TameA S)(hD:S.left<12)(hn0:S.nts.length+10*S.left<=90000)(g1:Blk w bk (.cells #[.int .i64 0,.int .i64 0,.int .i64 0,.int .i64 0,.int .i64 2,.int .i64 0,.int .i64 0,.int .i64 0,.int .i64 2,.int .i64 1,.int .i64 1,.int .i64 0,.int .i64 0,.int .i64 1,.int .i64 0,.int .i64 0,.int .i64 0,.int .i64 0,.int .i64 0,.int .i64 0,.int .i64 0,.int .i64 1,.int .i64 0] 69)) :
  Calls Tryz.prog 140 #[.pointer (some ⟨p,0,none⟩),.pointer (some ⟨bk,0,none⟩)] w (Post encI B p w ((takeA (inA (lkA 12 2 1 0 0 1 [] 0) 12) (lkR 2 1 0 0 [] 0) 1 0 (permM 2) 12).run S)):=by
 have hq:Calls Tryz.prog 65 #[.pointer (some ⟨p,0,none⟩),.agg #[.int .i64 0,.int .i64 0,.int .i64 0,.int .i64 0,.int .i64 2,.int .i64 0,.int .i64 0,.int .i64 0,.int .i64 2,.int .i64 1,.int .i64 1,.int .i64 0,.int .i64 0,.int .i64 1,.int .i64 0,.int .i64 0,.int .i64 0,.int .i64 0,.int .i64 0,.int .i64 0,.int .i64 0,.int .i64 1,.int .i64 0],.int .i64 0] w (Post encI B p w ((takeA (inA (lkA 12 2 1 0 0 1 [] 0) 12) (lkR 2 1 0 0 [] 0) 1 0 (permM 2) 12).run S)) :=
  take_p B p 1 12 S 2 2 1 0 0 1 1 0 0 [] w h use35 hta hD hn0 (by decide)
 generalize takeA (inA (lkA 12 2 1 0 0 1 [] 0) 12) (lkR 2 1 0 0 [] 0) 1 0 (permM 2) 12=T at *
 generalize hR:Post encI B p w ((T).run S)=R
 have hO:Owes R encI B p w ((T).run S):=hR▸owes _ _ _ _ _
 clear hR
 have hK:=Keep.refl [2,3,4] B p w
 go_enter Tryz.func140,Tryz.ntmps140
 go_upto_region 1 with fail
 refine wp_region_lit ?_
 refine load_obj rfl _ rfl rfl _ rfl bk rfl g1 rfl ?_
 try simp only [put_pack]
 go_wp2_with fail
 clear g1
 refine tlast hO hK hq (fun _ h=>⟨rfl,h⟩) ?_
 intro v S1 w1 hr hP1 hk1 hK1 hO1
 have hf:=hO1.done hP1 hK1
 clear hO1 hP1 hK1 hr hk1 hO h hK hq
 go_wp2_with fail
 first | exact hf | (go_ret;exact hf)
theorem seal2 (B p:Nat)(S:TS)(bk:Nat)(w:World)(h:Plays B w p S)(hta:TameA S)(hD:S.left<12)(hn0:S.nts.length+10*S.left<=90000)(g1:Blk w bk (.cells #[.int .i64 0,.int .i64 0,.int .i64 0,.int .i64 0,.int .i64 2,.int .i64 0,.int .i64 0,.int .i64 0,.int .i64 2,.int .i64 1,.int .i64 1,.int .i64 0,.int .i64 0,.int .i64 1,.int .i64 0,.int .i64 0,.int .i64 0,.int .i64 0,.int .i64 0,.int .i64 0,.int .i64 0,.int .i64 1,.int .i64 0] 69)) :
  Calls Tryz.prog 141 #[.pointer (some ⟨p,0,none⟩),.pointer (some ⟨bk,0,none⟩)] w (Post encI B p w ((giveA (inA (lkA 12 2 1 0 0 1 [] 0) 12) (lkR 2 1 0 0 [] 0) 1 0).run S)):=by
 have hq:Calls Tryz.prog 68 #[.pointer (some ⟨p,0,none⟩),.agg #[.int .i64 0,.int .i64 0,.int .i64 0,.int .i64 0,.int .i64 2,.int .i64 0,.int .i64 0,.int .i64 0,.int .i64 2,.int .i64 1,.int .i64 1,.int .i64 0,.int .i64 0,.int .i64 1,.int .i64 0,.int .i64 0,.int .i64 0,.int .i64 0,.int .i64 0,.int .i64 0,.int .i64 0,.int .i64 1,.int .i64 0],.int .i64 0] w (Post encI B p w ((giveA (inA (lkA 12 2 1 0 0 1 [] 0) 12) (lkR 2 1 0 0 [] 0) 1 0).run S)) :=
  give_p B p 1 12 S 2 2 1 0 0 1 1 0 0 [] w h use35 hta hD hn0 (by decide)
 generalize giveA (inA (lkA 12 2 1 0 0 1 [] 0) 12) (lkR 2 1 0 0 [] 0) 1 0=T at *
 generalize hR:Post encI B p w ((T).run S)=R
 have hO:Owes R encI B p w ((T).run S):=hR▸owes _ _ _ _ _
 clear hR
 have hK:=Keep.refl [2,3,4] B p w
 go_enter Tryz.func141,Tryz.ntmps141
 go_upto_region 1 with fail
 refine wp_region_lit ?_
 refine load_obj rfl _ rfl rfl _ rfl bk rfl g1 rfl ?_
 try simp only [put_pack]
 go_wp2_with fail
 clear g1
 refine tlast hO hK hq (fun _ h=>⟨rfl,h⟩) ?_
 intro v S1 w1 hr hP1 hk1 hK1 hO1
 have hf:=hO1.done hP1 hK1
 clear hO1 hP1 hK1 hr hk1 hO h hK hq
 go_wp2_with fail
 first | exact hf | (go_ret;exact hf)
theorem seal3 (B p:Nat)(S:TS)(bk:Nat)(w:World)(h:Plays B w p S)(hta:TameA S)(hD:S.left<12)(hn0:S.nts.length+10*S.left<=90000)(g1:Blk w bk (.cells #[.int .i64 0,.int .i64 0,.int .i64 0,.int .i64 0,.int .i64 2,.int .i64 0,.int .i64 0,.int .i64 0,.int .i64 2,.int .i64 1,.int .i64 1,.int .i64 0,.int .i64 0,.int .i64 1,.int .i64 0,.int .i64 0,.int .i64 0,.int .i64 0,.int .i64 0,.int .i64 0,.int .i64 0,.int .i64 1,.int .i64 0] 69)) :
  Calls Tryz.prog 142 #[.pointer (some ⟨p,0,none⟩),.pointer (some ⟨bk,0,none⟩)] w (Post encI B p w ((giveA (inA (lkA 12 2 1 0 0 1 [] 0) 12) (lkR 2 1 0 0 [] 0) 1 0).run S)):=by
 have hq:Calls Tryz.prog 68 #[.pointer (some ⟨p,0,none⟩),.agg #[.int .i64 0,.int .i64 0,.int .i64 0,.int .i64 0,.int .i64 2,.int .i64 0,.int .i64 0,.int .i64 0,.int .i64 2,.int .i64 1,.int .i64 1,.int .i64 0,.int .i64 0,.int .i64 1,.int .i64 0,.int .i64 0,.int .i64 0,.int .i64 0,.int .i64 0,.int .i64 0,.int .i64 0,.int .i64 1,.int .i64 0],.int .i64 0] w (Post encI B p w ((giveA (inA (lkA 12 2 1 0 0 1 [] 0) 12) (lkR 2 1 0 0 [] 0) 1 0).run S)) :=
  give_p B p 1 12 S 2 2 1 0 0 1 1 0 0 [] w h use35 hta hD hn0 (by decide)
 generalize giveA (inA (lkA 12 2 1 0 0 1 [] 0) 12) (lkR 2 1 0 0 [] 0) 1 0=T at *
 generalize hR:Post encI B p w ((T).run S)=R
 have hO:Owes R encI B p w ((T).run S):=hR▸owes _ _ _ _ _
 clear hR
 have hK:=Keep.refl [2,3,4] B p w
 go_enter Tryz.func142,Tryz.ntmps142
 go_upto_region 1 with fail
 refine wp_region_lit ?_
 refine load_obj rfl _ rfl rfl _ rfl bk rfl g1 rfl ?_
 try simp only [put_pack]
 go_wp2_with fail
 clear g1
 refine tlast hO hK hq (fun _ h=>⟨rfl,h⟩) ?_
 intro v S1 w1 hr hP1 hk1 hK1 hO1
 have hf:=hO1.done hP1 hK1
 clear hO1 hP1 hK1 hr hk1 hO h hK hq
 go_wp2_with fail
 first | exact hf | (go_ret;exact hf)
set_option maxRecDepth 100000 in
set_option maxHeartbeats 1000000 in
theorem alive36 (w:World):Calls Tryz.prog 63 #[] w fun e w'=>e=.returned (.bool true)/\Ext w w':=by
 have hmf:∀ (fn:Fn) (first cap:Array Value) (w:World),(Instr.makeFunc fn first cap).run Tryz.prog w=.ok (.func fn first cap) w:=fun _ _ _ _=>rfl
 have hput:=fun w=>put_r 2 2 1 1 0 0 1 [] w use35.ok
 rw [show lkC 2 1 []=1 from rfl,show lkL 2 []=0 from rfl] at hput
 go_enter Tryz.func63,Tryz.ntmps63
 go_wp2_with fail
 refine (hput _).mono ?_
 rintro e w0 ⟨rfl,hX⟩
 clear hput
 rename_i hKK
 refine hKK _ _ ?_
 clear hKK
 refine new_obj rfl rfl rfl _ _ rfl _ rfl rfl rfl (by kernel_rfl) ?_
 refine wpList_nil ?_
 have b1:=Blk.new w0 (.cells #[.int .i64 0,.int .i64 0,.int .i64 0,.int .i64 0,.int .i64 2,.int .i64 0,.int .i64 0,.int .i64 0,.int .i64 2,.int .i64 1,.int .i64 1,.int .i64 0,.int .i64 0,.int .i64 1,.int .i64 0,.int .i64 0,.int .i64 0,.int .i64 0,.int .i64 0,.int .i64 0,.int .i64 0,.int .i64 1,.int .i64 0] 69)
 replace hX:=hX.alloc (.cells #[.int .i64 0,.int .i64 0,.int .i64 0,.int .i64 0,.int .i64 2,.int .i64 0,.int .i64 0,.int .i64 0,.int .i64 2,.int .i64 1,.int .i64 1,.int .i64 0,.int .i64 0,.int .i64 1,.int .i64 0,.int .i64 0,.int .i64 0,.int .i64 0,.int .i64 0,.int .i64 0,.int .i64 0,.int .i64 1,.int .i64 0] 69)
 generalize hbk:w0.heap.size=bk at *
 generalize World.alloc w0 _=V0 at *
 clear hbk
 go_wp2_with fail
 have hA:=ints_new V0 [0,7,0,0,0,7,1,0,0,0] (by simp)
 replace b1:=b1.alloc (.cells #[.int .i64 0,.int .i64 7,.int .i64 0,.int .i64 0,.int .i64 0,.int .i64 7,.int .i64 1,.int .i64 0,.int .i64 0,.int .i64 0] 3)
 replace hX:=hX.alloc (.cells #[.int .i64 0,.int .i64 7,.int .i64 0,.int .i64 0,.int .i64 0,.int .i64 7,.int .i64 1,.int .i64 0,.int .i64 0,.int .i64 0] 3)
 have hsz:V0.heap.size<(World.alloc V0 (.cells #[.int .i64 0,.int .i64 7,.int .i64 0,.int .i64 0,.int .i64 0,.int .i64 7,.int .i64 1,.int .i64 0,.int .i64 0,.int .i64 0] 3)).heap.size:=by simp
 rw [show (.cells (([0,7,0,0,0,7,1,0,0,0]:List Int).map (Value.int .i64)).toArray 3:Obj)=(.cells #[.int .i64 0,.int .i64 7,.int .i64 0,.int .i64 0,.int .i64 0,.int .i64 7,.int .i64 1,.int .i64 0,.int .i64 0,.int .i64 0] 3) from rfl,show ([0,7,0,0,0,7,1,0,0,0]:List Int).length=10 from rfl] at hA
 generalize World.alloc V0 _=V0a at *
 have hPl:=play_err 140 #[.pointer (some ⟨bk,0,none⟩)] (takeA (inA (lkA 12 2 1 0 0 1 [] 0) 12) (lkR 2 1 0 0 [] 0) 1 0 (permM 2) 12) none 0 [] (some ⟨V0.heap.size,0,none⟩) 10 [0,7,0,0,0,7,1,0,0,0] V0a (Ints.nil _) (by simp) hA (by simp [maxAns]) (fun k hk=>by simp only [Value.ownBlock,Option.some.injEq] at hk;omega) (fun _ _=>rfl) (fun W p hxW hP=>seal1 _ p _ bk W hP (fun v hv=>by
  simp [TS0] at hv
  omega) (show ([0,7,0,0,0,7,1,0,0,0]:List Int).length-0<12 by simp) (by simp [TS0,TS.left]) (b1.ext hxW))
 have e1:((takeA (inA (lkA 12 2 1 0 0 1 [] 0) 12) (lkR 2 1 0 0 [] 0) 1 0 (permM 2) 12).run (TS0 [] [0,7,0,0,0,7,1,0,0,0])).1=some 0:=by decide +kernel
 have e2:((takeA (inA (lkA 12 2 1 0 0 1 [] 0) 12) (lkR 2 1 0 0 [] 0) 1 0 (permM 2) 12).run (TS0 [] [0,7,0,0,0,7,1,0,0,0])).2.acc.length=10:=by decide +kernel
 have e3:∀ i,((takeA (inA (lkA 12 2 1 0 0 1 [] 0) 12) (lkR 2 1 0 0 [] 0) 1 0 (permM 2) 12).run (TS0 [] [0,7,0,0,0,7,1,0,0,0])).2.loc i=([1]:List Int).getD i 0:=fun i=>by
  have h:((takeA (inA (lkA 12 2 1 0 0 1 [] 0) 12) (lkR 2 1 0 0 [] 0) 1 0 (permM 2) 12).run (TS0 [] [0,7,0,0,0,7,1,0,0,0])).2.loc i=if i=0 then 1 else 0:=by kernel_rfl
  rw [h]
  cases i with
  | zero=>rfl
  | succ i=>simp [List.getD]
 have e4:((takeA (inA (lkA 12 2 1 0 0 1 [] 0) 12) (lkR 2 1 0 0 [] 0) 1 0 (permM 2) 12).run (TS0 [] [0,7,0,0,0,7,1,0,0,0])).2.acc[7]?=some ⟨2,1,2⟩:=by kernel_rfl
 rw [e1,show ([0,7,0,0,0,7,1,0,0,0]:List Int).length=10 from rfl] at hPl
 generalize ((takeA (inA (lkA 12 2 1 0 0 1 [] 0) 12) (lkR 2 1 0 0 [] 0) 1 0 (permM 2) 12).run (TS0 [] [0,7,0,0,0,7,1,0,0,0])).2=S1 at *
 simp only [Option.getD_some,Option.isSome_some] at hPl
 refine hPl.mono ?_
 clear hPl e1 hA hsz
 rintro e y1 ⟨v1,rfl,hO,hx1⟩
 obtain⟨A1,c1,D1,d1,vs1,L1,rfl,hO1⟩:=hO
 have hsh:shortL L1=[1]:=(shortL_eq (L:=L1) (L':=[1]) fun i=>by rw [<- hO1.is i];exact e3 i).trans (by decide)
 have hl1:=hO1.locs
 rw [hsh] at hl1
 obtain⟨E1,k1,hvs1,_,_⟩:=hl1.slice
 subst hvs1
 obtain⟨ba,rfl,hba,q0,q1,q2⟩:=hO1.accs.at_ e4
 simp only at q0 q1 q2
 unfold outV
 rw [e2,show ([1]:List Int).length=1 from rfl]
 rw [show ([1]:List Int).length=1 from rfl] at hl1
 have hx9:=(Ext.refl y1).alloc (.cells #[.bool true,.slice (some ⟨ba,0,none⟩) 10 c1,.slice D1 S1.nts.length d1,.slice E1 1 k1] 30)
 replace hX:=(hX.trans hx1).trans hx9
 replace b1:=(b1.ext hx1).ext hx9
 have n1:=Blk.new y1 (.cells #[.bool true,.slice (some ⟨ba,0,none⟩) 10 c1,.slice D1 S1.nts.length d1,.slice E1 1 k1] 30)
 replace hl1:=hl1.ext hx9
 have q0:=(hx9.cell (p:=⟨ba,7*3,none⟩) hba).trans q0
 have q1:=(hx9.cell (p:=⟨ba,7*3+1,none⟩) hba).trans q1
 have q2:=(hx9.cell (p:=⟨ba,7*3+2,none⟩) hba).trans q2
 replace hba:=Nat.lt_of_lt_of_le hba hx9.size
 clear hx1 hx9 e2 e3 e4 hO1 hsh
 go_upto_region 3 with fail
 generalize World.alloc y1 _=V1 at *
 have hq:Hid (V1.cell? ⟨ba,7*3,none⟩=some (.int .i64 2)/\V1.cell? ⟨ba,7*3+1,none⟩=some (.int .i64 1)/\V1.cell? ⟨ba,7*3+2,none⟩=some (.int .i64 2)):=⟨q0,q1,q2⟩
 clear q0 q1 q2
 go_wp2_with fail
 have hPl:=play_err 141 #[.pointer (some ⟨bk,0,none⟩)] (giveA (inA (lkA 12 2 1 0 0 1 [] 0) 12) (lkR 2 1 0 0 [] 0) 1 0) none 0 [] none 0 [] V1 (Ints.nil _) (by simp) (Ints.nil _) (by simp [maxAns]) (fun k hk=>by simp [Value.ownBlock] at hk) (fun _ _=>rfl) (fun W p hxW hP=>seal2 _ p _ bk W hP (fun v hv=>by simp [TS0] at hv) (show ([]:List Int).length-0<12 by simp) (by simp [TS0,TS.left]) (b1.ext hxW))
 rw [giveA_none (show (TS0 [] []).got 0=0 from by decide)] at hPl
 simp only [Option.getD_some,Option.isSome_some,List.length_nil] at hPl
 refine hPl.mono ?_
 clear hPl
 rintro e y2 ⟨v2,rfl,hO,hx2⟩
 obtain⟨A2,c2,D2,d2,vs2,L2,rfl,hO2⟩:=hO
 obtain⟨E2,k2,hvs2,_,_⟩:=hO2.locs.slice
 subst hvs2
 unfold outV
 rw [show (TS0 [] []).acc.length=0 from rfl,show (TS0 [] []).nts.length=0 from rfl]
 have n2:=Blk.new y2 (.cells #[.bool true,.slice A2 0 c2,.slice D2 0 d2,.slice E2 (shortL L2).length k2] 30)
 have hx9:=hx2.alloc (.cells #[.bool true,.slice A2 0 c2,.slice D2 0 d2,.slice E2 (shortL L2).length k2] 30)
 replace hX:=hX.trans hx9
 replace b1:=b1.ext hx9
 replace n1:=n1.ext hx9
 replace hl1:=hl1.ext hx9
 have q0:=(hx9.cell (p:=⟨ba,7*3,none⟩) hba).trans hq.out.1
 have q1:=(hx9.cell (p:=⟨ba,7*3+1,none⟩) hba).trans hq.out.2.1
 have q2:=(hx9.cell (p:=⟨ba,7*3+2,none⟩) hba).trans hq.out.2.2
 replace hba:=Nat.lt_of_lt_of_le hba hx9.size
 clear hx2 hx9 hO2 hq
 go_upto_region 4 with fail
 generalize hV1:y1.heap.size=z1 at *
 generalize World.alloc y2 _=V2 at *
 have hq:Hid (V2.cell? ⟨ba,7*3,none⟩=some (.int .i64 2)/\V2.cell? ⟨ba,7*3+1,none⟩=some (.int .i64 1)/\V2.cell? ⟨ba,7*3+2,none⟩=some (.int .i64 2)):=⟨q0,q1,q2⟩
 have c_n1:=n1.cells
 clear q0 q1 q2
 go_wp2_with fail
 have hA:=ints_new V2 [0,2,0,0] (by simp)
 have hx9:=(Ext.refl V2).alloc (.cells #[.int .i64 0,.int .i64 2,.int .i64 0,.int .i64 0] 3)
 replace b1:=b1.ext hx9
 replace n1:=n1.ext hx9
 replace n2:=n2.ext hx9
 replace hX:=hX.trans hx9
 replace hl1:=hl1.ext hx9
 have q0:=(hx9.cell (p:=⟨ba,7*3,none⟩) hba).trans hq.out.1
 have q1:=(hx9.cell (p:=⟨ba,7*3+1,none⟩) hba).trans hq.out.2.1
 have q2:=(hx9.cell (p:=⟨ba,7*3+2,none⟩) hba).trans hq.out.2.2
 replace hba:=Nat.lt_of_lt_of_le hba hx9.size
 have hsz:V2.heap.size<(World.alloc V2 (.cells #[.int .i64 0,.int .i64 2,.int .i64 0,.int .i64 0] 3)).heap.size:=by simp
 clear hx9 hq c_n1
 rw [show (.cells (([0,2,0,0]:List Int).map (Value.int .i64)).toArray 3:Obj)=(.cells #[.int .i64 0,.int .i64 2,.int .i64 0,.int .i64 0] 3) from rfl,show ([0,2,0,0]:List Int).length=4 from rfl] at hA
 generalize World.alloc V2 _=V2a at *
 have hPl:=play_err 142 #[.pointer (some ⟨bk,0,none⟩)] (giveA (inA (lkA 12 2 1 0 0 1 [] 0) 12) (lkR 2 1 0 0 [] 0) 1 0) E1 k1 [1] (some ⟨V2.heap.size,0,none⟩) 4 [0,2,0,0] V2a hl1 (by simp) hA (by simp [maxAns]) (fun k hk=>by simp only [Value.ownBlock,Option.some.injEq] at hk;omega) (fun _ _=>rfl) (fun W p hxW hP=>seal3 _ p _ bk W hP (fun v hv=>by
  simp [TS0] at hv
  omega) (show ([0,2,0,0]:List Int).length-0<12 by simp) (by simp [TS0,TS.left]) (b1.ext hxW))
 have e1:((giveA (inA (lkA 12 2 1 0 0 1 [] 0) 12) (lkR 2 1 0 0 [] 0) 1 0).run (TS0 [1] [0,2,0,0])).1=some 0:=by decide +kernel
 rw [e1,show ([0,2,0,0]:List Int).length=4 from rfl,show ([1]:List Int).length=1 from rfl] at hPl
 generalize ((giveA (inA (lkA 12 2 1 0 0 1 [] 0) 12) (lkR 2 1 0 0 [] 0) 1 0).run (TS0 [1] [0,2,0,0])).2=S3 at *
 simp only [Option.getD_some,Option.isSome_some] at hPl
 refine hPl.mono ?_
 clear hPl e1 hA hsz
 rintro e y3 ⟨v3,rfl,hO,hx3⟩
 obtain⟨A3,c3,D3,d3,vs3,L3,rfl,hO3⟩:=hO
 obtain⟨E3,k3,hvs3,_,_⟩:=hO3.locs.slice
 subst hvs3
 unfold outV
 have hx9:=hx3.alloc (.cells #[.bool true,.slice A3 S3.acc.length c3,.slice D3 S3.nts.length d3,.slice E3 (shortL L3).length k3] 30)
 replace hX:=hX.trans hx9
 replace n1:=n1.ext hx9
 replace n2:=n2.ext hx9
 have q0:=(hx9.cell (p:=⟨ba,7*3,none⟩) hba).trans q0
 have q1:=(hx9.cell (p:=⟨ba,7*3+1,none⟩) hba).trans q1
 have q2:=(hx9.cell (p:=⟨ba,7*3+2,none⟩) hba).trans q2
 replace b1:=b1.ext hx9
 clear hx3 hx9 hO3 hl1
 generalize hV2:V2.heap.size=z2 at *
 generalize hV3:y2.heap.size=z3 at *
 clear hV1 hV2 hV3
 go_upto_region 5 with fail
 generalize World.alloc y3 _=V3 at *
 have c_n1:=n1.cells
 have c_n2:=n2.cells
 go_wp2_with fail
 refine (strips36 _).mono ?_
 rintro e w5 ⟨b5,rfl,hb5,hx5⟩
 clear c_n1 c_n2 n1 n2 q0 q1 q2
 replace hX:=hX.trans hx5
 replace b1:=b1.ext hx5
 clear hx5
 go_wp2_with fail
 refine (counted36 b5 2 _ hb5.lt hb5.cells).mono ?_
 rintro e w6 ⟨rfl,hx6⟩
 replace hX:=hX.trans hx6
 replace b1:=b1.ext hx6
 clear hx6 hb5
 go_wp2_with fail
 refine (locals36 _).mono ?_
 rintro e w7 ⟨rfl,hx7⟩
 replace hX:=hX.trans hx7
 replace b1:=b1.ext hx7
 clear hx7
 rename_i hKK
 refine hKK _ _ ?_
 clear hKK
 refine wpList_wanted (by kernel_rfl) fun K hK=>?_
 unfold Oper.wp execOp
 go_simp
 refine hK _ _ ?_
 clear hK K
 refine wpList_plain rfl fun K hK=>?_
 unfold Oper.wp execOp
 go_simp
 refine hK _ _ ?_
 clear hK K
 refine wpList_plain rfl fun K hK=>?_
 unfold Oper.wp execOp
 go_simp
 refine hK _ _ ?_
 clear hK K
 refine load_objG (by kernel_rfl) _ rfl bk rfl b1 rfl ?_
 clear b1
 go_wp2_with fail
 refine (perm_p 2 2 1 1 0 0 1 1 0 _).mono ?_
 rintro e w8 ⟨rfl,hx8⟩
 have hf:=Lib.hid (hX.trans hx8)
 clear hx8 hX
 rw [show permM 2=2 from by decide]
 go_wp2_with fail
 first | go_ret2 | go_ret
 exact⟨rfl,hf.out⟩
end Go.Proofs.YtbaajjkopdjbgaaGreat
namespace Kv
def TS.told (S:TS) (v:Int) (a:Acc):TS:={ S with ans:=S.ans++[v],acc:=S.acc++[a] }
inductive Sol {α:Type}:Prog α->TS->List Int->Nat->Prog α->TS->List Int->Prop
 | refl (T:Prog α) (S:TS) (M:List Int):Sol T S M 0 T S M
 | read (c:Nat) {k:Int->Prog α} {S:TS} {M:List Int} {v:Int} {n:Nat} {T':Prog α} {S':TS} {M':List Int} (h:M[c]?=some v) (t:Sol (k v) (S.told v ⟨1,c,0⟩) M n T' S' M'):Sol (.read c k) S M (n+1) T' S' M'
 | write (c:Nat) (v:Int) {k:Unit->Prog α} {S:TS} {M:List Int} {n:Nat} {T':Prog α} {S':TS} {M':List Int} (h:c<M.length) (t:Sol (k ()) (S.told v ⟨2,c,v⟩) (M.set c v) n T' S' M'):Sol (.write c v k) S M (n+1) T' S' M'
 | get (i:Int) {k:Int->Prog α} {S:TS} {M:List Int} {n:Nat} {T':Prog α} {S':TS} {M':List Int} (t:Sol (k (S.got i)) S M n T' S' M'):Sol (.get i k) S M n T' S' M'
 | set (i v:Int) {k:Unit->Prog α} {S:TS} {M:List Int} {n:Nat} {T':Prog α} {S':TS} {M':List Int} (t:Sol (k ()) (S.upd i v) M n T' S' M'):Sol (.set i v k) S M n T' S' M'
 | note (m:Int) {k:Unit->Prog α} {S:TS} {M:List Int} {n:Nat} {T':Prog α} {S':TS} {M':List Int} (t:Sol (k ()) (S.noted m) M n T' S' M'):Sol (.note m k) S M n T' S' M'
namespace Sol
theorem trans {α:Type}{T T1 T2:Prog α}{S S1 S2:TS}{M M1 M2:List Int}{n m:Nat}(h:Sol T S M n T1 S1 M1)(g:Sol T1 S1 M1 m T2 S2 M2):Sol T S M (n+m) T2 S2 M2:=by
 induction h with
 | refl T S M=>rw [Nat.zero_add];exact g
 | read c h _ ih=>rw [Nat.add_right_comm];exact .read c h (ih g)
 | write c v h _ ih=>rw [Nat.add_right_comm];exact .write c v h (ih g)
 | get i _ ih=>exact .get i (ih g)
 | set i v _ ih=>exact .set i v (ih g)
 | note m _ ih=>exact .note m (ih g)
theorem bindl {α β:Type}{T T1:Prog α}{S S1:TS}{M M1:List Int}{n:Nat}(h:Sol T S M n T1 S1 M1)(f:α->Prog β):Sol (T.bind f) S M n (T1.bind f) S1 M1:=by
 induction h with
 | refl T S M=>exact .refl _ _ _
 | read c h _ ih=>exact .read c h ih
 | write c v h _ ih=>exact .write c v h ih
 | get i _ ih=>exact .get i ih
 | set i v _ ih=>exact .set i v ih
 | note m _ ih=>exact .note m ih
theorem bind {α β:Type}{T:Prog α}{a:α}{f:α->Prog β}{T2:Prog β}{S S1 S2:TS}{M M1 M2:List Int}{n m:Nat}(h:Sol T S M n (.ret a) S1 M1)(g:Sol (f a) S1 M1 m T2 S2 M2):Sol (T.bind f) S M (n+m) T2 S2 M2:=(h.bindl f).trans g
theorem len {α:Type}{T T1:Prog α}{S S1:TS}{M M1:List Int}{n:Nat}(h:Sol T S M n T1 S1 M1):S1.acc.length=S.acc.length+n/\S1.ans.length=S.ans.length+n:=by
 induction h with
 | refl T S M=>exact⟨rfl,rfl⟩
 | read c h _ ih=>simp only [TS.told,List.length_append,List.length_cons,List.length_nil] at ih;omega
 | write c v h _ ih=>simp only [TS.told,List.length_append,List.length_cons,List.length_nil] at ih;omega
 | get i _ ih=>exact ih
 | set i v _ ih=>rw [TS.upd_acc,TS.upd_ans] at ih;exact ih
 | note m _ ih=>exact ih
end Sol
theorem Sol.pre {α:Type}{T T1:Prog α}{S S1:TS}{M M1:List Int}{n:Nat}(h:Sol T S M n T1 S1 M1):∃ x,S1.ans=S.ans++x:=by
 induction h with
 | refl T S M=>exact⟨[],by simp⟩
 | read c h _ ih=>obtain⟨x,e⟩:=ih;exact⟨_ :: x,by rw [e];simp [TS.told];rfl⟩
 | write c v h _ ih=>obtain⟨x,e⟩:=ih;exact⟨_ :: x,by rw [e];simp [TS.told];rfl⟩
 | get i _ ih=>exact ih
 | set i v _ ih=>rw [TS.upd_ans] at ih;exact ih
 | note m _ ih=>exact ih
def Res {α:Type} (T:Prog α) (S:TS) (T':Prog α) (S':TS):Prop:=∀ x,T.run { S with ans:=S'.ans++x }=T'.run { S' with ans:=S'.ans++x }
theorem upd_with (S:TS)(l:List Int)(i v:Int):({ S with ans:=l }:TS).upd i v={ S.upd i v with ans:=l }:=by
 unfold TS.upd
 split <;> rfl
theorem Sol.stop {α:Type}{T T':Prog α}{S S':TS}{M M':List Int}{a:α}{n:Nat}(h:Sol T S M n T' S' M')(hn:n=0)(ha:T'=.ret a):T.run S=(some a,S')/\M'=M:=by
 induction h with
 | refl T S M=>subst ha;exact⟨rfl,rfl⟩
 | read c h _ ih=>omega
 | write c v h _ ih=>omega
 | get i _ ih=>exact ih hn ha
 | set i v _ ih=>exact ih hn ha
 | note m _ ih=>exact ih hn ha
theorem Sol.next {α:Type}{T T':Prog α}{S S':TS}{M M':List Int}{n:Nat}(h:Sol T S M n T' S' M'):∀ m,n=m+1->S.ans.length=S.acc.length->∃ (c:Nat) (a:Acc) (v:Int) (T1:Prog α) (S1 S2:TS) (M1:List Int),a.cell=c/\c<M.length /\
  (a.kind=1/\M1=M∨a.kind=2/\M1=M.set c a.val)/\M1[c]?=some v/\T.run S=(none,S1)/\S1.acc=S.acc++[a]/\S2.ans=S.ans++[v]/\S2.acc=S.acc++[a]/\Sol T1 S2 M1 m T' S' M'/\Res T S T1 S2:=by
 induction h with
 | refl T S M=>intro m h;omega
 | @read c k S M v n T' S' M' h t ih =>
   intro m hm hl
   have hnx:S.next=none:=by unfold TS.next;rw [List.getElem?_eq_none (by omega)]
   refine⟨c,⟨1,c,0⟩,v,k v,S.put ⟨1,c,0⟩,S.told v ⟨1,c,0⟩,M,rfl,(List.getElem?_eq_some_iff.1 h).1,.inl ⟨rfl,rfl⟩,h,?_,rfl,rfl,rfl,?_,?_⟩
   · simp only [Prog.run,hnx]
   · obtain rfl:n=m:=by omega
     exact t
   · intro x
     have hnx:({ S with ans:=(S.told v ⟨1,c,0⟩).ans++x }:TS).next=some v:=by
      unfold TS.next
      simp only [TS.told,List.append_assoc]
      rw [List.getElem?_append_right (by omega),<- hl,Nat.sub_self]
      rfl
     simp only [Prog.run,hnx]
     rfl
 | @write c v k S M n T' S' M' h t ih =>
   intro m hm hl
   have hnx:S.next=none:=by unfold TS.next;rw [List.getElem?_eq_none (by omega)]
   refine⟨c,⟨2,c,v⟩,v,k (),S.put ⟨2,c,v⟩,S.told v ⟨2,c,v⟩,M.set c v,rfl,h,.inr ⟨rfl,rfl⟩,by simp [h],?_,rfl,rfl,rfl,?_,?_⟩
   · simp only [Prog.run,hnx]
   · obtain rfl:n=m:=by omega
     exact t
   · intro x
     have hnx:({ S with ans:=(S.told v ⟨2,c,v⟩).ans++x }:TS).next=some v:=by
      unfold TS.next
      simp only [TS.told,List.append_assoc]
      rw [List.getElem?_append_right (by omega),<- hl,Nat.sub_self]
      rfl
     simp only [Prog.run,hnx]
     rfl
 | get i t ih=>intro m hm hl;exact ih m hm hl
 | @set i v k S M n T' S' M' t ih =>
   intro m hm hl
   obtain⟨c,a,u,T1,S1,S2,M1,h1,h2,h3,h4,h5,h6,h7,h8,h9,h10⟩:=ih m hm (by rw [TS.upd_acc,TS.upd_ans];exact hl)
   rw [TS.upd_acc] at h6 h8
   rw [TS.upd_ans] at h7
   refine⟨c,a,u,T1,S1,S2,M1,h1,h2,h3,h4,h5,h6,h7,h8,h9,fun x=>?_⟩
   have:=h10 x
   rw [<- upd_with] at this
   exact this
 | note q t ih=>intro m hm hl;exact ih m hm hl
theorem Res.refl {α:Type}(T:Prog α)(S:TS):Res T S T S:=fun _=>rfl
theorem Res.trans {α:Type}{T T1 T2:Prog α}{S S1 S2:TS}{v:Int}(h:Res T S T1 S1)(g:Res T1 S1 T2 S2)(hv:S2.ans=S1.ans++[v]):Res T S T2 S2:=fun x=>by
 have:=h (v :: x)
 rw [<- g x,hv,List.append_assoc]
 exact this
theorem Res.now {α:Type}{T T':Prog α}{S S':TS}(h:Res T S T' S'):T.run { S with ans:=S'.ans }=T'.run S':=by
 have:=h []
 rw [List.append_nil] at this
 exact this
end Kv
namespace Go.Proofs.YtbaajjkopdjbgaaGreat
open Kv
def Does {α:Type} (T:Prog α) (loc:Nat->Int) (M:List Int) (n:Nat) (a:α) (loc':Nat->Int) (M':List Int):Prop :=
 ∀ S:TS,S.loc=loc->TameA S->∃ S',Sol T S M n (.ret a) S' M'/\S'.loc=loc'/\TameA S'
theorem told_tame {S:TS}(h:TameA S){v:Int}(hv:0<=v/\v<=1048576)(a:Acc):TameA (S.told v a):=by
 intro x hx
 rcases List.mem_append.1 hx with hx | hx
 · exact h x hx
 · rw [List.mem_singleton.1 hx];exact hv
theorem Does.ret {α:Type}(a:α)(loc:Nat->Int)(M:List Int):Does (.ret a) loc M 0 a loc M:=fun S h1 h2=>⟨S,.refl _ _ _,h1,h2⟩
theorem Does.bind {α β:Type}{T:Prog α}{f:α->Prog β}{l l1 l2:Nat->Int}{M M1 M2:List Int}{n m:Nat}{a:α}{b:β}(h:Does T l M n a l1 M1)(g:Does (f a) l1 M1 m b l2 M2):Does (T.bind f) l M (n+m) b l2 M2:=by
 intro S h1 h2
 obtain⟨S1,q1,q2,q3⟩:=h S h1 h2
 obtain⟨S2,r1,r2,r3⟩:=g S1 q2 q3
 exact⟨S2,q1.bind r1,r2,r3⟩
theorem Does.rd {c:Int}{k:Nat}{loc:Nat->Int}{M:List Int}{v:Int}(hc:c=k)(h:M[k]?=some v)(hv:0<=v/\v<=1048576):Does (rd c) loc M 1 v loc M:=by
 subst hc
 exact fun S h1 h2=>⟨_,.read k h (.refl _ _ _),h1,told_tame h2 hv _⟩
theorem Does.wr {c:Int}{k:Nat}{loc:Nat->Int}{M:List Int}{v:Int}(hc:c=k)(h:k<M.length)(hv:0<=v/\v<=1048576):Does (wr c v) loc M 1 () loc (M.set k v):=by
 subst hc
 exact fun S h1 h2=>⟨_,.write k v h (.refl _ _ _),h1,told_tame h2 hv _⟩
theorem Does.gt {l:Int}{k:Nat}{loc:Nat->Int}{M:List Int}(hl:l=k):Does (gt l) loc M 0 (loc k) loc M:=by
 subst hl
 intro S h1 h2
 have e:S.got (k:Int)=loc k:=by
  unfold TS.got
  rw [if_neg (by omega),h1]
  rfl
 exact⟨S,.get _ (e▸.refl _ _ _),h1,h2⟩
def putF (loc:Nat->Int) (k:Nat) (v:Int):Nat->Int:=fun j=>if j=k then v else loc j
theorem Does.st {l:Int}{k:Nat}{loc:Nat->Int}{M:List Int}{v:Int}(hl:l=k)(hk:k<32768):Does (st l v) loc M 0 () (putF loc k v) M:=by
 subst hl
 intro S h1 h2
 refine⟨S.upd k v,.set _ _ (.refl _ _ _),?_,?_⟩
 · unfold TS.upd
   rw [if_pos (by omega)]
   simp only [Int.toNat_natCast,h1]
   rfl
 · intro x hx
   rw [TS.upd_ans] at hx
   exact h2 x hx
theorem Does.nt {m:Int}{loc:Nat->Int}{M:List Int}:Does (nt m) loc M 0 () loc M:=fun _ h1 h2=>⟨_,.note _ (.refl _ _ _),h1,h2⟩
theorem Does.cast {α:Type}{T:Prog α}{l l':Nat->Int}{M M' M2:List Int}{n m:Nat}{a b:α}(h:Does T l M n a l' M')(hn:n=m)(ha:a=b)(hM:M'=M2):Does T l M m b l' M2:=by
 subst hn ha hM
 exact h
theorem does_zeroC {c:Int}{k D:Nat}{loc:Nat->Int}{M:List Int}(hc:c=k)(h:M[k]?=some 0):Does (zeroC c (D+1)) loc M 1 () loc M:=by
 refine ((Does.rd hc h (by decide)).bind (m:=0) ?_).cast rfl rfl rfl
 exact Does.ret _ _ _
theorem does_oneUp {D me:Nat}{loc:Nat->Int}{M:List Int}(h:∀ j,j<me->M[j]?=some 0):∀ (f j:Nat),j<=me->me-j<f->Does (oneUp D 0 me f j) loc M (me-j) () loc M
 | 0,j,_,hf=>absurd hf (by omega)
 | f+1,j,hj,hf=>by
   by_cases he:j<me
   · rw [show oneUp D 0 me (f+1) j=(rd (0+(j:Int))).bind fun x=>if x=0 then oneUp D 0 me f (j+1) else
      (wr (0+(me:Int)) 0).bind fun _=>(zeroC (0+(j:Int)) D).bind fun _=>(wr (0+(me:Int)) 1).bind fun _=>oneUp D 0 me f 0 from if_pos he]
     refine ((Does.rd (k:=j) (by omega) (h j he) (by decide)).bind (m:=me-(j+1)) ?_).cast (by omega) rfl rfl
     rw [if_pos rfl]
     exact does_oneUp h f (j+1) (by omega) (by omega)
   · obtain rfl:j=me:=by omega
     rw [show oneUp D 0 j (f+1) j=.ret () from if_neg he]
     exact (Does.ret _ _ _).cast (by omega) rfl rfl
theorem does_ranks {D:Nat}{loc:Nat->Int}{M:List Int}:∀ (n s:Nat),(∀ j,s<=j->j<s+n->M[j]?=some 0)->Does (forP (fun j _=>zeroC (0+j) (D+1)) (ranksFrom (-1) n s) ()) loc M n () loc M
 | 0,s,_=>Does.ret _ _ _
 | n+1,s,h=>by
   rw [show ranksFrom (-1) (n+1) (s:Int)=(s:Int) :: ranksFrom (-1) n ((s+1:Nat):Int) from by
    show (if (s:Int)=-1 then _ else _)=_
    rw [if_neg (by omega)]
    rfl]
   refine ((does_zeroC (k:=s) (by omega) (h s (by omega) (by omega))).bind (m:=n) ?_).cast (by omega) rfl rfl
   exact does_ranks n (s+1) fun j h1 h2=>h j (by omega) (by omega)
theorem does_one {D N me:Nat}{loc:Nat->Int}{M:List Int}(hm:me<N)(hD:me<D+1)(h:∀ j,j<N->M[j]?=some 0):Does (oneA (D+1) 0 N me) loc M N 0 loc (M.set me 1):=by
 have hl:me<M.length:=(List.getElem?_eq_some_iff.1 (h me hm)).1
 have hs:∀ j,j<N->j≠me->(M.set me 1)[j]?=some 0:=fun j h1 h2=>by rw [List.getElem?_set_ne (by omega)];exact h j h1
 unfold oneA
 refine (Does.nt.bind (m:=N) ?_).cast (by omega) rfl rfl
 refine ((Does.wr (k:=me) (by omega) hl (by decide)).bind (m:=N-1) ?_).cast (by omega) rfl rfl
 refine ((does_oneUp (fun j hj=>hs j (by omega) (by omega)) (D+1) 0 (by omega) (by omega)).bind (m:=N-1-me) ?_).cast (by omega) rfl rfl
 refine (Does.nt.bind (m:=N-1-me) ?_).cast (by omega) rfl rfl
 have hr:=does_ranks (D:=D) (loc:=loc) (N-1-me) (me+1) fun j h1 h2=>hs j (by omega) (by omega)
 rw [show ((me+1:Nat):Int)=(me:Int)+1 from by omega] at hr
 refine (hr.bind (m:=0) ?_).cast (by omega) rfl rfl
 refine (Does.nt.bind (m:=0) ?_).cast rfl rfl rfl
 exact Does.ret _ _ _
theorem does_in {T:Prog Int}{l l':Nat->Int}{M M':List Int}{n D:Nat}(h:Does T l M n 0 l' M'):Does (inA T (D+1)) l M n () l' M':=by
 refine (h.bind (m:=0) ?_).cast (by omega) rfl rfl
 rw [if_neg (by decide)]
 exact Does.ret _ _ _
theorem does_inside {α:Type}{Q:Prog α}{D N me q:Nat}{l l':Nat->Int}{M M1:List Int}{x:α}(hm:me<N)(hD:me<D+1)(h:∀ j,j<N->M[j]?=some 0)(hq:Does Q l (M.set me 1) q x l' M1)(hl:M1.length=M.length) :
  Does (insideA (inA (lkA (D+1) 2 N 0 0 1 [] me) (D+1)) (lkR 2 N 0 0 [] me) Q) l M (N+q+1) x l' (M1.set me 0):=by
 have hml:me<M.length:=(List.getElem?_eq_some_iff.1 (h me hm)).1
 unfold insideA
 refine ((does_in (show Does (lkA (D+1) 2 N 0 0 1 [] me) l M N 0 l (M.set me 1) from does_one hm hD h)).bind (m:=q+1) ?_).cast (by omega) rfl rfl
 refine (hq.bind (m:=1) ?_).cast (by omega) rfl rfl
 have hr:Does (lkR 2 N 0 0 [] me) l' M1 1 () l' (M1.set me 0):=(Does.nt.bind (m:=1) (Does.wr (k:=me) (by omega) (by omega) (by decide))).cast rfl rfl rfl
 refine (hr.bind (m:=0) ?_).cast rfl rfl rfl
 exact Does.ret _ _ _
theorem Sol.take {α:Type}{T T':Prog α}{S S':TS}{M M':List Int}{n:Nat}(h:Sol T S M n T' S' M'):∀ m,m<=n->∃ T1 S1 M1 x,Sol T S M m T1 S1 M1/\S'.ans=S1.ans++x:=by
 induction h with
 | refl T S M =>
   intro m hm
   obtain rfl:m=0:=by omega
   exact⟨T,S,M,[],.refl _ _ _,by simp⟩
 | @read c k S M v n T' S' M' h t ih =>
   intro m hm
   cases m with
   | zero =>
     obtain⟨x,hx⟩:=t.pre
     exact⟨_,S,M,v :: x,.refl _ _ _,by rw [hx];simp [TS.told]⟩
   | succ m =>
     obtain⟨T1,S1,M1,x,h1,h2⟩:=ih m (by omega)
     exact⟨T1,S1,M1,x,.read c h h1,h2⟩
 | @write c v k S M n T' S' M' h t ih =>
   intro m hm
   cases m with
   | zero =>
     obtain⟨x,hx⟩:=t.pre
     exact⟨_,S,M,v :: x,.refl _ _ _,by rw [hx];simp [TS.told]⟩
   | succ m =>
     obtain⟨T1,S1,M1,x,h1,h2⟩:=ih m (by omega)
     exact⟨T1,S1,M1,x,.write c v h h1,h2⟩
 | get i t ih=>intro m hm;obtain⟨T1,S1,M1,x,h1,h2⟩:=ih m hm;exact⟨T1,S1,M1,x,.get i h1,h2⟩
 | set i v t ih=>intro m hm;obtain⟨T1,S1,M1,x,h1,h2⟩:=ih m hm;exact⟨T1,S1,M1,x,.set i v h1,h2⟩
 | note q t ih=>intro m hm;obtain⟨T1,S1,M1,x,h1,h2⟩:=ih m hm;exact⟨T1,S1,M1,x,.note q h1,h2⟩
end Go.Proofs.YtbaajjkopdjbgaaGreat
namespace Go.Proofs.YtbaajjkopdjbgaaGreat
open Go.RowKit Kv
theorem set_bit0 {M:List Int}{m:Nat}(hm:M[m]?=some 0):(M.set m 1).set m 0=M:=by
 apply List.ext_getElem?
 intro i
 have hl:=(List.getElem?_eq_some_iff.1 hm).1
 simp only [List.getElem?_set,List.length_set]
 by_cases h1:m=i
 · subst h1
   simp [hl,(List.getElem?_eq_some_iff.1 hm).2]
 · simp [h1]
def cellsM (N:Nat) (l:List Int):List Int:=List.replicate N 0++l
theorem cellsM_bit {N:Nat}{l:List Int}{j:Nat}(h:j<N):(cellsM N l)[j]?=some 0:=by
 unfold cellsM
 rw [List.getElem?_append_left (by simpa using h)]
 simp [h]
theorem cellsM_at {N:Nat}{l:List Int}(k:Nat):(cellsM N l)[N+k]?=l[k]?:=by
 unfold cellsM
 rw [List.getElem?_append_right (by simp)]
 simp
theorem cellsM_set {N:Nat}{l:List Int}(k:Nat)(v:Int):(cellsM N l).set (N+k) v=cellsM N (l.set k v):=by
 unfold cellsM
 rw [List.set_append_right _ _ (by simp)]
 simp
theorem cellsM_len (N:Nat)(l:List Int):(cellsM N l).length=N+l.length:=by simp [cellsM]
theorem held_at {N m:Nat}{l:List Int}(hm:m<N)(k:Nat):((cellsM N l).set m 1)[N+k]?=l[k]?:=by
 rw [List.getElem?_set_ne (by omega),cellsM_at]
theorem held_set {N m:Nat}{l:List Int}(hm:m<N)(k:Nat)(v:Int):((cellsM N l).set m 1).set (N+k) v=(cellsM N (l.set k v)).set m 1:=by
 rw [List.set_comm _ _ (by omega),cellsM_set]
theorem held_len {N m:Nat}{l:List Int}:((cellsM N l).set m 1).length=N+l.length:=by rw [List.length_set,cellsM_len]
theorem does_within {α:Type}{Q:Prog α}{D N m q:Nat}{loc loc':Nat->Int}{l l':List Int}{x:α}(hm:m<N)(hD:m<D+1)(hq:Does Q loc ((cellsM N l).set m 1) q x loc' ((cellsM N l').set m 1))(hl:l'.length=l.length) :
  Does (insideA (inA (lkA (D+1) 2 N 0 0 1 [] m) (D+1)) (lkR 2 N 0 0 [] m) Q) loc (cellsM N l) (N+q+1) x loc' (cellsM N l'):=by
 refine (does_inside hm hD (fun j hj=>cellsM_bit hj) hq (by rw [held_len,cellsM_len,hl])).cast rfl rfl ?_
 exact set_bit0 (cellsM_bit hm)
theorem does_rdk {N m k:Nat}{c:Int}{loc:Nat->Int}{l:List Int}{v:Int}(hm:m<N)(hc:c=(N:Int)+k)(h:l[k]?=some v)(hv:0<=v/\v<=1048576):Does (rd c) loc ((cellsM N l).set m 1) 1 v loc ((cellsM N l).set m 1) :=
 Does.rd (k:=N+k) (by omega) ((held_at hm k).trans h) hv
theorem does_wrk {N m k:Nat}{c:Int}{loc:Nat->Int}{l:List Int}{v:Int}(hm:m<N)(hc:c=(N:Int)+k)(h:k<l.length)(hv:0<=v/\v<=1048576):Does (wr c v) loc ((cellsM N l).set m 1) 1 () loc ((cellsM N (l.set k v)).set m 1) :=
 (Does.wr (k:=N+k) (by omega) (by rw [held_len];omega) hv).cast rfl rfl (held_set hm k v)
section
variable {D N m:Nat} {loc:Nat->Int} {a q:Int}
theorem does_tail (hm:m<N)(hq:0<=q/\q<=1000):Does (tailA N) loc ((cellsM N [a,q,q]).set m 1) 2 q loc ((cellsM N [a,q,q+1]).set m 1):=by
 unfold tailA
 refine ((does_rdk (k:=2) hm (by omega) rfl (by omega)).bind (m:=1) ?_).cast rfl rfl rfl
 rw [show wrap64 (q+1)=q+1 from by unfold wrap64;omega]
 refine ((does_wrk (k:=2) hm (by omega) (by simp) (by omega)).bind (m:=0) ?_).cast rfl rfl rfl
 exact Does.ret _ _ _
theorem does_enter {P:Int}(hm:m<N)(hq:0<=q/\q<=1000)(ha:0<=a/\a<=100)(hP:a<P):Does (enterA N q P) loc ((cellsM N [a,q,q+1]).set m 1) 4 true loc ((cellsM N [a+1,q+1,q+1]).set m 1):=by
 unfold enterA
 refine ((does_rdk (k:=1) hm (by omega) rfl (by omega)).bind (m:=3) ?_).cast rfl rfl rfl
 rw [if_pos rfl]
 refine ((does_rdk (k:=0) hm (by omega) rfl (by omega)).bind (m:=2) ?_).cast rfl rfl rfl
 rw [if_pos hP,show wrap64 (a+1)=a+1 from by unfold wrap64;omega,show wrap64 (q+1)=q+1 from by unfold wrap64;omega]
 refine ((does_wrk (k:=0) hm (by omega) (by simp) (by omega)).bind (m:=1) ?_).cast rfl rfl rfl
 refine ((does_wrk (k:=1) hm (by omega) (by simp) (by omega)).bind (m:=0) ?_).cast rfl rfl rfl
 exact Does.ret _ _ _
theorem does_enter_no {P:Int}(hm:m<N)(hq:0<=q/\q<=1000)(ha:0<=a/\a<=100)(hP:P<=a):Does (enterA N q P) loc ((cellsM N [a,q,q+1]).set m 1) 2 false loc ((cellsM N [a,q,q+1]).set m 1):=by
 unfold enterA
 refine ((does_rdk (k:=1) hm (by omega) rfl (by omega)).bind (m:=1) ?_).cast rfl rfl rfl
 rw [if_pos rfl]
 refine ((does_rdk (k:=0) hm (by omega) rfl (by omega)).bind (m:=0) ?_).cast rfl rfl rfl
 rw [if_neg (by omega)]
 exact Does.ret _ _ _
theorem does_lower (hm:m<N)(ha:1<=a/\a<=100):Does (lowerA N) loc ((cellsM N [a,q,q]).set m 1) 2 () loc ((cellsM N [a-1,q,q]).set m 1):=by
 unfold lowerA
 refine ((does_rdk (k:=0) hm (by omega) rfl (by omega)).bind (m:=1) ?_).cast rfl rfl rfl
 rw [show max (a-1) 0=a-1 from by omega]
 exact does_wrk (k:=0) hm (by omega) (by simp) (by omega)
theorem does_take {P:Int}{n:Nat}(hm:m<N)(hD:m<D+1)(hq:0<=q/\q<=1000)(ha:0<=a/\a<=100)(hP:a<P)(hl:0<=loc 0/\loc 0<=1000) :
  Does (takeA (inA (lkA (D+1) 2 N 0 0 1 [] m) (D+1)) (lkR 2 N 0 0 [] m) N 0 P (n+1)) loc (cellsM N [a,q,q]) (2*N+8) 0 (putF loc 0 (loc 0+1)) (cellsM N [a+1,q+1,q+1]):=by
 unfold takeA
 refine ((does_within hm hD (does_tail hm hq) rfl).bind (m:=N+4+1) ?_).cast (by omega) rfl rfl
 refine (Does.bind (n:=N+4+1) (a:=()) (l1:=loc) (M1:=cellsM N [a+1,q+1,q+1]) (m:=0) ?_ ?_).cast (by omega) rfl rfl
 · rw [show ∀ I U,enterW I U N q P (n+1)=(insideA I U (enterA N q P)).bind fun g=>if g=true then .ret () else enterW I U N q P n from fun _ _=>rfl]
   refine ((does_within hm hD (does_enter hm hq ha hP) rfl).bind (m:=0) ?_).cast rfl rfl rfl
   rw [if_pos rfl]
   exact Does.ret _ _ _
 · refine ((Does.gt (k:=0) rfl).bind (m:=0) ?_).cast rfl rfl rfl
   rw [show wrap64 (loc 0+1)=loc 0+1 from by unfold wrap64;omega]
   refine ((Does.st (k:=0) rfl (by decide)).bind (m:=0) ?_).cast rfl rfl rfl
   exact Does.ret _ _ _
theorem does_give (hm:m<N)(hD:m<D+1)(ha:1<=a/\a<=100)(hl:1<=loc 0/\loc 0<=1000) :
  Does (giveA (inA (lkA (D+1) 2 N 0 0 1 [] m) (D+1)) (lkR 2 N 0 0 [] m) N 0) loc (cellsM N [a,q,q]) (N+3) 0 (putF loc 0 (loc 0-1)) (cellsM N [a-1,q,q]):=by
 unfold giveA
 refine ((Does.gt (k:=0) rfl).bind (m:=N+3) ?_).cast (by omega) rfl rfl
 rw [if_neg (by omega)]
 refine ((does_within hm hD (does_lower hm ha) rfl).bind (m:=0) ?_).cast (by omega) rfl rfl
 rw [show wrap64 (loc 0-1)=loc 0-1 from by unfold wrap64;omega]
 refine ((Does.st (k:=0) rfl (by decide)).bind (m:=0) ?_).cast rfl rfl rfl
 exact Does.ret _ _ _
theorem does_give_no {M:List Int}{I U:Prog Unit}(hl:loc 0=0):Does (giveA I U N 0) loc M 0 9 loc M:=by
 unfold giveA
 refine ((Does.gt (k:=0) rfl).bind (m:=0) ?_).cast (by omega) rfl rfl
 rw [if_pos hl]
 exact Does.ret _ _ _
theorem rounds {P:Int}{n:Nat}(hm:m<N)(hD:m<D+1)(hq:0<=q/\q<=1000)(ha:0<=a/\a<=100)(hP:P<=a):∀ (k:Nat) (S:TS),S.loc=loc->TameA S ->
  ∃ S',Sol (enterW (inA (lkA (D+1) 2 N 0 0 1 [] m) (D+1)) (lkR 2 N 0 0 [] m) N q P (n+k)) S (cellsM N [a,q,q+1]) (k*(N+3)) (enterW (inA (lkA (D+1) 2 N 0 0 1 [] m) (D+1)) (lkR 2 N 0 0 [] m) N q P n) S' (cellsM N [a,q,q+1])/\S'.loc=loc/\TameA S'
 | 0,S,h1,h2=>⟨S,by rw [Nat.zero_mul];exact .refl _ _ _,h1,h2⟩
 | k+1,S,h1,h2=>by
   obtain⟨S1,q1,q2,q3⟩:=(does_within (loc:=loc) hm hD (does_enter_no hm hq ha hP) rfl) S h1 h2
   obtain⟨S2,r1,r2,r3⟩:=rounds hm hD hq ha hP k S1 q2 q3
   refine⟨S2,?_,r2,r3⟩
   rw [show n+(k+1)=(n+k)+1 from by omega,show ∀ I U,enterW I U N q P ((n+k)+1)=(insideA I U (enterA N q P)).bind fun g=>if g=true then .ret () else enterW I U N q P (n+k) from fun _ _=>rfl,show (k+1)*(N+3)=(N+2+1)+k*(N+3) from by rw [Nat.add_mul];omega]
   refine q1.bind ?_
   rw [if_neg (by decide)]
   exact r1
theorem stuck {P:Int}{n:Nat}(hm:m<N)(hD:m<D+1)(hq:0<=q/\q<=1000)(ha:0<=a/\a<=100)(hP:P<=a)(hn:201<=n)(S:TS)(h1:S.loc=loc)(h2:TameA S) :
  ∃ T1 S1 M1,Sol (takeA (inA (lkA (D+1) 2 N 0 0 1 [] m) (D+1)) (lkR 2 N 0 0 [] m) N 0 P n) S (cellsM N [a,q,q]) 201 T1 S1 M1/\TameA S1:=by
 obtain⟨S1,q1,q2,q3⟩:=(does_within (loc:=loc) hm hD (does_tail (a:=a) hm hq) rfl) S h1 h2
 obtain⟨S2,r1,r2,r3⟩:=rounds (n:=n-201) (loc:=loc) hm hD hq ha hP 201 S1 q2 q3
 rw [show n-201+201=n from by omega] at r1
 have h:=q1.bind (β:=Int) (f:=fun t=>(enterW (inA (lkA (D+1) 2 N 0 0 1 [] m) (D+1)) (lkR 2 N 0 0 [] m) N t P n).bind fun _=>(gt 0).bind fun x=>(st 0 (wrap64 (x+1))).bind fun _=>.ret (0:Int)) (r1.bindl _)
 obtain⟨T3,S3,M3,x,g1,g2⟩:=Sol.take h 201 (by omega)
 exact⟨T3,S3,M3,g1,fun v hv=>r3 v (g2▸List.mem_append_left _ hv)⟩
end
structure BelowX (X:Nat->Prop) (w w':World):Prop where
 os:w'.os=w.os
 tape:w'.tape=w.tape
 output:w'.output=w.output
 size:w.heap.size<=w'.heap.size
 blocks:∀ k,k<w.heap.size->¬ X k->w'.heap[k]?=w.heap[k]?
theorem BelowX.of {X:Nat->Prop}{w w':World}(h:Ext w w'):BelowX X w w':=⟨h.os,h.tape,h.output,h.size,fun k hk _=>h.block k hk⟩
theorem BelowX.refl (X:Nat->Prop)(w:World):BelowX X w w:=BelowX.of (Ext.refl w)
theorem BelowX.trans {X:Nat->Prop}{w w' w'':World}(h:BelowX X w w')(g:BelowX X w' w''):BelowX X w w'' :=
 ⟨g.os.trans h.os,g.tape.trans h.tape,g.output.trans h.output,Nat.le_trans h.size g.size,fun k hk hx=>(g.blocks k (Nat.lt_of_lt_of_le hk h.size) hx).trans (h.blocks k hk hx)⟩
theorem BelowX.set {X:Nat->Prop}{w w':World}(h:BelowX X w w'){b:Nat}(hb:X b)(i:Nat)(v:Value):BelowX X w (w'.setCell ⟨b,i,none⟩ v):=by
 have e:∀ k,k≠b->(w'.setCell ⟨b,i,none⟩ v).heap[k]?=w'.heap[k]?:=fun k hk=>heap_setCell_ne _ _ hk
 exact⟨h.os,h.tape,h.output,by simpa using h.size,fun k hk hx=>(e k (fun hkb=>hx (hkb▸hb))).trans (h.blocks k hk hx)⟩
theorem BelowX.mono {X Y:Nat->Prop}{w w':World}(h:BelowX X w w')(hxy:∀ k,X k->Y k):BelowX Y w w' :=
 ⟨h.os,h.tape,h.output,h.size,fun k hk hx=>h.blocks k hk fun q=>hx (hxy k q)⟩
theorem BelowX.blk {X:Nat->Prop}{w w':World}(h:BelowX X w w'){b:Nat}{o:Obj}(hb:Blk w b o)(hx:¬ X b):Blk w' b o:=(h.blocks b hb.lt hx).trans hb
theorem BelowX.ints {X:Nat->Prop}{w w':World}{v:Value}{l:List Int}(h:BelowX X w w')(hl:Ints w v l)(hx:∀ b,v.ownBlock=some b->¬ X b):Ints w' v l:=by
 obtain⟨A,c,rfl,h1,h2,h3⟩:=hl
 refine⟨A,c,rfl,h1,h2,fun hne=>?_⟩
 obtain⟨b,off,rfl,hb,hc⟩:=h3 hne
 refine⟨b,off,rfl,Nat.lt_of_lt_of_le hb h.size,fun i x hi=>?_⟩
 rw [<- hc i x hi]
 unfold World.cell?
 simp only
 rw [h.blocks b hb (hx b rfl)]
theorem BelowX.grown {X:Nat->Prop}{w w' wr:World}{o:Obj}{row:Option Nat}(h:BelowX X w wr)(hg:(wr.alloc o).grownBy w' row)(hr:∀ b,row=some b->w.heap.size<=b):BelowX X w w':=by
 have h1:=h.trans (BelowX.of ((Ext.refl wr).alloc o))
 exact⟨hg.os.trans h1.os,hg.tape.trans h1.tape,hg.output.trans h1.output,Nat.le_trans h1.size hg.size,fun k hk hx=>(hg.block k (Nat.lt_of_lt_of_le hk h1.size) (fun e=>by have:=hr k e.symm;omega)).trans (h1.blocks k hk hx)⟩
set_option maxRecDepth 100000 in
set_option maxHeartbeats 1000000 in
theorem goes_p (F:FuncId)(caps:Array Value)(T T':Prog Int)(S':TS)(M M' L:List Int)(n most bc bl il:Nat)(e0:Int)(A:Option Addr)(cl:Nat)(vs:Array Value)(tl:TypeId)(K0:World->Prop)(w:World)
  (hcf:∀ (args:Array Value) (w:World),(callFunc F args).run Tryz.prog w=.ok (.enter F args) w)(hK0:∀ W W',BelowX (fun k=>k=bc) W W'->K0 W->K0 W')
  (hSt:Sol T (TS0 L []) M n T' S' M')(hend:(T'=.ret e0/\n<=most)∨n=most+1)(hmost:most<=1000)(hTa:∀ v∈S'.ans,0<=v/\v<=1048576)
  (hbc:Blk w bc (.cells (M.map (Value.int .i64)).toArray 3))(hbl:Blk w bl (.cells vs tl))(hvs:vs[il]?=some (.slice A L.length cl))(hL:Ints w (.slice A L.length cl) L)(hL2:L.length<=32768)
  (hAb:∀ b,(Value.slice A L.length cl).ownBlock=some b->b≠bc)(hne:bc≠bl)(_hMl:M.length<=100000)(hk0:K0 w)
  (hdo:∀ (W0 W:World) (p:Nat) (ans:List Int),K0 W0->Ext W0 W->Plays W0.heap.size W p (TS0 L ans)->ans.length<=most->(∀ v∈ans,0<=v/\v<=1048576)->Calls Tryz.prog F (#[.pointer (some ⟨p,0,none⟩)]++caps) W (Post encI W0.heap.size p W (T.run (TS0 L ans)))) :
  Calls Tryz.prog 79 #[.func (.func F) #[] caps,.slice (some ⟨bc,0,none⟩) M.length M.length,.pointer (some ⟨bl,il,none⟩),.int .i64 most] w fun e w' =>
   ((∃ (v:Value) (L':List Int),e=.returned (.tuple #[.int .i64 e0,.bool true])/\T'=.ret e0/\n<=most/\Blk w' bc (.cells (M'.map (Value.int .i64)).toArray 3)/\Blk w' bl (.cells (vs.setIfInBounds il v) tl) /\
      Ints w' v (shortL L')/\(∀ i,L'.getD i 0=S'.loc i)/\L'.length<=32768/\(∀ b,v.ownBlock=some b->w.heap.size<=b)) ∨
     (e=.returned (.tuple #[.int .i64 0,.bool false])/\n=most+1))/\BelowX (fun k=>k=bc∨k=bl) w w':=by
 generalize hR:(fun (e:Ending) (w':World) =>
   ((∃ (v:Value) (L':List Int),e=.returned (.tuple #[.int .i64 e0,.bool true])/\T'=.ret e0/\n<=most/\Blk w' bc (.cells (M'.map (Value.int .i64)).toArray 3)/\Blk w' bl (.cells (vs.setIfInBounds il v) tl) /\
      Ints w' v (shortL L')/\(∀ i,L'.getD i 0=S'.loc i)/\L'.length<=32768/\(∀ b,v.ownBlock=some b->w.heap.size<=b)) ∨
     (e=.returned (.tuple #[.int .i64 0,.bool false])/\n=most+1))/\BelowX (fun k=>k=bc∨k=bl) w w')=R
 have hyes:∀ (v:Value) (L':List Int) (w':World),T'=.ret e0->n<=most->Blk w' bc (.cells (M'.map (Value.int .i64)).toArray 3)->Blk w' bl (.cells (vs.setIfInBounds il v) tl) ->
   Ints w' v (shortL L')->(∀ i,L'.getD i 0=S'.loc i)->L'.length<=32768->(∀ b,v.ownBlock=some b->w.heap.size<=b)->BelowX (fun k=>k=bc∨k=bl) w w'->R (.returned (.tuple #[.int .i64 e0,.bool true])) w' :=
  fun v L' w' h1 h2 h3 h4 h5 h6 h7 h8 h9=>hR▸⟨.inl ⟨v,L',rfl,h1,h2,h3,h4,h5,h6,h7,h8⟩,h9⟩
 have hno:∀ w',n=most+1->BelowX (fun k=>k=bc∨k=bl) w w'->R (.returned (.tuple #[.int .i64 0,.bool false])) w':=fun w' h1 h2=>hR▸⟨.inr ⟨rfl,h1⟩,h2⟩
 clear hR
 have hlen0:=hSt.len
 replace hlen0:=Lib.hid hlen0
 have hyesh:=Lib.hid hyes
 have hnoh:=Lib.hid hno
 have hdoh:=Lib.hid hdo
 have hK0h:=Lib.hid hK0
 have hendh:=Lib.hid hend
 have hTah:=Lib.hid hTa
 have hAbh:=Lib.hid hAb
 have hmostn:n<=most+1:=by have:=hendh.out;omega
 have hbcl:=hbc.lt
 have hbll:=hbl.lt
 have hili:il<vs.size:=(Array.getElem?_eq_some_iff.1 hvs).1
 clear hyes hno hdo hK0 hend hTa hAb
 go_enter Tryz.func79,Tryz.ntmps79
 go_wp2_with fail
 go_loopw [10,11,12,13,14] (fun v i _ _ _ wr=>∃ (j:Nat) (Tj:Prog Int) (Sj:TS) (Mj:List Int),i=.int .i64 j/\j<=n/\Hid (Sol Tj Sj Mj (n-j) T' S' M'/\Res T (TS0 L []) Tj Sj/\Sj.acc.length=j)/\Mj.length=M.length/\Sj.ans.length=j/\IntRow wr w.heap.size v Sj.ans /\
   Blk wr bc (.cells (Mj.map (Value.int .i64)).toArray 3)/\BelowX (fun k=>k=bc) w wr) (fun _ i _ _ _ _=>most+1-(intOf i).toNat)
 case atStart=>exact⟨0,T,TS0 L [],M,rfl,by omega,⟨hSt,Res.refl _ _,rfl⟩,rfl,rfl,IntRow.nil _ _,hbc,BelowX.refl _ _⟩
 case round =>
  have hblh:Hid (∀ W,BelowX (fun k=>k=bc) w W->Blk W bl (.cells vs tl)):=fun W h=>h.blk hbl fun e=>hne e.symm
  have hLh:Hid (∀ W,BelowX (fun k=>k=bc) w W->Ints W (.slice A L.length cl) L):=fun W h=>h.ints hL hAbh.out
  have hk0h:Hid (∀ W,BelowX (fun k=>k=bc) w W->K0 W):=fun W h=>hK0h.out _ _ h hk0
  clear hbc hbl hL hk0 hSt hK0h
  obtain⟨j,Tj,Sj,Mj,rfl,hj,hS,hMj,hja,hrow,hbc,hB⟩:=hrel
  by_cases hjm:j<=most
  rotate_left
  · have d1:decide ((j:Int)<=(most:Int))=false:=by rw [decide_eq_false_iff_not];omega
    have hf:=hnoh.out _ (by omega) (hB.mono fun k hk=>.inl hk)
    clear hS hrow hbc hB hnoh hyesh
    go_wp2_with fail
    first | with_reducible exact hf | (go_ret;exact hf) | exact hf
  have d1:decide ((j:Int)<=(most:Int))=true:=by rw [decide_eq_true_eq];omega
  have c_bl:wr.cell? ⟨bl,il,none⟩=some (.slice A L.length cl):=((hblh.out _ hB).cells il).trans hvs
  obtain⟨Aa,ca,rfl,hca1,hca2⟩:=hrow.ints.slice
  have htam:∀ v∈Sj.ans,0<=v/\v<=1048576:=fun v hv=>by
   obtain⟨x,hx⟩:=hS.out.1.pre
   exact hTah.out v (hx▸List.mem_append_left _ hv)
  have hPl:=play_errB F caps T A cl L Aa ca Sj.ans wr (hLh.out _ hB) hL2 hrow.ints (by rw [hja];unfold maxAns;omega) (fun b hb=>(hrow.lt b hb).2) hcf (fun W p hx hP=>hdoh.out wr W p Sj.ans (hk0h.out _ hB) hx hP (by omega) htam)
  rw [show T.run (TS0 L Sj.ans)=Tj.run Sj from hS.out.2.1.now] at hPl
  have hPh:=Lib.hid hPl
  have hrowh:=Lib.hid hrow
  clear hPl htam hrow
  go_wp2_with fail
  refine Calls.mono (by rw [<- hja];exact hPh.out) ?_
  clear hPh
  rintro e w1 ⟨v,rfl,hO,hvb,hx⟩
  obtain⟨A1,c1,D1,d1',vs1,L1,rfl,hO⟩:=hO
  obtain⟨E1,k1,hvs1,_,_⟩:=hO.locs.slice
  subst hvs1
  obtain⟨_,_,_,_,he,hvb⟩:=hvb
  unfold outV at he ⊢
  simp only [Value.agg.injEq,Array.mk.injEq,List.cons.injEq,and_true] at he
  obtain⟨_,_,_,rfl⟩:=he
  clear c_bl
  cases hnj:n-j with
  | zero =>
    obtain rfl:j=n:=by omega
    have hT':=hendh.out.resolve_right (by omega)
    obtain⟨hrun,hM'⟩:=Sol.stop hS.out.1 hnj hT'.1
    rw [hrun] at hO ⊢
    simp only [Option.isSome_some,Option.getD_some] at hO ⊢
    have hx':=hx.alloc (.cells #[.bool true,.slice A1 S'.acc.length c1,.slice D1 S'.nts.length d1',.slice E1 (shortL L1).length k1] 30)
    have bo:=Blk.new w1 (.cells #[.bool true,.slice A1 S'.acc.length c1,.slice D1 S'.nts.length d1',.slice E1 (shortL L1).length k1] 30)
    replace hO:=hO.ext ((Ext.refl w1).alloc (.cells #[.bool true,.slice A1 S'.acc.length c1,.slice D1 S'.nts.length d1',.slice E1 (shortL L1).length k1] 30))
    have hrow:=row_ext hrowh.out hx'
    replace hbc:=hbc.ext hx'
    have hBs:=hB.size
    replace hB:=hB.trans (BelowX.of hx')
    have hsz1:=hx'.size
    clear hx' hx hrowh
    have c_bo:=bo.cells
    generalize hzo:w1.heap.size=zo at *
    generalize hW1:World.alloc w1 _=W1 at *
    have hbl:=hblh.out _ hB
    have hfz:W1.frozen? ⟨bl,il,none⟩=false:=frozen_of_heap hbl il
    have hb2:Blk (W1.setCell ⟨bl,il,none⟩ (.slice E1 (shortL L1).length k1)) bl (.cells (vs.setIfInBounds il (.slice E1 (shortL L1).length k1)) tl):=heap_setCell hbl _
    have hb3:Blk (W1.setCell ⟨bl,il,none⟩ (.slice E1 (shortL L1).length k1)) bc (.cells (M'.map (Value.int .i64)).toArray 3):=(heap_setCell_ne _ _ hne).trans (hM'▸hbc)
    have hIn:Ints (W1.setCell ⟨bl,il,none⟩ (.slice E1 (shortL L1).length k1)) (.slice E1 (shortL L1).length k1) (shortL L1):=(BelowX.set (X:=fun k=>k=bl) (BelowX.refl _ W1) rfl il _).ints hO.locs (fun b hb he=>by have:=hvb b hb;omega)
    have hf:=Lib.hid (hyesh.out (.slice E1 (shortL L1).length k1) L1 _ hT'.1 hT'.2 hb3 hb2 hIn (fun i=>(hO.is i).symm) hO.len (fun b hb=>Nat.le_trans hBs (hvb b hb)) ((hB.mono fun k hk=>.inl hk).set (.inr rfl) _ _))
    have c_l:=(hbl.cells il).trans hvs
    clear hyesh hnoh hdoh hk0h hblh hLh hendh hTah hAbh hS hrow hbc hbl hB hb2 hb3 hIn hO bo hvs hT' hrun hM'
    subst hW1
    go_wp2_with fail
    first | with_reducible exact hf.out | (go_ret;exact hf.out) | exact hf.out
  | succ m =>
    obtain⟨c,a,x,T1,S1,S2,M1,hac,hcM,hkind,hx1,hrun,hacc1,hans2,hacc2,hst,hres⟩:=hS.out.1.next m hnj (by rw [hS.out.2.2];exact hja)
    rw [hrun] at hO ⊢
    simp only [Option.isSome_none,Option.getD_none] at hO ⊢
    have hsj:=hS.out.2.2
    have hl1:S1.acc.length=j+1:=by rw [hacc1];simp [hsj]
    rw [hl1]
    have hx':=hx.alloc (.cells #[.bool false,.slice A1 (j+1) c1,.slice D1 S1.nts.length d1',.slice E1 (shortL L1).length k1] 30)
    have bo:=Blk.new w1 (.cells #[.bool false,.slice A1 (j+1) c1,.slice D1 S1.nts.length d1',.slice E1 (shortL L1).length k1] 30)
    replace hO:=hO.ext ((Ext.refl w1).alloc (.cells #[.bool false,.slice A1 (j+1) c1,.slice D1 S1.nts.length d1',.slice E1 (shortL L1).length k1] 30))
    have hrow:=row_ext hrowh.out hx'
    replace hbc:=hbc.ext hx'
    have hBs:=hB.size
    replace hB:=hB.trans (BelowX.of hx')
    have hsz1:=hx'.size
    clear hx' hx hrowh
    have c_bo:=bo.cells
    generalize hzo:w1.heap.size=zo at *
    generalize hW1:World.alloc w1 _=W1 at *
    have hat:S1.acc[j]?=some a:=by rw [hacc1,List.getElem?_append_right (by omega)];simp [hsj]
    obtain⟨ba,rfl,hba,q0,q1,q2⟩:=hO.accs.at_ hat
    rw [hac] at q1
    have hSh:=Lib.hid (show Sol T1 S2 M1 m T' S' M'/\Res T (TS0 L []) T1 S2/\S2.acc.length=j+1 from ⟨hst,hS.out.2.1.trans hres hans2,by rw [hacc2];simp [hsj]⟩)
    have hans2h:=Lib.hid hans2
    have hxj:=(List.getElem?_eq_some_iff.1 hx1).1
    have hM1l:M1.length=M.length:=by rcases hkind with⟨_,e⟩ | ⟨_,e⟩ <;> rw [e] <;> simp [hMj]
    clear hst hres hans2 hacc2 hacc1 hrun hat hO bo hyesh hnoh hsj
    have e0:(((j+1:Nat):Int)==0)=false:=by rw [beq_eq_false_iff_ne];omega
    have e1:decide ((c:Int)<0)=false:=by rw [decide_eq_false_iff_not];omega
    have e2:decide ((M.length:Int)<=(c:Int))=false:=by rw [decide_eq_false_iff_not];omega
    obtain⟨ak,ac,av⟩:=a
    simp only at hac q0 q1 q2 hkind
    clear hac
    have hkindh:=Lib.hid hkind
    have hx1h:=Lib.hid hx1
    have bA:=Blk.new W1 (.cells #[.int .i64 ak,.int .i64 c,.int .i64 av] 112)
    have hx':=(Ext.refl W1).alloc (.cells #[.int .i64 ak,.int .i64 c,.int .i64 av] 112)
    replace hrow:=row_ext hrow hx'
    replace hbc:=hbc.ext hx'
    have hza:w.heap.size<=W1.heap.size:=hB.size
    replace hB:=hB.trans (BelowX.of hx')
    replace hsz1:=Nat.le_trans hsz1 hx'.size
    generalize hzz:W1.heap.size=za at *
    generalize hW2:World.alloc W1 _=W2 at *
    have c_ac:=bA.cells
    clear hkind hx1 hS hx' bA
    subst hW2 hW1
    go_upto_region 14 with fail
    generalize World.alloc (World.alloc w1 _) _=W2 at *
    clear q0 q1 q2 c_bo hzz hzo e0 e1 e2 hba
    have hsz2:w.heap.size<=W2.heap.size:=hB.size
    have hlen9:Sj.ans.length<1000000000000:=by omega
    have hcm:c<Mj.length:=hcM
    have hxh:Hid (M1[c]?=some x):=hx1h.out
    have hblk:=Lib.hid hblh.out
    rcases hkindh.out with⟨rfl,hM1⟩ | ⟨rfl,hM1⟩
    · have hc0:W2.cell? ⟨bc,c,none⟩=some (.int .i64 x):=by
       rw [hbc.cells c]
       have:=hxh.out
       rw [hM1] at this
       simp [this]
      have hf:Hid (∀ v' w',IntRow w' w.heap.size v' (Sj.ans++[x])->(W2.alloc (.cells #[.int .i64 x] 3)).grownBy w' (Value.slice Aa j ca).ownBlock->Blk w' bc (.cells (M1.map (Value.int .i64)).toArray 3)/\BelowX (fun k=>k=bc) w w'):=by
       intro v' w' _ hg
       have hr:∀ b,(Value.slice Aa j ca).ownBlock=some b->w.heap.size<=b:=fun b hb=>(hrow.lt b (by rw [hja];exact hb)).1
       refine⟨?_,hB.grown hg hr⟩
       rw [hM1]
       exact grown_heap (hbc.alloc _) (fun e=>by have:=hr bc e;omega) hg
      clear hkindh hx1h hM1 hxh hbc hB
      go_wp2_with (at_builtin;refine append_int rfl _ _ rfl w.heap.size _ Sj.ans x (by rw [<- hja] at *;exact hrow) rfl rfl hlen9 hsz2 ?_)
      intro v' w1' hown hgrow
      obtain⟨hbc',hB'⟩:=hf.out v' w1' hown hgrow
      rw [<- hans2h.out] at hown
      have hS9:=hSh.out
      have hnm:m=n-(j+1):=by omega
      rw [hnm] at hS9
      have hl9:S2.ans.length=j+1:=by rw [hans2h.out];simp [hja]
      have hSk:=Lib.hid hS9
      clear hf hgrow hSh hans2h hS9 c_ac
      go_wp2_with fail
      refine⟨⟨j+1,T1,S2,M1,by first | rfl | go_num,by omega,hSk.out,hM1l,hl9,hown,hbc',hB'⟩,?_⟩
      simp [intOf]
      omega
    · have hc0:W2.cell? ⟨bc,c,none⟩=some (.int .i64 (Mj.getD c 0)):=by
       rw [hbc.cells c]
       simp [hcm]
      have hfz:W2.frozen? ⟨bc,c,none⟩=false:=frozen_of_heap hbc c
      obtain rfl:x=av:=by
       have:=hxh.out
       rw [hM1] at this
       simpa [hcm] using this.symm
      have hb3:Blk (W2.setCell ⟨bc,c,none⟩ (.int .i64 x)) bc (.cells (M1.map (Value.int .i64)).toArray 3):=by
       have h:=heap_setCell (i:=c) hbc (.int .i64 x)
       rw [hM1]
       have e:((Mj.map (Value.int .i64)).toArray).setIfInBounds c (.int .i64 x)=((Mj.set c x).map (Value.int .i64)).toArray:=by
        rw [List.map_set]
        simp
       rw [<- e]
       exact h
      have hB3:=hB.set (b:=bc) rfl c (.int .i64 x)
      have hrow3:=row_set (i:=c) (u:=.int .i64 x) hrow (fun e=>by
       have:=(hrow.lt bc e).1
       omega)
      have hsz3:w.heap.size<=(W2.setCell ⟨bc,c,none⟩ (.int .i64 x)).heap.size:=hB3.size
      have hcx:(W2.setCell ⟨bc,c,none⟩ (.int .i64 x)).cell? ⟨bc,c,none⟩=some (.int .i64 x):=by
       rw [hb3.cells c]
       have:=hxh.out
       simp [this]
      have c_ac3:∀ i,(W2.setCell ⟨bc,c,none⟩ (.int .i64 x)).cell? ⟨za,i,none⟩=(#[.int .i64 2,.int .i64 c,.int .i64 x]:Array Value)[i]?:=by
       intro i
       rw [<- c_ac i]
       unfold World.cell?
       simp only
       rw [heap_setCell_ne _ _ (show za≠bc by omega)]
      clear hkindh hx1h hM1 hxh hbc hB hrow
      go_upto_region 16 with fail
      generalize World.setCell W2 _ _=W3 at *
      clear c_ac hc0 hfz
      have hf:Hid (∀ v' w',IntRow w' w.heap.size v' (Sj.ans++[x])->(W3.alloc (.cells #[.int .i64 x] 3)).grownBy w' (Value.slice Aa j ca).ownBlock->Blk w' bc (.cells (M1.map (Value.int .i64)).toArray 3)/\BelowX (fun k=>k=bc) w w'):=by
       intro v' w' _ hg
       have hr:∀ b,(Value.slice Aa j ca).ownBlock=some b->w.heap.size<=b:=fun b hb=>(hrow3.lt b (by rw [hja];exact hb)).1
       refine⟨?_,hB3.grown hg hr⟩
       exact grown_heap (hb3.alloc _) (fun e=>by have:=hr bc e;omega) hg
      clear hb3 hB3
      go_wp2_with (at_builtin;refine append_int rfl _ _ rfl w.heap.size _ Sj.ans x (by rw [<- hja] at *;exact hrow3) rfl rfl hlen9 hsz3 ?_)
      intro v' w1' hown hgrow
      obtain⟨hbc',hB'⟩:=hf.out v' w1' hown hgrow
      rw [<- hans2h.out] at hown
      have hS9:=hSh.out
      have hnm:m=n-(j+1):=by omega
      rw [hnm] at hS9
      have hl9:S2.ans.length=j+1:=by rw [hans2h.out];simp [hja]
      have hSk:=Lib.hid hS9
      clear hf hgrow hSh hans2h hS9 c_ac3 hcx
      go_wp2_with fail
      refine⟨⟨j+1,T1,S2,M1,by first | rfl | go_num,by omega,hSk.out,hM1l,hl9,hown,hbc',hB'⟩,?_⟩
      simp [intOf]
      omega
end Go.Proofs.YtbaajjkopdjbgaaGreat
namespace Go.Proofs.YtbaajjkopdjbgaaGreat
open Go.ChangeShapes Go.WideShapes Go.ChangeAt Go.RowKit Kv
def U8s (w:World) (v:Value) (l:List Int):Prop :=
 ∃ A c,v=.slice A l.length c/\l.length<=c/\c<=9223372036854775807/\(l≠[]->∃ b off,A=some ⟨b,off,none⟩/\b<w.heap.size/\∀ i x,l[i]?=some x->w.cell? ⟨b,off+i,none⟩=some (.int .u8 x))
theorem U8s.ext {w w':World}{v:Value}{l:List Int}(h:U8s w v l)(hx:Ext w w'):U8s w' v l:=by
 obtain⟨A,c,rfl,h1,h2,h3⟩:=h
 refine⟨A,c,rfl,h1,h2,fun hl=>?_⟩
 obtain⟨b,off,rfl,hb,hc⟩:=h3 hl
 exact⟨b,off,rfl,Nat.lt_of_lt_of_le hb (Ext.size hx),fun i x hi=>(Ext.cell hx (p:=⟨b,off+i,none⟩) hb).trans (hc i x hi)⟩
theorem U8s.at_ {w:World}{A:Option Addr}{n c:Nat}{l:List Int}(h:U8s w (.slice A n c) l){i:Nat}{x:Int}(hi:l[i]?=some x) :
  ∃ b off,A=some ⟨b,off,none⟩/\b<w.heap.size/\w.cell? ⟨b,off+i,none⟩=some (.int .u8 x):=by
 obtain⟨A',c',he,h1,h2,h3⟩:=h
 injection he with e1 e2 e3
 subst e1 e2 e3
 have hl:l≠[]:=by rintro rfl;simp at hi
 obtain⟨b,off,rfl,hb,hc⟩:=h3 hl
 exact⟨b,off,rfl,hb,hc i x hi⟩
theorem cellsByte:Tryz.prog.cellsOf 5=1:=by kernel_rfl
set_option maxRecDepth 100000 in
theorem bytes_arg {H:Type}{enc:TypeId × Value->H}{W:World}{b0:Nat}{r:Reach}{v:Value}{d:DataW H}{p:List MemPlace}
  (hv:Value.okWide Tryz.prog W r b0 54 v)(h:DataW.Trod enc Tryz.prog W 0 (fun _=>true) true 54 v d p) :
  ∃ l,U8s W v l/\∀ x∈l,0<=x/\x<256:=by
 obtain⟨a0,len,cap,rfl⟩:=okWide_slice Tryz.underlying54 hv
 obtain⟨fuel,hf⟩:=h
 rcases open_ints Tryz.underlying54 Tryz.underlying5 cellsByte hf with⟨hcs,hx⟩ | ⟨a,len',cap',zs,hcs,_,hl,hm,hz,hx,hcell,hwz⟩
 · simp [Value.cells] at hcs
   obtain⟨rfl,rfl,rfl⟩:=hcs
   exact⟨[],⟨none,0,rfl,by simp,by omega,fun h=>absurd rfl h⟩,by simp⟩
 · simp [Value.cells] at hcs
   obtain⟨rfl,rfl,rfl⟩:=hcs
   simp only [if_true] at hz
   refine⟨zs.take len,?_,fun x hx=>by have:=bounds_u8 (hwz x (List.mem_of_mem_take hx));omega⟩
   have hlen:(zs.take len).length=len:=by rw [List.length_take];omega
   refine⟨some a,cap,by rw [hlen],by omega,by unfold maxLen at hm;exact hm,fun hne=>?_⟩
   have hpos:0<zs.length:=by
    rcases Nat.eq_zero_or_pos zs.length with h0 | h0
    · have:zs=[]:=List.eq_nil_of_length_eq_zero h0
      subst this
      simp at hne
    · exact h0
   obtain⟨b,off,rfl,hc⟩:=ints_at hcell hpos
   refine⟨b,off,rfl,cell_lt (hc 0 hpos),fun i x hi=>?_⟩
   have hi2:i<zs.length:=by
    have:=(List.getElem?_eq_some_iff.1 hi).1
    rw [List.length_take] at this
    omega
   rw [hc i hi2]
   have hi3:i<len:=by
    have:=(List.getElem?_eq_some_iff.1 hi).1
    omega
   rw [List.getElem?_take,if_pos hi3] at hi
   rw [List.getD_eq_getElem?_getD,hi]
   rfl
end Go.Proofs.YtbaajjkopdjbgaaGreat
namespace Go.Proofs.YtbaajjkopdjbgaaGreat
open Go.RowKit Kv
theorem use36 {N m:Nat}(h1:1<=N)(h2:N<=4)(hm:m<N):LkUse 2 N 1 0 0 1 [] m :=
 ⟨⟨by decide,by omega,by decide,by decide,by decide,by decide,fun h=>absurd h (by decide),by show (0:Int)+N<=32768;omega,by decide⟩,hm,fun h=>absurd h.2 (by decide)⟩
theorem sum_set:∀ (l:List Int) (i:Nat) (v:Int),i<l.length->(l.set i v).sum=l.sum-l.getD i 0+v
 | [],i,v,h=>absurd h (by simp)
 | x :: l,0,v,_=>by simp [List.getD];omega
 | x :: l,i+1,v,h=>by
   have:=sum_set l i v (by simpa using h)
   simp only [List.set_cons_succ,List.sum_cons,this,List.getD_cons_succ]
   omega
theorem sum_ge:∀ (l:List Int) (i:Nat),(∀ x∈l,0<=x)->l.getD i 0<=l.sum
 | [],i,_=>by simp [List.getD]
 | x :: l,0,h=>by
   have h0:∀ l:List Int,(∀ x∈l,0<=x)->0<=l.sum:=fun l h=>by
    induction l with
    | nil=>simp
    | cons a l ih=>rw [List.sum_cons];have:=ih (fun y hy=>h y (by simp [hy]));have:=h a (by simp);omega
   have:=h0 l fun y hy=>h y (by simp [hy])
   simp [List.getD]
   omega
 | x :: l,i+1,h=>by
   have:=sum_ge l i fun y hy=>h y (by simp [hy])
   have:=h x (by simp)
   simp only [List.getD_cons_succ,List.sum_cons]
   omega
theorem getD_pos {l:List Int}(h:∀ x∈l,0<=x)(i:Nat):0<=l.getD i 0:=by
 by_cases hi:i<l.length
 · rw [List.getD_eq_getElem?_getD,List.getElem?_eq_getElem hi]
   exact h _ (List.getElem_mem hi)
 · rw [List.getD_eq_getElem?_getD,List.getElem?_eq_none (by omega)]
   exact Int.le_refl _
structure SInv (w0:World) (N:Nat) (ob:Obj) (bo bc bl bh:Nat) (tl:TypeId) (wr:World) (nums:List Int) (hs:List Int) (vs:Array Value):Prop where
 ext:Ext w0 wr
 kO:Blk wr bo ob
 kC:Blk wr bc (.cells ((cellsM N nums).map (Value.int .i64)).toArray 3)
 kL:Blk wr bl (.cells vs tl)
 sz:vs.size=4
 len:hs.length=4
 locs:∀ t,t<4->∃ A c L,vs[t]?=some (.slice A L.length c)/\Ints wr (.slice A L.length c) L/\L.length<=32768/\L.getD 0 0=hs.getD t 0/\∀ b,(Value.slice A L.length c).ownBlock=some b->b≠bc/\b≠bl/\b≠bh
 ge:w0.heap.size<=bo/\w0.heap.size<=bc/\w0.heap.size<=bl/\w0.heap.size<=bh
 ne:bo≠bc/\bo≠bl/\bo≠bh/\bc≠bl/\bc≠bh/\bl≠bh
 kH:bh<wr.heap.size
section
variable {w0:World} {N:Nat} {ob:Obj} {bo bc bl bh:Nat} {tl:TypeId} {wr W:World} {nums hs:List Int} {vs:Array Value}
theorem SInv.keep (h:SInv w0 N ob bo bc bl bh tl wr nums hs vs)(hx:Ext wr W):SInv w0 N ob bo bc bl bh tl W nums hs vs :=
 { h with
  ext:=h.ext.trans hx,kO:=h.kO.ext hx,kC:=h.kC.ext hx,kL:=h.kL.ext hx
  locs:=fun t ht=>by
   obtain⟨A,c,L,q1,q2,q3⟩:=h.locs t ht
   exact⟨A,c,L,q1,q2.ext hx,q3⟩
  kH:=Nat.lt_of_lt_of_le h.kH hx.size }
theorem SInv.setH (h:SInv w0 N ob bo bc bl bh tl wr nums hs vs)(i:Nat)(v:Value):SInv w0 N ob bo bc bl bh tl (wr.setCell ⟨bh,i,none⟩ v) nums hs vs:=by
 obtain⟨n1,n2,n3,n4,n5,n6⟩:=h.ne
 have hB:BelowX (fun k=>k=bh) wr (wr.setCell ⟨bh,i,none⟩ v):=(BelowX.refl (fun k=>k=bh) wr).set rfl i v
 exact { h with
  ext:=h.ext.setCell (p:=⟨bh,i,none⟩) h.ge.2.2.2 v,kO:=hB.blk h.kO n3,kC:=hB.blk h.kC n5,kL:=hB.blk h.kL n6
  locs:=fun t ht=>by
   obtain⟨A,c,L,q1,q2,q3,q4,q5⟩:=h.locs t ht
   exact⟨A,c,L,q1,hB.ints q2 fun b hb=>(q5 b hb).2.2,q3,q4,q5⟩
  kH:=by simpa using h.kH }
theorem SInv.went (h:SInv w0 N ob bo bc bl bh tl wr nums hs vs){t:Nat}(ht:t<4)(hB:BelowX (fun k=>k=bc∨k=bl) wr W){nums':List Int}(hc:Blk W bc (.cells ((cellsM N nums').map (Value.int .i64)).toArray 3)){v:Value}{L':List Int}{x:Int}
  (hl:Blk W bl (.cells (vs.setIfInBounds t v) tl))(hI:Ints W v (shortL L'))(hlen:L'.length<=32768)(hx:L'.getD 0 0=x)(hown:∀ b,v.ownBlock=some b->wr.heap.size<=b) :
  SInv w0 N ob bo bc bl bh tl W nums' (hs.set t x) (vs.setIfInBounds t v):=by
 obtain⟨n1,n2,n3,n4,n5,n6⟩:=h.ne
 obtain⟨g1,g2,g3,g4⟩:=h.ge
 have hbc:=h.kC.lt
 have hbl:=h.kL.lt
 have hbh:=h.kH
 refine⟨?_,hB.blk h.kO (fun e=>by rcases e with e | e <;> omega),hc,hl,by simp [h.sz],by simp [h.len],?_,h.ge,h.ne,Nat.lt_of_lt_of_le hbh hB.size⟩
 · have he:=h.ext
   exact⟨hB.os.trans he.os,hB.tape.trans he.tape,hB.output.trans he.output,Nat.le_trans he.size hB.size,fun k hk=>(hB.blocks k (Nat.lt_of_lt_of_le hk he.size) (fun e=>by rcases e with e | e <;> omega)).trans (he.block k hk)⟩
 · intro s hs4
   by_cases hst:t=s
   · subst hst
     obtain⟨A,c,rfl,q1,q2⟩:=hI.slice
     refine⟨A,c,shortL L',by simp [h.sz,ht],hI,by unfold shortL;simp;omega,?_,fun b hb=>by have:=hown b hb;omega⟩
     rw [shortL_at,hx]
     simp [List.getD,h.len,ht]
   · obtain⟨A,c,L,q1,q2,q3,q4,q5⟩:=h.locs s hs4
     refine⟨A,c,L,by rw [Array.getElem?_setIfInBounds_ne hst];exact q1,hB.ints q2 (fun b hb e=>by have:=q5 b hb;omega),q3,?_,q5⟩
     rw [q4]
     simp [List.getD,List.getElem?_set_ne hst]
end
theorem srcl1 (B p:Nat)(S:TS)(N m:Nat)(P:Int)(bo bt:Nat)(w:World)(h:Plays B w p S)(h1:1<=N)(h2:N<=4)(hm:m<N)(hP:1<=P/\P<=8)(hta:TameA S)(hD:S.left<300)(hn0:S.nts.length+10*S.left<=90000)(g1:Blk w bo (.cells #[.int .i64 0,.int .i64 0,.int .i64 0,.int .i64 0,.int .i64 P,.int .i64 0,.int .i64 0,.int .i64 0,.int .i64 2,.int .i64 N,.int .i64 1,.int .i64 0,.int .i64 0,.int .i64 1,.int .i64 0,.int .i64 0,.int .i64 0,.int .i64 0,.int .i64 0,.int .i64 0,.int .i64 0,.int .i64 N,.int .i64 0] 69))(c2:w.cell? ⟨bt,0,none⟩=some (.int .i64 m)) :
  Calls Tryz.prog 80 #[.pointer (some ⟨p,0,none⟩),.pointer (some ⟨bo,0,none⟩),.pointer (some ⟨bt,0,none⟩)] w (Post encI B p w ((takeA (inA (lkA (299+1) 2 N 0 0 1 [] m) (299+1)) (lkR 2 N 0 0 [] m) N 0 P (299+1)).run S)):=by
 have hq:Calls Tryz.prog 65 #[.pointer (some ⟨p,0,none⟩),.agg #[.int .i64 0,.int .i64 0,.int .i64 0,.int .i64 0,.int .i64 P,.int .i64 0,.int .i64 0,.int .i64 0,.int .i64 2,.int .i64 N,.int .i64 1,.int .i64 0,.int .i64 0,.int .i64 1,.int .i64 0,.int .i64 0,.int .i64 0,.int .i64 0,.int .i64 0,.int .i64 0,.int .i64 0,.int .i64 N,.int .i64 0],.int .i64 m] w (Post encI B p w ((takeA (inA (lkA (299+1) 2 N 0 0 1 [] m) (299+1)) (lkR 2 N 0 0 [] m) N 0 P (299+1)).run S)):=by
  have hq:=take_p B p N (299+1) S P 2 1 0 0 1 N 0 m [] w h (use36 h1 h2 hm) hta hD hn0 (by omega)
  rw [show permM P=P from by unfold permM;omega] at hq
  exact hq
 generalize takeA (inA (lkA (299+1) 2 N 0 0 1 [] m) (299+1)) (lkR 2 N 0 0 [] m) N 0 P (299+1)=T at *
 generalize hR:Post encI B p w ((T).run S)=R
 have hO:Owes R encI B p w ((T).run S):=hR▸owes _ _ _ _ _
 clear hR
 have hK:=Keep.refl [2,3,4] B p w
 go_enter Tryz.func80,Tryz.ntmps80
 go_upto_region 1 with fail
 refine wp_region_lit ?_
 refine load_obj rfl _ rfl rfl _ rfl bo rfl g1 rfl ?_
 try simp only [put_pack]
 go_wp2_with fail
 clear g1 c2
 refine tlast hO hK hq (fun _ h=>⟨rfl,h⟩) ?_
 intro v S1 w1 hr hP1 hk1 hK1 hO1
 have hf:=hO1.done hP1 hK1
 clear hO1 hP1 hK1 hr hk1 hO h hK hq
 go_wp2_with fail
 first | exact hf | (go_ret;exact hf)
theorem srcl2 (B p:Nat)(S:TS)(N m:Nat)(P:Int)(bo bt:Nat)(w:World)(h:Plays B w p S)(h1:1<=N)(h2:N<=4)(hm:m<N)(_hP:1<=P/\P<=8)(hta:TameA S)(hD:S.left<300)(hn0:S.nts.length+10*S.left<=90000)(g1:Blk w bo (.cells #[.int .i64 0,.int .i64 0,.int .i64 0,.int .i64 0,.int .i64 P,.int .i64 0,.int .i64 0,.int .i64 0,.int .i64 2,.int .i64 N,.int .i64 1,.int .i64 0,.int .i64 0,.int .i64 1,.int .i64 0,.int .i64 0,.int .i64 0,.int .i64 0,.int .i64 0,.int .i64 0,.int .i64 0,.int .i64 N,.int .i64 0] 69))(c2:w.cell? ⟨bt,0,none⟩=some (.int .i64 m)) :
  Calls Tryz.prog 81 #[.pointer (some ⟨p,0,none⟩),.pointer (some ⟨bo,0,none⟩),.pointer (some ⟨bt,0,none⟩)] w (Post encI B p w ((giveA (inA (lkA (299+1) 2 N 0 0 1 [] m) (299+1)) (lkR 2 N 0 0 [] m) N 0).run S)):=by
 have hq:Calls Tryz.prog 68 #[.pointer (some ⟨p,0,none⟩),.agg #[.int .i64 0,.int .i64 0,.int .i64 0,.int .i64 0,.int .i64 P,.int .i64 0,.int .i64 0,.int .i64 0,.int .i64 2,.int .i64 N,.int .i64 1,.int .i64 0,.int .i64 0,.int .i64 1,.int .i64 0,.int .i64 0,.int .i64 0,.int .i64 0,.int .i64 0,.int .i64 0,.int .i64 0,.int .i64 N,.int .i64 0],.int .i64 m] w (Post encI B p w ((giveA (inA (lkA (299+1) 2 N 0 0 1 [] m) (299+1)) (lkR 2 N 0 0 [] m) N 0).run S)):=by
  have hq:=give_p B p N (299+1) S P 2 1 0 0 1 N 0 m [] w h (use36 h1 h2 hm) hta hD hn0 (by omega)
  skip
  exact hq
 generalize giveA (inA (lkA (299+1) 2 N 0 0 1 [] m) (299+1)) (lkR 2 N 0 0 [] m) N 0=T at *
 generalize hR:Post encI B p w ((T).run S)=R
 have hO:Owes R encI B p w ((T).run S):=hR▸owes _ _ _ _ _
 clear hR
 have hK:=Keep.refl [2,3,4] B p w
 go_enter Tryz.func81,Tryz.ntmps81
 go_upto_region 1 with fail
 refine wp_region_lit ?_
 refine load_obj rfl _ rfl rfl _ rfl bo rfl g1 rfl ?_
 try simp only [put_pack]
 go_wp2_with fail
 clear g1 c2
 refine tlast hO hK hq (fun _ h=>⟨rfl,h⟩) ?_
 intro v S1 w1 hr hP1 hk1 hK1 hO1
 have hf:=hO1.done hP1 hK1
 clear hO1 hP1 hK1 hr hk1 hO h hK hq
 go_wp2_with fail
 first | exact hf | (go_ret;exact hf)
theorem srcl3 (B p:Nat)(S:TS)(N:Nat)(P:Int)(bo:Nat)(w:World)(h:Plays B w p S)(h1:1<=N)(h2:N<=4)(hP:1<=P/\P<=8)(hta:TameA S)(hD:S.left<300)(hn0:S.nts.length+10*S.left<=90000)(g1:Blk w bo (.cells #[.int .i64 0,.int .i64 0,.int .i64 0,.int .i64 0,.int .i64 P,.int .i64 0,.int .i64 0,.int .i64 0,.int .i64 2,.int .i64 N,.int .i64 1,.int .i64 0,.int .i64 0,.int .i64 1,.int .i64 0,.int .i64 0,.int .i64 0,.int .i64 0,.int .i64 0,.int .i64 0,.int .i64 0,.int .i64 N,.int .i64 0] 69)) :
  Calls Tryz.prog 82 #[.pointer (some ⟨p,0,none⟩),.pointer (some ⟨bo,0,none⟩)] w (Post encI B p w ((takeA (inA (lkA (299+1) 2 N 0 0 1 [] 0) (299+1)) (lkR 2 N 0 0 [] 0) N 0 P (299+1)).run S)):=by
 have hq:Calls Tryz.prog 65 #[.pointer (some ⟨p,0,none⟩),.agg #[.int .i64 0,.int .i64 0,.int .i64 0,.int .i64 0,.int .i64 P,.int .i64 0,.int .i64 0,.int .i64 0,.int .i64 2,.int .i64 N,.int .i64 1,.int .i64 0,.int .i64 0,.int .i64 1,.int .i64 0,.int .i64 0,.int .i64 0,.int .i64 0,.int .i64 0,.int .i64 0,.int .i64 0,.int .i64 N,.int .i64 0],.int .i64 0] w (Post encI B p w ((takeA (inA (lkA (299+1) 2 N 0 0 1 [] 0) (299+1)) (lkR 2 N 0 0 [] 0) N 0 P (299+1)).run S)):=by
  have hq:=take_p B p N (299+1) S P 2 1 0 0 1 N 0 0 [] w h (use36 h1 h2 (by omega)) hta hD hn0 (by omega)
  rw [show permM P=P from by unfold permM;omega] at hq
  exact hq
 generalize takeA (inA (lkA (299+1) 2 N 0 0 1 [] 0) (299+1)) (lkR 2 N 0 0 [] 0) N 0 P (299+1)=T at *
 generalize hR:Post encI B p w ((T).run S)=R
 have hO:Owes R encI B p w ((T).run S):=hR▸owes _ _ _ _ _
 clear hR
 have hK:=Keep.refl [2,3,4] B p w
 go_enter Tryz.func82,Tryz.ntmps82
 go_upto_region 1 with fail
 refine wp_region_lit ?_
 refine load_obj rfl _ rfl rfl _ rfl bo rfl g1 rfl ?_
 try simp only [put_pack]
 go_wp2_with fail
 clear g1
 refine tlast hO hK hq (fun _ h=>⟨rfl,h⟩) ?_
 intro v S1 w1 hr hP1 hk1 hK1 hO1
 have hf:=hO1.done hP1 hK1
 clear hO1 hP1 hK1 hr hk1 hO h hK hq
 go_wp2_with fail
 first | exact hf | (go_ret;exact hf)
theorem goes_inv {w0:World}{N:Nat}{ob:Obj}{bo bc bl bh:Nat}{tl:TypeId}{wr:World}{nums hs:List Int}{vs:Array Value}(h:SInv w0 N ob bo bc bl bh tl wr nums hs vs)(F:FuncId)(caps:Array Value)(T:Prog Int)(K0:World->Prop)(t n most ml:Nat)(e0 x:Int)(nums':List Int)
  (ht:t<4)(hcf:∀ (args:Array Value) (w:World),(callFunc F args).run Tryz.prog w=.ok (.enter F args) w)(hK0:∀ W W',BelowX (fun k=>k=bc) W W'->K0 W->K0 W')(hk0:K0 wr)(hn:n<=most)(hmost:most<=1000)(hml:N+nums.length=ml)(hml2:ml<=100000)
  (hd:∀ L:List Int,L.getD 0 0=hs.getD t 0->∃ loc',Does T (TS0 L []).loc (cellsM N nums) n e0 loc' (cellsM N nums')/\loc' 0=x)
  (hdo:∀ (L:List Int) (W0 W:World) (p:Nat) (ans:List Int),K0 W0->Ext W0 W->Plays W0.heap.size W p (TS0 L ans)->ans.length<=most->(∀ v∈ans,0<=v/\v<=1048576)->Calls Tryz.prog F (#[.pointer (some ⟨p,0,none⟩)]++caps) W (Post encI W0.heap.size p W (T.run (TS0 L ans)))) :
  Calls Tryz.prog 79 #[.func (.func F) #[] caps,.slice (some ⟨bc,0,none⟩) ml ml,.pointer (some ⟨bl,t,none⟩),.int .i64 most] wr fun e w' =>
   e=.returned (.tuple #[.int .i64 e0,.bool true])/\BelowX (fun k=>k=bc∨k=bl) wr w'/\∃ vs',SInv w0 N ob bo bc bl bh tl w' nums' (hs.set t x) vs':=by
 obtain⟨A,c,L,q1,q2,q3,q4,q5⟩:=h.locs t ht
 obtain⟨loc',hD,hx⟩:=hd L q4
 obtain⟨S',r1,r2,r3⟩:=hD (TS0 L []) rfl (fun v hv=>by simp [TS0] at hv)
 have hg:=goes_p F caps T (.ret e0) S' (cellsM N nums) (cellsM N nums') L n most bc bl t e0 A c vs tl K0 wr hcf hK0 r1 (.inl ⟨rfl,hn⟩) hmost r3 h.kC h.kL q1 q2 q3 (fun b hb=>(q5 b hb).1) h.ne.2.2.2.1 (by rw [cellsM_len];omega) hk0 (hdo L)
 rw [cellsM_len,hml] at hg
 refine hg.mono ?_
 rintro e w' ⟨hor,hB⟩
 rcases hor with⟨v,L',rfl,_,_,a1,a2,a3,a4,a5,a6⟩ | ⟨_,hc⟩
 · exact⟨rfl,hB,_,h.went ht hB a1 a2 a3 a5 ((a4 0).trans (by rw [r2];exact hx)) a6⟩
 · omega
theorem goes_stuck {w0:World}{N:Nat}{ob:Obj}{bo bc bl bh:Nat}{tl:TypeId}{wr:World}{nums hs:List Int}{vs:Array Value}(h:SInv w0 N ob bo bc bl bh tl wr nums hs vs)(F:FuncId)(caps:Array Value)(T:Prog Int)(K0:World->Prop)(t most ml:Nat)
  (ht:t<4)(hcf:∀ (args:Array Value) (w:World),(callFunc F args).run Tryz.prog w=.ok (.enter F args) w)(hK0:∀ W W',BelowX (fun k=>k=bc) W W'->K0 W->K0 W')(hk0:K0 wr)(hmost:most<=1000)(hml:N+nums.length=ml)(hml2:ml<=100000)
  (hd:∀ L:List Int,∃ T' S' M',Sol T (TS0 L []) (cellsM N nums) (most+1) T' S' M'/\TameA S')
  (hdo:∀ (L:List Int) (W0 W:World) (p:Nat) (ans:List Int),K0 W0->Ext W0 W->Plays W0.heap.size W p (TS0 L ans)->ans.length<=most->(∀ v∈ans,0<=v/\v<=1048576)->Calls Tryz.prog F (#[.pointer (some ⟨p,0,none⟩)]++caps) W (Post encI W0.heap.size p W (T.run (TS0 L ans)))) :
  Calls Tryz.prog 79 #[.func (.func F) #[] caps,.slice (some ⟨bc,0,none⟩) ml ml,.pointer (some ⟨bl,t,none⟩),.int .i64 most] wr fun e w'=>e=.returned (.tuple #[.int .i64 0,.bool false])/\Ext w0 w':=by
 obtain⟨A,c,L,q1,q2,q3,q4,q5⟩:=h.locs t ht
 obtain⟨T',S',M',r1,r3⟩:=hd L
 obtain⟨g1,g2,g3,g4⟩:=h.ge
 have hg:=goes_p F caps T T' S' (cellsM N nums) M' L (most+1) most bc bl t 0 A c vs tl K0 wr hcf hK0 r1 (.inr rfl) hmost r3 h.kC h.kL q1 q2 q3 (fun b hb=>(q5 b hb).1) h.ne.2.2.2.1 (by rw [cellsM_len];omega) hk0 (hdo L)
 rw [cellsM_len,hml] at hg
 refine hg.mono ?_
 rintro e w' ⟨hor,hB⟩
 rcases hor with⟨v,L',rfl,_,hc,_⟩ | ⟨rfl,_⟩
 · omega
 · have he:=h.ext
   exact⟨rfl,hB.os.trans he.os,hB.tape.trans he.tape,hB.output.trans he.output,Nat.le_trans he.size hB.size,fun k hk=>(hB.blocks k (Nat.lt_of_lt_of_le hk he.size) (fun e=>by rcases e with e | e <;> omega)).trans (he.block k hk)⟩
set_option maxRecDepth 100000 in
set_option maxHeartbeats 2000000 in
theorem semarow_walk (p n:Nat)(vL:Value)(Ls:List Int)(w:World)(hp:p<256)(hn:n<256)(hL:U8s w vL Ls)(hLb:∀ x∈Ls,0<=x/\x<256) :
  Calls Tryz.prog 10 #[.int .u8 p,.int .u8 n,vL] w fun e w'=>e=.returned (.bool true)/\Ext w w':=by
 have hmf:∀ (fn:Fn) (first cap:Array Value) (w:World),(Instr.makeFunc fn first cap).run Tryz.prog w=.ok (.func fn first cap) w:=fun _ _ _ _=>rfl
 obtain⟨N,hN⟩:∃ N:Nat,1+(n:Int) % 4=N:=⟨1+n % 4,by omega⟩
 obtain⟨P,hP⟩:∃ P:Nat,1+(p:Int) % 4=P:=⟨1+p % 4,by omega⟩
 have h1:1<=N:=by omega
 have h2:N<=4:=by omega
 have p1:1<=P:=by omega
 have p2:P<=4:=by omega
 obtain⟨AL,cL,rfl,z1,z2⟩:∃ A c,vL=.slice A Ls.length c/\Ls.length<=c/\c<=9223372036854775807:=by
  obtain⟨A,c,e,q1,q2,_⟩:=hL
  exact⟨A,c,e,q1,q2⟩
 have hX:=Ext.refl w
 go_enter Tryz.func10,Tryz.ntmps10
 by_cases hl:20<Ls.length
 · have d1:decide ((20:Int)<(Ls.length:Int))=true:=by rw [decide_eq_true_eq];omega
   go_wp2_with fail
   refine (alive36 _).mono ?_
   rintro e w7 ⟨rfl,hx7⟩
   have hf:=Lib.hid hx7
   clear hx7
   go_wp2_with fail
   go_ret
   exact⟨rfl,hf.out⟩
 have d1:decide ((20:Int)<(Ls.length:Int))=false:=by rw [decide_eq_false_iff_not];omega
 have hput:=fun w=>put_r P 2 N 1 0 0 1 [] w (use36 h1 h2 (show 0<N by omega)).ok
 rw [show lkC 2 N []=(N:Int) from rfl,show lkL 2 []=0 from rfl] at hput
 go_wp2_with fail
 refine (hput _).mono ?_
 rintro e w0 ⟨rfl,hx⟩
 clear hput
 rename_i hKK
 refine hKK _ _ ?_
 clear hKK
 refine new_obj rfl rfl rfl _ _ rfl _ rfl rfl rfl (by kernel_rfl) ?_
 refine wpList_nil ?_
 replace hX:=hX.trans hx
 have bO:=Blk.new w0 (.cells #[.int .i64 0,.int .i64 0,.int .i64 0,.int .i64 0,.int .i64 P,.int .i64 0,.int .i64 0,.int .i64 0,.int .i64 2,.int .i64 N,.int .i64 1,.int .i64 0,.int .i64 0,.int .i64 1,.int .i64 0,.int .i64 0,.int .i64 0,.int .i64 0,.int .i64 0,.int .i64 0,.int .i64 0,.int .i64 N,.int .i64 0] 69)
 have gO:=hX.size
 replace hX:=hX.alloc (.cells #[.int .i64 0,.int .i64 0,.int .i64 0,.int .i64 0,.int .i64 P,.int .i64 0,.int .i64 0,.int .i64 0,.int .i64 2,.int .i64 N,.int .i64 1,.int .i64 0,.int .i64 0,.int .i64 1,.int .i64 0,.int .i64 0,.int .i64 0,.int .i64 0,.int .i64 0,.int .i64 0,.int .i64 0,.int .i64 N,.int .i64 0] 69)
 generalize hbo:w0.heap.size=bo at *
 generalize World.alloc w0 _=W1 at *
 clear hbo hx
 have hmk:∀ w,(Instr.makeSlice 25 (.int .i64 ((N:Int)+3)) (.int .i64 ((N:Int)+3))).run Tryz.prog w=.ok (.slice (some ⟨w.heap.size,0,none⟩) (N+3:Nat) (N+3:Nat)) (w.alloc (.cells ((zeros (N+3)).map (Value.int .i64)).toArray 3)):=fun w=>make_ints _ (N+3) (by omega) (by omega) w
 have hw3:IntKind.i64.wrap ((N:Int)+3)=(N:Int)+3:=IntWalk.i64_in _ (by omega)
 have c_O:=bO.cells
 go_upto_region 9 with fail
 have hzc:zeros (N+3)=cellsM N [0,0,0]:=by unfold zeros cellsM;rw [<- List.replicate_append_replicate];rfl
 rw [hzc]
 have x3:=((Ext.refl W1).alloc (.cells ((cellsM N [0,0,0]).map (Value.int .i64)).toArray 3)).alloc (.cells #[.slice none 0 0,.slice none 0 0,.slice none 0 0,.slice none 0 0] 82) |>.alloc (.cells #[.int .i64 0,.int .i64 0,.int .i64 0,.int .i64 0] 83)
 have bC:=((Blk.new W1 (.cells ((cellsM N [0,0,0]).map (Value.int .i64)).toArray 3)).alloc (.cells #[.slice none 0 0,.slice none 0 0,.slice none 0 0,.slice none 0 0] 82)).alloc (.cells #[.int .i64 0,.int .i64 0,.int .i64 0,.int .i64 0] 83)
 have bL:=(Blk.new (W1.alloc (.cells ((cellsM N [0,0,0]).map (Value.int .i64)).toArray 3)) (.cells #[.slice none 0 0,.slice none 0 0,.slice none 0 0,.slice none 0 0] 82)).alloc (.cells #[.int .i64 0,.int .i64 0,.int .i64 0,.int .i64 0] 83)
 have bH:=Blk.new ((W1.alloc (.cells ((cellsM N [0,0,0]).map (Value.int .i64)).toArray 3)).alloc (.cells #[.slice none 0 0,.slice none 0 0,.slice none 0 0,.slice none 0 0] 82)) (.cells #[.int .i64 0,.int .i64 0,.int .i64 0,.int .i64 0] 83)
 have gC:=hX.size
 have oC:=bO.lt
 simp only [World.size_alloc] at bL bH
 replace bO:=bO.ext x3
 replace hX:=hX.trans x3
 clear x3 hzc hmk c_O
 generalize hbc:W1.heap.size=bc at *
 generalize World.alloc (World.alloc (World.alloc W1 _) _) _=W2 at *
 clear hbc
 have hI:SInv w N (.cells #[.int .i64 0,.int .i64 0,.int .i64 0,.int .i64 0,.int .i64 P,.int .i64 0,.int .i64 0,.int .i64 0,.int .i64 2,.int .i64 N,.int .i64 1,.int .i64 0,.int .i64 0,.int .i64 1,.int .i64 0,.int .i64 0,.int .i64 0,.int .i64 0,.int .i64 0,.int .i64 0,.int .i64 0,.int .i64 N,.int .i64 0] 69) bo bc (bc+1) (bc+1+1) 82 W2 [(0:Nat),(0:Nat),(0:Nat)] [0,0,0,0] #[.slice none 0 0,.slice none 0 0,.slice none 0 0,.slice none 0 0] :=
  ⟨hX,bO,bC,bL,rfl,rfl,fun t ht=>⟨none,0,[],by
   have:t=0∨t=1∨t=2∨t=3:=by omega
   rcases this with rfl | rfl | rfl | rfl <;> rfl,Ints.nil _,by simp,by
   have:t=0∨t=1∨t=2∨t=3:=by omega
   rcases this with rfl | rfl | rfl | rfl <;> rfl,fun b hb=>by simp [Value.ownBlock] at hb⟩,⟨gO,gC,by omega,by omega⟩,⟨by omega,by omega,by omega,by omega,by omega,by omega⟩,bH.lt⟩
 clear bO bC bL hX gO gC oC
 have hLh:=Lib.hid hL
 have hLbh:=Lib.hid hLb
 clear hL hLb
 obtain⟨OL,hOL⟩:∃ OL:Obj,OL=(.cells #[.int .i64 0,.int .i64 0,.int .i64 0,.int .i64 0,.int .i64 P,.int .i64 0,.int .i64 0,.int .i64 0,.int .i64 2,.int .i64 N,.int .i64 1,.int .i64 0,.int .i64 0,.int .i64 1,.int .i64 0,.int .i64 0,.int .i64 0,.int .i64 0,.int .i64 0,.int .i64 0,.int .i64 0,.int .i64 N,.int .i64 0] 69):=⟨_,rfl⟩
 rw [<- hOL] at hI
 have hOLh:=Lib.hid hOL
 clear hOL
 generalize hbl:bc+1=bl at *
 generalize hbh:bl+1=bh at *
 clear hbl hbh
 go_wp2_with fail
 go_loopw [12,13,14,15,16,17,18] (fun a12 a13 _ _ _ _ _ wr=>∃ (j all q:Nat) (hs:List Int) (vs:Array Value),a12=.int .i64 all/\a13=.int .i64 j/\j<=Ls.length/\all<=P/\q<=j/\Hid (∀ x∈hs,0<=x)/\Hid (hs.sum=all)/\Hid (SInv w N OL bo bc bl bh 82 wr [(all:Int),(q:Int),(q:Int)] hs vs)/\Hid (Blk wr bh (.cells (hs.map (Value.int .i64)).toArray 83))) (fun _ a13 _ _ _ _ _ _=>Ls.length-(intOf a13).toNat)
 case atStart=>exact⟨0,0,0,[0,0,0,0],_,rfl,rfl,by omega,by omega,by omega,by simp [Hid],by simp [Hid],hI,bH⟩
 case round =>
  clear hI bH
  obtain⟨j,all,q,hs,vs,rfl,rfl,hj,hall,hq,hpos,hsum,hI,bH⟩:=hrel
  by_cases hjl:j<Ls.length
  rotate_left
  · have dj:decide ((j:Int)<(Ls.length:Int))=false:=by rw [decide_eq_false_iff_not];omega
    have hI1:=hI.out
    have hE1:=Lib.hid hI1.ext
    clear hI bH hpos hsum
    by_cases hap:all=P
    · have dp:((all:Int)==(P:Int))=true:=by rw [beq_iff_eq];omega
      have hg:=goes_stuck hI1 82 #[.pointer (some ⟨bo,0,none⟩)] (takeA (inA (lkA (299+1) 2 N 0 0 1 [] 0) (299+1)) (lkR 2 N 0 0 [] 0) N 0 P (299+1)) (fun W=>Blk W bo OL) 0 200 (N+3) (by omega) (fun _ _=>rfl) (fun W W' hB h=>hB.blk h hI1.ne.1) hI1.kO (by omega) rfl (by omega)
       (fun L=>stuck (loc:=(TS0 L []).loc) (show 0<N by omega) (by omega) (by omega) (by omega) (by omega) (by omega) (TS0 L []) rfl (fun v hv=>by simp [TS0] at hv))
       (fun L W0 W p ans hk hx hP hl hta=>srcl3 W0.heap.size p _ N P bo W hP h1 h2 (by omega) hta (by simp [TS0,TS.left];omega) (by simp [TS0,TS.left];omega) (by have:=hk.ext hx;rw [hOLh.out] at this;exact this))
      have hgh:=Lib.hid hg
      clear hg hI1 hap
      go_wp2_with fail
      refine hgh.out.mono ?_
      clear hgh
      rintro e w1 ⟨rfl,hx1⟩
      go_wp2_with fail
      refine (alive36 _).mono ?_
      rintro e w7 ⟨rfl,hx7⟩
      have hf:=Lib.hid (hx1.trans hx7)
      clear hx1 hx7
      go_wp2_with fail
      first | exact⟨rfl,hf.out⟩ | (go_ret;exact⟨rfl,hf.out⟩)
    · have dp:((all:Int)==(P:Int))=false:=by rw [beq_eq_false_iff_ne];omega
      clear hI1 hap
      go_wp2_with fail
      refine (alive36 _).mono ?_
      rintro e w7 ⟨rfl,hx7⟩
      have hf:=Lib.hid (hE1.out.trans hx7)
      clear hx7
      go_wp2_with fail
      first | exact⟨rfl,hf.out⟩ | (go_ret;exact⟨rfl,hf.out⟩)
  have dj:decide ((j:Int)<(Ls.length:Int))=true:=by rw [decide_eq_true_eq];omega
  obtain⟨x,hx⟩:∃ x,Ls[j]?=some x:=⟨_,List.getElem?_eq_getElem hjl⟩
  obtain⟨ba,oa,rfl,hba,hcx0⟩:=hLh.out.at_ hx
  have hcx:=(hI.out.ext.cell (p:=⟨ba,oa+j,none⟩) hba).trans hcx0
  have hcxh:=Lib.hid hcx0
  clear hcx0
  have hxb:=hLbh.out x (List.mem_of_getElem? hx)
  obtain⟨y,rfl⟩:∃ y:Nat,x=y:=⟨x.toNat,by omega⟩
  obtain⟨t,htt⟩:∃ t:Nat,((y:Int) / 2) % (N:Int)=t:=⟨(((y:Int) / 2) % (N:Int)).toNat,by
   have:=Int.emod_nonneg ((y:Int) / 2) (show (N:Int)≠0 by omega)
   omega⟩
  have htN:t<N:=by
   have:=Int.emod_lt_of_pos ((y:Int) / 2) (show (0:Int)<N by omega)
   omega
  go_upto_region 13 with fail
  have bT:=Blk.new wr (.cells #[.int .i64 t] 3)
  have hx1:=(Ext.refl wr).alloc (.cells #[.int .i64 t] 3)
  have hI1:=hI.out.keep hx1
  have bH1:=bH.out.ext hx1
  have hcx:=(hI1.ext.cell (p:=⟨ba,oa+j,none⟩) hba).trans hcxh.out
  have nT:bo<wr.heap.size/\bc<wr.heap.size/\bl<wr.heap.size/\bh<wr.heap.size:=⟨hI.out.kO.lt,hI.out.kC.lt,hI.out.kL.lt,hI.out.kH⟩
  clear hx1 hI bH htt
  generalize hbt:wr.heap.size=bt at *
  generalize World.alloc wr _=V1 at *
  clear hbt
  obtain⟨nn1,nn2,nn3,nn4,nn5,nn6⟩:=hI1.ne
  have hv0:0<=hs.getD t 0:=getD_pos hpos.out t
  have hv1:hs.getD t 0<=all:=by rw [<- hsum.out];exact sum_ge hs t hpos.out
  have hlen:=hI1.len
  obtain⟨hv,hhv⟩:∃ hv,hs.getD t 0=hv:=⟨_,rfl⟩
  rw [hhv] at hv0 hv1
  have hK0:∀ W W',BelowX (fun k=>k=bc) W W'->(Blk W bo OL/\Blk W bt (.cells #[.int .i64 t] 3))->(Blk W' bo OL/\Blk W' bt (.cells #[.int .i64 t] 3)):=fun W W' hB h=>⟨hB.blk h.1 nn1,hB.blk h.2 (by omega)⟩
  have hsv:∀ v:Int,(hs.set t v).sum=all-hv+v:=fun v=>by rw [sum_set hs t v (by omega),hsum.out,hhv]
  have hpv:∀ v:Int,0<=v->∀ x∈hs.set t v,0<=x:=fun v hv x hx=>by
   rcases List.mem_or_eq_of_mem_set hx with h | h
   · exact hpos.out x h
   · omega
  have hself:hs.set t hv=hs:=by
   apply List.ext_getElem?
   intro i
   by_cases hi:t=i
   · subst hi
     rw [List.getElem?_set_self (by omega),<- hhv,List.getD_eq_getElem?_getD,List.getElem?_eq_getElem (by omega)]
     rfl
   · rw [List.getElem?_set_ne hi]
  have hwa:=IntWalk.i64_in ((all:Int)+1) (by omega)
  have hwb:=IntWalk.i64_in ((all:Int)-1) (by omega)
  have hwc:=IntWalk.i64_in (hv+1) (by omega)
  have hwd:=IntWalk.i64_in (hv-1) (by omega)
  have c_T:V1.cell? ⟨bt,0,none⟩=some (.int .i64 t):=bT.cells 0
  have hsvh:=Lib.hid hsv
  have hpvh:=Lib.hid hpv
  have hselfh:=Lib.hid hself
  have hK0h:=Lib.hid hK0
  have hhvh:=Lib.hid hhv
  clear hsv hpv hself hK0 hhv
  by_cases he:y % 2=0
  · have e0:(((y:Int) % 2)==0)=true:=by rw [beq_iff_eq];omega
    have e1:(((y:Int) % 2)==1)=false:=by rw [beq_eq_false_iff_ne];omega
    by_cases hap:all<P
    · have d3:decide ((all:Int)<(P:Int))=true:=by rw [decide_eq_true_eq];omega
      have hg:=goes_inv hI1 80 #[.pointer (some ⟨bo,0,none⟩),.pointer (some ⟨bt,0,none⟩)] (takeA (inA (lkA (299+1) 2 N 0 0 1 [] t) (299+1)) (lkR 2 N 0 0 [] t) N 0 P (299+1)) (fun W=>Blk W bo OL/\Blk W bt (.cells #[.int .i64 t] 3)) t (2*N+8) 200 (N+3) 0 (hv+1) [(all:Int)+1,(q:Int)+1,(q:Int)+1] (by omega) (fun _ _=>rfl) hK0h.out ⟨hI1.kO,bT⟩ (by omega) (by omega) rfl (by omega)
       (fun L hL0=>⟨_,does_take htN (by omega) (by omega) (by omega) (by omega) (by show 0<=L.getD 0 0/\L.getD 0 0<=1000;rw [hL0,hhvh.out];omega),by show (if 0=0 then L.getD 0 0+1 else _)=_;rw [hL0,hhvh.out];rfl⟩)
       (fun L W0 W p ans hk hx hP hl hta=>srcl1 W0.heap.size p _ N t P bo bt W hP h1 h2 htN (by omega) hta (by simp [TS0,TS.left];omega) (by simp [TS0,TS.left];omega) (by have:=hk.1.ext hx;rw [hOLh.out] at this;exact this) ((hk.2.ext hx).cells 0))
      have hgh:=Lib.hid hg
      clear hg
      go_wp2_with fail
      refine hgh.out.mono ?_
      clear hgh
      rintro e w1 ⟨rfl,hB,vs',hI2⟩
      have hBh:=hB.blk bH1 (fun e=>by rcases e with e | e <;> omega)
      have bT1:=hB.blk bT (fun e=>by rcases e with e | e <;> omega)
      clear hB hI1 bH1 bT c_T hcx
      have c_T:w1.cell? ⟨bt,0,none⟩=some (.int .i64 t):=bT1.cells 0
      have c_H:w1.cell? ⟨bh,t,none⟩=some (.int .i64 hv):=by
       have hh:=hhvh.out
       rw [List.getD_eq_getElem?_getD,List.getElem?_eq_getElem (show t<hs.length by omega),Option.getD_some] at hh
       have hso:hs[t]?=some (hs[t]'(show t<hs.length by omega)):=List.getElem?_eq_getElem _
       rw [hBh.cells t]
       simp [hso,hh]
      have hfz:w1.frozen? ⟨bh,t,none⟩=false:=frozen_of_heap hBh t
      have hI3:=hI2.setH t (.int .i64 (hv+1))
      have hb3:Blk (w1.setCell ⟨bh,t,none⟩ (.int .i64 (hv+1))) bh (.cells ((hs.set t (hv+1)).map (Value.int .i64)).toArray 83):=by
       have h:=heap_setCell (i:=t) hBh (.int .i64 (hv+1))
       have e:((hs.map (Value.int .i64)).toArray).setIfInBounds t (.int .i64 (hv+1))=((hs.set t (hv+1)).map (Value.int .i64)).toArray:=by
        rw [List.map_set]
        simp
       rw [<- e]
       exact h
      clear hBh
      go_upto_region 19 with fail
      generalize World.setCell w1 _ _=W3 at *
      clear c_T c_H hfz bT1 hI2
      have hcx:=(hI3.ext.cell (p:=⟨ba,oa+j,none⟩) hba).trans hcxh.out
      have c_O:W3.cell? ⟨bo,21,none⟩=some (.int .i64 N):=by
       have h:=hI3.kO
       rw [hOLh.out] at h
       exact h.cells 21
      have c_C:W3.cell? ⟨bc,N,none⟩=some (.int .i64 ((all:Int)+1)):=by
       rw [hI3.kC.cells N]
       simp [cellsM]
      have hIe:Hid (SInv w N OL bo bc bl bh 82 W3 [((all+1:Nat):Int),((q+1:Nat):Int),((q+1:Nat):Int)] (hs.set t (hv+1)) (vs')):=by
       have h:=hI3
       first | exact h | (simp only [Int.natCast_add,Int.natCast_one] at h ⊢;first | exact h | (refine cast ?_ h;congr 2 <;> simp <;> omega))
      have hBe:=Lib.hid hb3
      have hpe:Hid (∀ x∈(hs.set t (hv+1)),0<=x):=hpvh.out _ (by omega)
      have hse:Hid ((hs.set t (hv+1)).sum=((all+1:Nat):Int)):=Lib.hid (by rw [hsvh.out];omega)
      clear hsvh hpvh hselfh hK0h hpos hsum hhvh
      go_wp2_with fail
      refine⟨⟨j+1,all+1,q+1,hs.set t (hv+1),vs',by first | rfl | (congr 1;omega) | go_num,by first | rfl | go_num,by omega,by omega,by omega,hpe,hse,hIe,hBe⟩,?_⟩
      simp [intOf]
      omega
    · skip
      have d3:decide ((all:Int)<(P:Int))=false:=by rw [decide_eq_false_iff_not];omega
      have hcx:=(hI1.ext.cell (p:=⟨ba,oa+j,none⟩) hba).trans hcxh.out
      have c_O:V1.cell? ⟨bo,21,none⟩=some (.int .i64 N):=by
       have h:=hI1.kO
       rw [hOLh.out] at h
       exact h.cells 21
      have c_C:V1.cell? ⟨bc,N,none⟩=some (.int .i64 ((all:Int))):=by
       rw [hI1.kC.cells N]
       simp [cellsM]
      have hIe:Hid (SInv w N OL bo bc bl bh 82 V1 [((all:Nat):Int),((q:Nat):Int),((q:Nat):Int)] (hs) (vs)):=by
       have h:=hI1
       first | exact h | (simp only [Int.natCast_add,Int.natCast_one] at h ⊢;first | exact h | (refine cast ?_ h;congr 2 <;> simp <;> omega))
      have hBe:=Lib.hid bH1
      have hpe:Hid (∀ x∈(hs),0<=x):=hpos.out
      have hse:Hid ((hs).sum=((all:Nat):Int)):=hsum.out
      clear hsvh hpvh hselfh hK0h hpos hsum hhvh
      go_wp2_with fail
      refine⟨⟨j+1,all,q,hs,vs,by first | rfl | (congr 1;omega) | go_num,by first | rfl | go_num,by omega,by omega,by omega,hpe,hse,hIe,hBe⟩,?_⟩
      simp [intOf]
      omega
  · skip
    have e0:(((y:Int) % 2)==0)=false:=by rw [beq_eq_false_iff_ne];omega
    have e1:(((y:Int) % 2)==1)=true:=by rw [beq_iff_eq];omega
    by_cases hvp:0<hv
    · have d5:decide (0<hv)=true:=by rw [decide_eq_true_eq];omega
      obtain⟨al,rfl⟩:∃ al:Nat,all=al+1:=⟨all-1,by omega⟩
      have hg:=goes_inv hI1 81 #[.pointer (some ⟨bo,0,none⟩),.pointer (some ⟨bt,0,none⟩)] (giveA (inA (lkA (299+1) 2 N 0 0 1 [] t) (299+1)) (lkR 2 N 0 0 [] t) N 0) (fun W=>Blk W bo OL/\Blk W bt (.cells #[.int .i64 t] 3)) t (N+3) 100 (N+3) 0 (hv-1) [((al+1:Nat):Int)-1,(q:Int),(q:Int)] (by omega) (fun _ _=>rfl) hK0h.out ⟨hI1.kO,bT⟩ (by omega) (by omega) rfl (by omega)
       (fun L hL0=>⟨_,does_give htN (by omega) (by omega) (by show 1<=L.getD 0 0/\L.getD 0 0<=1000;rw [hL0,hhvh.out];omega),by show (if 0=0 then L.getD 0 0-1 else _)=_;rw [hL0,hhvh.out];rfl⟩)
       (fun L W0 W p ans hk hx hP hl hta=>srcl2 W0.heap.size p _ N t P bo bt W hP h1 h2 htN (by omega) hta (by simp [TS0,TS.left];omega) (by simp [TS0,TS.left];omega) (by have:=hk.1.ext hx;rw [hOLh.out] at this;exact this) ((hk.2.ext hx).cells 0))
      have hgh:=Lib.hid hg
      clear hg
      go_wp2_with fail
      refine hgh.out.mono ?_
      clear hgh
      rintro e w1 ⟨rfl,hB,vs',hI2⟩
      have hBh:=hB.blk bH1 (fun e=>by rcases e with e | e <;> omega)
      have bT1:=hB.blk bT (fun e=>by rcases e with e | e <;> omega)
      clear hB hI1 bH1 bT c_T hcx
      have c_T:w1.cell? ⟨bt,0,none⟩=some (.int .i64 t):=bT1.cells 0
      have c_H:w1.cell? ⟨bh,t,none⟩=some (.int .i64 hv):=by
       have hh:=hhvh.out
       rw [List.getD_eq_getElem?_getD,List.getElem?_eq_getElem (show t<hs.length by omega),Option.getD_some] at hh
       have hso:hs[t]?=some (hs[t]'(show t<hs.length by omega)):=List.getElem?_eq_getElem _
       rw [hBh.cells t]
       simp [hso,hh]
      have hfz:w1.frozen? ⟨bh,t,none⟩=false:=frozen_of_heap hBh t
      have hI3:=hI2.setH t (.int .i64 (hv-1))
      have hb3:Blk (w1.setCell ⟨bh,t,none⟩ (.int .i64 (hv-1))) bh (.cells ((hs.set t (hv-1)).map (Value.int .i64)).toArray 83):=by
       have h:=heap_setCell (i:=t) hBh (.int .i64 (hv-1))
       have e:((hs.map (Value.int .i64)).toArray).setIfInBounds t (.int .i64 (hv-1))=((hs.set t (hv-1)).map (Value.int .i64)).toArray:=by
        rw [List.map_set]
        simp
       rw [<- e]
       exact h
      clear hBh
      go_upto_region 26 with fail
      generalize World.setCell w1 _ _=W3 at *
      clear c_T c_H hfz bT1 hI2
      have hcx:=(hI3.ext.cell (p:=⟨ba,oa+j,none⟩) hba).trans hcxh.out
      have c_O:W3.cell? ⟨bo,21,none⟩=some (.int .i64 N):=by
       have h:=hI3.kO
       rw [hOLh.out] at h
       exact h.cells 21
      have c_C:W3.cell? ⟨bc,N,none⟩=some (.int .i64 (((al+1:Nat):Int)-1)):=by
       rw [hI3.kC.cells N]
       simp [cellsM]
      have hIe:Hid (SInv w N OL bo bc bl bh 82 W3 [((al:Nat):Int),((q:Nat):Int),((q:Nat):Int)] (hs.set t (hv-1)) (vs')):=by
       have h:=hI3
       first | exact h | (simp only [Int.natCast_add,Int.natCast_one] at h ⊢;first | exact h | (refine cast ?_ h;congr 2 <;> simp <;> omega))
      have hBe:=Lib.hid hb3
      have hpe:Hid (∀ x∈(hs.set t (hv-1)),0<=x):=hpvh.out _ (by omega)
      have hse:Hid ((hs.set t (hv-1)).sum=((al:Nat):Int)):=Lib.hid (by rw [hsvh.out];omega)
      clear hsvh hpvh hselfh hK0h hpos hsum hhvh
      go_wp2_with fail
      refine⟨⟨j+1,al,q,hs.set t (hv-1),vs',by first | rfl | (congr 1;omega) | go_num,by first | rfl | go_num,by omega,by omega,by omega,hpe,hse,hIe,hBe⟩,?_⟩
      simp [intOf]
      omega
    · have d5:decide (0<hv)=false:=by rw [decide_eq_false_iff_not];omega
      obtain rfl:hv=0:=by omega
      have hg:=goes_inv hI1 81 #[.pointer (some ⟨bo,0,none⟩),.pointer (some ⟨bt,0,none⟩)] (giveA (inA (lkA (299+1) 2 N 0 0 1 [] t) (299+1)) (lkR 2 N 0 0 [] t) N 0) (fun W=>Blk W bo OL/\Blk W bt (.cells #[.int .i64 t] 3)) t (0) 100 (N+3) 9 (0) [(all:Int),(q:Int),(q:Int)] (by omega) (fun _ _=>rfl) hK0h.out ⟨hI1.kO,bT⟩ (by omega) (by omega) rfl (by omega)
       (fun L hL0=>⟨_,does_give_no (by show L.getD 0 0=0;rw [hL0,hhvh.out]),by show L.getD 0 0=0;rw [hL0,hhvh.out]⟩)
       (fun L W0 W p ans hk hx hP hl hta=>srcl2 W0.heap.size p _ N t P bo bt W hP h1 h2 htN (by omega) hta (by simp [TS0,TS.left];omega) (by simp [TS0,TS.left];omega) (by have:=hk.1.ext hx;rw [hOLh.out] at this;exact this) ((hk.2.ext hx).cells 0))
      have hgh:=Lib.hid hg
      clear hg
      go_wp2_with fail
      refine hgh.out.mono ?_
      clear hgh
      rintro e w1 ⟨rfl,hB,vs',hI2⟩
      rw [hselfh.out] at hI2
      have hBh:=hB.blk bH1 (fun e=>by rcases e with e | e <;> omega)
      have bT1:=hB.blk bT (fun e=>by rcases e with e | e <;> omega)
      clear hB hI1 bH1 bT c_T hcx
      have c_T:w1.cell? ⟨bt,0,none⟩=some (.int .i64 t):=bT1.cells 0
      have c_H:w1.cell? ⟨bh,t,none⟩=some (.int .i64 0):=by
       have hh:=hhvh.out
       rw [List.getD_eq_getElem?_getD,List.getElem?_eq_getElem (show t<hs.length by omega),Option.getD_some] at hh
       have hso:hs[t]?=some (hs[t]'(show t<hs.length by omega)):=List.getElem?_eq_getElem _
       rw [hBh.cells t]
       simp [hso,hh]
      go_upto_region 26 with fail
      have hcx:=(hI2.ext.cell (p:=⟨ba,oa+j,none⟩) hba).trans hcxh.out
      have c_O:w1.cell? ⟨bo,21,none⟩=some (.int .i64 N):=by
       have h:=hI2.kO
       rw [hOLh.out] at h
       exact h.cells 21
      have c_C:w1.cell? ⟨bc,N,none⟩=some (.int .i64 ((all:Int))):=by
       rw [hI2.kC.cells N]
       simp [cellsM]
      have hIe:Hid (SInv w N OL bo bc bl bh 82 w1 [((all:Nat):Int),((q:Nat):Int),((q:Nat):Int)] (hs) (vs')):=by
       have h:=hI2
       first | exact h | (simp only [Int.natCast_add,Int.natCast_one] at h ⊢;first | exact h | (refine cast ?_ h;congr 2 <;> simp <;> omega))
      have hBe:=Lib.hid hBh
      have hpe:Hid (∀ x∈(hs),0<=x):=hpos.out
      have hse:Hid ((hs).sum=((all:Nat):Int)):=hsum.out
      clear hsvh hpvh hselfh hK0h hpos hsum hhvh
      go_wp2_with fail
      refine⟨⟨j+1,all,q,hs,vs',by first | rfl | (congr 1;omega) | go_num,by first | rfl | go_num,by omega,by omega,by omega,hpe,hse,hIe,hBe⟩,?_⟩
      simp [intOf]
      omega
end Go.Proofs.YtbaajjkopdjbgaaGreat
namespace Go.Proofs.YtbaajjkopdjbgaaGreat.semaRow
open Go.ChangeShapes Go.WideShapes Go.ChangeAt Go.RowKit Kv
set_option maxRecDepth 100000 in
theorem main (H:Type)(enc:TypeId × Value->H)(W:World)(base:Nat)(args:Array Value)(ds:List (DataW H))(p:List MemPlace)
  (hval:∀ (j:Nat) t v,Tryz.f10.params[j]?=some t->args[j]?=some v->Value.okWide Tryz.prog W .any base t v)
  (hA:DataW.TrodAll enc Tryz.prog W 0 (fun _=>true) true Tryz.f10.params.toList args.toList ds p)(_hL:laidMetH Tryz.prog Rows.semaRowRow.laid W) :
  Calls Tryz.prog 10 args W fun e w'=>e=.returned (.bool true)/\Ext W w':=by
 rw [Tryz.params10] at hA hval
 obtain⟨v0,vs0,d0,ds0,p0,q0,hargs,rfl,rfl,h0,r0⟩:=trodAll_cons hA
 obtain⟨v1,vs1,d1,ds1,p1,q1,rfl,rfl,rfl,h1,r1⟩:=trodAll_cons r0
 obtain⟨v2,vs2,d2,ds2,p2,q2,rfl,rfl,rfl,h2,r2⟩:=trodAll_cons r1
 obtain⟨rfl,rfl,rfl⟩:=trodAll_nil r2
 obtain rfl:args=#[v0,v1,v2]:=by cases args;simp_all
 obtain⟨s,rfl,rfl,rfl,ws⟩:=open_int Tryz.underlying5 (hval 0 5 v0 rfl rfl) h0
 obtain⟨t,rfl,rfl,rfl,wt⟩:=open_int Tryz.underlying5 (hval 1 5 v1 rfl rfl) h1
 have hs:=bounds_u8 ws
 have ht:=bounds_u8 wt
 obtain⟨La,hLa,hLb⟩:=bytes_arg (hval 2 54 v2 rfl rfl) h2
 obtain⟨n,rfl⟩:∃ n:Nat,s=(n:Int):=⟨s.toNat,by omega⟩
 obtain⟨me,rfl⟩:∃ n:Nat,t=(n:Int):=⟨t.toNat,by omega⟩
 exact semarow_walk n me v2 La W (by omega) (by omega) hLa hLb
end Go.Proofs.YtbaajjkopdjbgaaGreat.semaRow
namespace Go.Proofs.YtbaajjkopdjbgaaGreat.semaRow
open Go.ChangeShapes Go.WideShapes Go.ChangeAt Go.RowKit
theorem laidOut:laidOutB Tryz.prog=true:=by kernel_rfl
set_option maxRecDepth 100000 in
theorem contract (H:Type)(enc:TypeId × Value->H)(W:World)(base:Nat)(args:Array Value)(ds gs:List (DataW H))(before:List MemPlace)
  (hval:∀ (j:Nat) t v,Tryz.f10.params[j]?=some t->args[j]?=some v->Value.okWide Tryz.prog W .any base t v)
  (hW:DataW.Whole enc Tryz.prog Tryz.f10.params.toList Rows.semaRowSpec.vars false W args.toList ds gs before)(hL:laidMetH Tryz.prog Rows.semaRowRow.laid W) :
  Calls Tryz.prog 10 args W fun e W'=>∃ v,e=.returned v/\Rows.semaRowSpec.post enc Tryz.prog Tryz.f10 false true false false W args v W':=by
 refine (main H enc W base args ds before hval (by obtain⟨p,q,hA,hV,hpq,_,_⟩:=hW;obtain⟨_,rfl⟩:=trodVars_none hV;rw [List.append_nil] at hpq;subst hpq;exact hA) hL).mono fun e W' ⟨he,hg⟩=>⟨_,he,?_⟩
 refine law_post (tb:=4) laidOut ?_ (by kernel_rfl) Tryz.underlying4 rfl ?_ hW hg
 · rw [Tryz.params10]
   intro t ht
   simp only [List.mem_cons,List.not_mem_nil,or_false] at ht
   rcases ht with rfl | rfl | rfl <;> exact⟨by kernel_rfl,of_decide_eq_true (by kernel_rfl)⟩
 · intro ds hl
   rw [Tryz.params10] at hl
   match ds,hl with
   | [d0,d1,d2],_=>rfl
set_option maxRecDepth 100000 in
theorem laid_met (os:Os):laidMet Tryz.prog Rows.semaRowRow.laid (((World.holding Tryz.prog os ⟨#[],#[],[]⟩)).forCall (fun _ _=>0) ⟨#[],#[.int .u8 0,.int .u8 0,.slice none 0 0],[]⟩).memory :=
 laidMet_of_run' 8 (by kernel_rfl) (by kernel_rfl)
set_option maxRecDepth 100000 in
theorem reads (os:Os){H:Type}(enc:TypeId × Value->H):∃ places,DataW.whole enc Tryz.prog (((World.holding Tryz.prog os ⟨#[],#[],[]⟩)).forCall (fun _ _=>0) ⟨#[],#[.int .u8 0,.int .u8 0,.slice none 0 0],[]⟩).memory Tryz.f10.params.toList Rows.semaRowSpec.vars false (#[.int .u8 0,.int .u8 0,.slice none 0 0]:Array Value).toList 8=some ([.lit (.int .u8 0),.lit (.int .u8 0),.nil],[],places) :=
 ⟨[],by kernel_rfl⟩
set_option maxRecDepth 100000 in
theorem lifted (os:Os)(started:os.Started)(H:Type)(enc:TypeId × Value->H)(F:Stop.Interp) :
  ReturnsInHanded {} Tryz.checked os 10 .any ((OpenSpec.ofChange Rows.semaRowSpec).preRow enc Tryz.prog Tryz.f10 Rows.semaRowRow.domain false Rows.semaRowRow.laid) (((OpenSpec.ofChange Rows.semaRowSpec).at F).post enc Tryz.prog Tryz.f10 false true false false):=by
 obtain⟨places,hx⟩:=reads os enc
 refine returnsInHanded_of_row (C:=Tryz.checked) (s:=(OpenSpec.ofChange Rows.semaRowSpec)) own started (by kernel_rfl) Tryz.func10
  (witness_row_at (enc:=enc) (C:=Tryz.checked) false (World.holding Tryz.prog os ⟨#[],#[],[]⟩) #[.int .u8 0,.int .u8 0,.slice none 0 0] rfl (by kernel_rfl) (by kernel_rfl) (by kernel_rfl)
    (OpenSpec.preRow_of_cond 8 hx (by kernel_rfl) (fun k hk=>by cases hk) (by kernel_rfl) (laid_met os))) ?_
 intro W base args ds gs before hval hW _ _ _ hL _ _
 exact contract H enc W base args ds gs before hval hW hL
theorem c1:(Rows.semaRowRow.inPlace==Tryz.pinned.checked.prog.inPlace 10)=true:=by kernel_rfl
theorem c2:(Rows.semaRowRow.unfollowed==Tryz.pinned.checked.prog.unfollowed 10)=true:=by kernel_rfl
theorem c3:(Rows.semaRowRow.recurses==Tryz.pinned.checked.prog.recurses 10)=true:=by kernel_rfl
theorem c4:(Rows.semaRowRow.named==Tryz.pinned.checked.prog.varsNamed 10)=true:=by kernel_rfl
theorem closed:joinedFacts Tryz.pinned.checked.prog 10 Tryz.f10 (OpenSpec.ofChange Rows.semaRowSpec).bare Rows.semaRowRow=true:=by
 unfold joinedFacts
 simp only [Bool.and_eq_true]
 repeat' refine And.intro ?_ ?_
 all_goals first | with_reducible exact c1 | with_reducible exact c2 | with_reducible exact c3 | with_reducible exact c4 | kernel_rfl
theorem said:Rows.SemaRowSaid :=
 OpenClaim.holds_of_cond 10 Tryz.f10 rfl rfl rfl rfl rfl rfl rfl ⟨rfl,rfl,rfl,rfl,rfl⟩ rfl rfl rfl rfl rfl (by kernel_rfl) Tryz.func10 closed
  (of_decide_eq_true (by kernel_rfl)) (by unfold Func.isWrapper;first | (rw [if_pos (by decide +kernel)];kernel_rfl) | (rw [if_neg (by decide +kernel)];exact⟨rfl,rfl⟩))
  (fun os started H enc _ F=>by rw [OpenClaim.pre_eq_preRow];exact lifted os started H enc F)
end Go.Proofs.YtbaajjkopdjbgaaGreat.semaRow
