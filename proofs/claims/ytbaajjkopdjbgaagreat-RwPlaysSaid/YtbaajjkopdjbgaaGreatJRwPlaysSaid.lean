/-
  RwPlays holds: any call of a lock for readers and writers, on any lock, does what the document says, access by access, whatever it is answered, without conditions.
-/
import Derived.Test.YtbaajjkopdjbgaaGreatJRwPlaysSaid12
import Derived.Deep.DeepCutAuto
import Derived.Deep.RegionHeld2
import Derived.BigQuiet
import Derived.Deep.QuietTactic
open Go.Value renaming int -> V
open Go.IntKind renaming i64 -> Z
namespace Go.Proofs.YtbaajjkopdjbgaaGreat
open Go.RowKit Kv
theorem runlock_none {I U:Prog Unit}{c l:Int}{w:Bool}{S:TS}(h:S.got l≠rmark w):(runlockA I U c l w).run S=(some 9,S):=by
 unfold runlockA
 rw [run_gt,if_neg h]
 rfl
theorem rlock_held {I U:Prog Unit}{c l:Int}{w:Bool}{n:Nat}{S:TS}(h:S.got l≠0):(rlockA I U c l w n).run S=(some 10,S):=by
 unfold rlockA
 rw [run_gt,if_neg h]
 rfl
set_option maxRecDepth 100000 in
theorem counted38 (b c:Nat)(w:World)(hb:b<w.heap.size)(hc:∀ i,w.cell? ⟨b,i,none⟩=(#[V Z 1,V Z 1,V Z 8,V Z 1,V Z 1,V Z 1,V Z 2,V Z 1,V Z 1048576]:Array Value)[i]?) :
  Calls Tryz.prog 153 #[.slice (some ⟨b,0,none⟩) 3 c] w fun e w'=>e=.returned (V Z 4)/\Ext w w':=by
 go_enter Tryz.func153,Tryz.ntmps153
 go_wp2_with fail
 go_loopw [3,4] (fun u i wr=>((i=V Z 0/\u=V Z 0)∨(i=V Z 1/\u=V Z 1)∨(i=V Z 2/\u=V Z 2)∨(i=V Z 3/\u=V Z 4))/\Ext w wr) (fun _ i _=>3-(intOf i).toNat)
 case atStart=>exact⟨.inl ⟨rfl,rfl⟩,Ext.refl _⟩
 case round =>
  obtain⟨hr,hX⟩:=hrel
  have c_b:∀ i,wr.cell? ⟨b,i,none⟩=(#[V Z 1,V Z 1,V Z 8,V Z 1,V Z 1,V Z 1,V Z 2,V Z 1,V Z 1048576]:Array Value)[i]?:=fun i=>(hX.cell (p:=⟨b,i,none⟩) hb).trans (hc i)
  clear hc
  rcases hr with⟨rfl,rfl⟩ | ⟨rfl,rfl⟩ | ⟨rfl,rfl⟩ | ⟨rfl,rfl⟩
  · go_wp2_with fail
    refine⟨⟨.inr (.inl ⟨rfl,rfl⟩),hX⟩,?_⟩
    simp [intOf]
  · go_wp2_with fail
    refine⟨⟨.inr (.inr (.inl ⟨rfl,rfl⟩)),hX⟩,?_⟩
    simp [intOf]
  · go_wp2_with fail
    refine⟨⟨.inr (.inr (.inr ⟨rfl,rfl⟩)),hX⟩,?_⟩
    simp [intOf]
  · go_wp2_with fail
    go_ret
    exact⟨rfl,hX⟩
theorem strips38 (w:World):Calls Tryz.prog 154 #[] w fun e w'=>∃ b,e=.returned (.slice (some ⟨b,0,none⟩) 3 3)/\Blk w' b (.cells #[V Z 1,V Z 1,V Z 8,V Z 1,V Z 1,V Z 1,V Z 2,V Z 1,V Z 1048576] 176)/\Ext w w':=by
 have hX:=(Ext.refl w).alloc (.cells #[V Z 1,V Z 1,V Z 8,V Z 1,V Z 1,V Z 1,V Z 2,V Z 1,V Z 1048576] 176)
 go_enter Tryz.func154,Tryz.ntmps154
 go_wp2_with fail
 go_ret
 exact⟨_,rfl,Blk.new w _,hX⟩
theorem locals38 (w:World):Calls Tryz.prog 155 #[] w fun e w'=>e=.returned (V Z 1)/\Ext w w':=by
 have hX:=Ext.refl w
 go_enter Tryz.func155,Tryz.ntmps155
 go_wp2_with fail
 go_ret
 exact⟨rfl,hX⟩
theorem rwal1 (B p:Nat)(S:TS)(bk:Nat)(w:World)(h:Plays B w p S)(hta:TameA S)(hD:S.left<14)(hn0:S.nts.length+10*S.left<=90000)(g1:Blk w bk (.cells #[V Z 0,V Z 0,V Z 0,V Z 0,V Z 0,V Z 0,V Z 0,V Z 0,V Z 2,V Z 1,V Z 1,V Z 0,V Z 0,V Z 1,V Z 0,V Z 0,V Z 0,V Z 0,V Z 0,V Z 0,V Z 0,V Z 1,V Z 0] 69)) :
  Calls Tryz.prog 149 #[.pointer (some ⟨p,0,none⟩),.pointer (some ⟨bk,0,none⟩)] w (Post encI B p w ((rlockA (inA (lkA 14 2 1 0 0 1 [] 0) 14) (lkR 2 1 0 0 [] 0) 1 0 true 14).run S)):=by
 have hq:Calls Tryz.prog 74 #[.pointer (some ⟨p,0,none⟩),.agg #[V Z 0,V Z 0,V Z 0,V Z 0,V Z 0,V Z 0,V Z 0,V Z 0,V Z 2,V Z 1,V Z 1,V Z 0,V Z 0,V Z 1,V Z 0,V Z 0,V Z 0,V Z 0,V Z 0,V Z 0,V Z 0,V Z 1,V Z 0],V Z 0,.bool true] w (Post encI B p w ((rlockA (inA (lkA 14 2 1 0 0 1 [] 0) 14) (lkR 2 1 0 0 [] 0) 1 0 true 14).run S)) :=
  rlock_p B p 1 14 S true 0 2 1 0 0 1 1 0 0 [] w h use35 hta hD hn0 (by decide)
 generalize rlockA (inA (lkA 14 2 1 0 0 1 [] 0) 14) (lkR 2 1 0 0 [] 0) 1 0 true 14=T at *
 generalize hR:Post encI B p w ((T).run S)=R
 have hO:Owes R encI B p w ((T).run S):=hR▸owes _ _ _ _ _
 clear hR
 have hK:=Keep.refl [2,3,4] B p w
 go_enter Tryz.func149,Tryz.ntmps149
 go_upto_region 1 with fail
 refine wp_region_lit ?_
 refine load_obj rfl _ rfl rfl _ rfl bk rfl g1 rfl ?_
 try simp only [put_pack]
 go_wp2_with fail
 clear g1
 refine tlast hO hK hq (fun _ h=>⟨rfl,h⟩) ?_
 intro v S1 w1 hr hP1 hk1 hK1 hO1
 have hf:=hO1.done hP1 hK1
 clear hO1 hP1 hK1 hr hk1 hO h hK hq;go_wp2_with fail
 first | exact hf | (go_ret;exact hf)
theorem rwal2 (B p:Nat)(S:TS)(bk:Nat)(w:World)(h:Plays B w p S)(hta:TameA S)(hD:S.left<14)(hn0:S.nts.length+10*S.left<=90000)(g1:Blk w bk (.cells #[V Z 0,V Z 0,V Z 0,V Z 0,V Z 0,V Z 0,V Z 0,V Z 0,V Z 2,V Z 1,V Z 1,V Z 0,V Z 0,V Z 1,V Z 0,V Z 0,V Z 0,V Z 0,V Z 0,V Z 0,V Z 0,V Z 1,V Z 0] 69)) :
  Calls Tryz.prog 150 #[.pointer (some ⟨p,0,none⟩),.pointer (some ⟨bk,0,none⟩)] w (Post encI B p w ((runlockA (inA (lkA 14 2 1 0 0 1 [] 0) 14) (lkR 2 1 0 0 [] 0) 1 0 false).run S)):=by
 have hq:Calls Tryz.prog 77 #[.pointer (some ⟨p,0,none⟩),.agg #[V Z 0,V Z 0,V Z 0,V Z 0,V Z 0,V Z 0,V Z 0,V Z 0,V Z 2,V Z 1,V Z 1,V Z 0,V Z 0,V Z 1,V Z 0,V Z 0,V Z 0,V Z 0,V Z 0,V Z 0,V Z 0,V Z 1,V Z 0],V Z 0,.bool false] w (Post encI B p w ((runlockA (inA (lkA 14 2 1 0 0 1 [] 0) 14) (lkR 2 1 0 0 [] 0) 1 0 false).run S)) :=
  runlock_p B p 1 14 S false 0 2 1 0 0 1 1 0 0 [] w h use35 hta hD hn0 (by decide)
 generalize runlockA (inA (lkA 14 2 1 0 0 1 [] 0) 14) (lkR 2 1 0 0 [] 0) 1 0 false=T at *
 generalize hR:Post encI B p w ((T).run S)=R
 have hO:Owes R encI B p w ((T).run S):=hR▸owes _ _ _ _ _
 clear hR
 have hK:=Keep.refl [2,3,4] B p w
 go_enter Tryz.func150,Tryz.ntmps150
 go_upto_region 1 with fail
 refine wp_region_lit ?_
 refine load_obj rfl _ rfl rfl _ rfl bk rfl g1 rfl ?_
 try simp only [put_pack]
 go_wp2_with fail
 clear g1
 refine tlast hO hK hq (fun _ h=>⟨rfl,h⟩) ?_
 intro v S1 w1 hr hP1 hk1 hK1 hO1
 have hf:=hO1.done hP1 hK1
 clear hO1 hP1 hK1 hr hk1 hO h hK hq;go_wp2_with fail
 first | exact hf | (go_ret;exact hf)
theorem rwal3 (B p:Nat)(S:TS)(bk:Nat)(w:World)(h:Plays B w p S)(hta:TameA S)(hD:S.left<14)(hn0:S.nts.length+10*S.left<=90000)(g1:Blk w bk (.cells #[V Z 0,V Z 0,V Z 0,V Z 0,V Z 0,V Z 0,V Z 0,V Z 0,V Z 2,V Z 1,V Z 1,V Z 0,V Z 0,V Z 1,V Z 0,V Z 0,V Z 0,V Z 0,V Z 0,V Z 0,V Z 0,V Z 1,V Z 0] 69)) :
  Calls Tryz.prog 151 #[.pointer (some ⟨p,0,none⟩),.pointer (some ⟨bk,0,none⟩)] w (Post encI B p w ((rlockA (inA (lkA 14 2 1 0 0 1 [] 0) 14) (lkR 2 1 0 0 [] 0) 1 0 false 14).run S)):=by
 have hq:Calls Tryz.prog 74 #[.pointer (some ⟨p,0,none⟩),.agg #[V Z 0,V Z 0,V Z 0,V Z 0,V Z 0,V Z 0,V Z 0,V Z 0,V Z 2,V Z 1,V Z 1,V Z 0,V Z 0,V Z 1,V Z 0,V Z 0,V Z 0,V Z 0,V Z 0,V Z 0,V Z 0,V Z 1,V Z 0],V Z 0,.bool false] w (Post encI B p w ((rlockA (inA (lkA 14 2 1 0 0 1 [] 0) 14) (lkR 2 1 0 0 [] 0) 1 0 false 14).run S)) :=
  rlock_p B p 1 14 S false 0 2 1 0 0 1 1 0 0 [] w h use35 hta hD hn0 (by decide)
 generalize rlockA (inA (lkA 14 2 1 0 0 1 [] 0) 14) (lkR 2 1 0 0 [] 0) 1 0 false 14=T at *
 generalize hR:Post encI B p w ((T).run S)=R
 have hO:Owes R encI B p w ((T).run S):=hR▸owes _ _ _ _ _
 clear hR
 have hK:=Keep.refl [2,3,4] B p w
 go_enter Tryz.func151,Tryz.ntmps151
 go_upto_region 1 with fail
 refine wp_region_lit ?_
 refine load_obj rfl _ rfl rfl _ rfl bk rfl g1 rfl ?_
 try simp only [put_pack]
 go_wp2_with fail
 clear g1
 refine tlast hO hK hq (fun _ h=>⟨rfl,h⟩) ?_
 intro v S1 w1 hr hP1 hk1 hK1 hO1
 have hf:=hO1.done hP1 hK1
 clear hO1 hP1 hK1 hr hk1 hO h hK hq;go_wp2_with fail
 first | exact hf | (go_ret;exact hf)
theorem rwal4 (B p:Nat)(S:TS)(bk:Nat)(w:World)(h:Plays B w p S)(hta:TameA S)(hD:S.left<14)(hn0:S.nts.length+10*S.left<=90000)(g1:Blk w bk (.cells #[V Z 0,V Z 0,V Z 0,V Z 0,V Z 0,V Z 0,V Z 0,V Z 0,V Z 2,V Z 1,V Z 1,V Z 0,V Z 0,V Z 1,V Z 0,V Z 0,V Z 0,V Z 0,V Z 0,V Z 0,V Z 0,V Z 1,V Z 0] 69)) :
  Calls Tryz.prog 152 #[.pointer (some ⟨p,0,none⟩),.pointer (some ⟨bk,0,none⟩)] w (Post encI B p w ((runlockA (inA (lkA 14 2 1 0 0 1 [] 0) 14) (lkR 2 1 0 0 [] 0) 1 0 true).run S)):=by
 have hq:Calls Tryz.prog 77 #[.pointer (some ⟨p,0,none⟩),.agg #[V Z 0,V Z 0,V Z 0,V Z 0,V Z 0,V Z 0,V Z 0,V Z 0,V Z 2,V Z 1,V Z 1,V Z 0,V Z 0,V Z 1,V Z 0,V Z 0,V Z 0,V Z 0,V Z 0,V Z 0,V Z 0,V Z 1,V Z 0],V Z 0,.bool true] w (Post encI B p w ((runlockA (inA (lkA 14 2 1 0 0 1 [] 0) 14) (lkR 2 1 0 0 [] 0) 1 0 true).run S)) :=
  runlock_p B p 1 14 S true 0 2 1 0 0 1 1 0 0 [] w h use35 hta hD hn0 (by decide)
 generalize runlockA (inA (lkA 14 2 1 0 0 1 [] 0) 14) (lkR 2 1 0 0 [] 0) 1 0 true=T at *
 generalize hR:Post encI B p w ((T).run S)=R
 have hO:Owes R encI B p w ((T).run S):=hR▸owes _ _ _ _ _
 clear hR
 have hK:=Keep.refl [2,3,4] B p w
 go_enter Tryz.func152,Tryz.ntmps152
 go_upto_region 1 with fail
 refine wp_region_lit ?_
 refine load_obj rfl _ rfl rfl _ rfl bk rfl g1 rfl ?_
 try simp only [put_pack]
 go_wp2_with fail
 clear g1
 refine tlast hO hK hq (fun _ h=>⟨rfl,h⟩) ?_
 intro v S1 w1 hr hP1 hk1 hK1 hO1
 have hf:=hO1.done hP1 hK1
 clear hO1 hP1 hK1 hr hk1 hO h hK hq;go_wp2_with fail
 first | exact hf | (go_ret;exact hf)
set_option maxRecDepth 100000 in
set_option maxHeartbeats 1000000 in
theorem alive38 (w:World):Calls Tryz.prog 72 #[] w fun e w'=>e=.returned (.bool true)/\Ext w w':=by
 have hmk12:∀ w,(Instr.makeSlice 25 (V Z 12) (V Z 12)).run Tryz.prog w=.ok (.slice (some ⟨w.heap.size,0,none⟩) 12 12) (w.alloc (.cells ((zeros 12).map (V Z)).toArray 3)):=fun w=>make_ints 12 12 rfl (by decide) w
 have hmk3:∀ w,(Instr.makeSlice 25 (V Z 3) (V Z 3)).run Tryz.prog w=.ok (.slice (some ⟨w.heap.size,0,none⟩) 3 3) (w.alloc (.cells ((zeros 3).map (V Z)).toArray 3)):=fun w=>make_ints 3 3 rfl (by decide) w
 have hmf:∀ (fn:Fn) (first cap:Array Value) (w:World),(Instr.makeFunc fn first cap).run Tryz.prog w=.ok (.func fn first cap) w:=fun _ _ _ _=>rfl
 have hput:=fun w=>put_r 0 2 1 1 0 0 1 [] w use35.ok
 rw [show lkC 2 1 []=1 from rfl,show lkL 2 []=0 from rfl] at hput
 go_enter Tryz.func72,Tryz.ntmps72
 go_wp2_with fail
 refine (hput _).mono ?_
 rintro e w0 ⟨rfl,hX⟩
 clear hput
 rename_i hKK
 refine hKK _ _ ?_
 clear hKK
 refine new_obj rfl rfl rfl _ _ rfl _ rfl rfl rfl (by kernel_rfl) ?_
 refine wpList_nil ?_
 have b1:=Blk.new w0 (.cells #[V Z 0,V Z 0,V Z 0,V Z 0,V Z 0,V Z 0,V Z 0,V Z 0,V Z 2,V Z 1,V Z 1,V Z 0,V Z 0,V Z 1,V Z 0,V Z 0,V Z 0,V Z 0,V Z 0,V Z 0,V Z 0,V Z 1,V Z 0] 69)
 replace hX:=hX.alloc (.cells #[V Z 0,V Z 0,V Z 0,V Z 0,V Z 0,V Z 0,V Z 0,V Z 0,V Z 2,V Z 1,V Z 1,V Z 0,V Z 0,V Z 1,V Z 0,V Z 0,V Z 0,V Z 0,V Z 0,V Z 0,V Z 0,V Z 1,V Z 0] 69)
 generalize hbk:w0.heap.size=bk at *
 generalize World.alloc w0 _=V0 at *
 clear hbk;go_wp2_with fail
 have hA:=ints_new V0 (zeros 12) (by simp [zeros])
 replace b1:=b1.alloc (.cells ((zeros 12).map (V Z)).toArray 3)
 replace hX:=hX.alloc (.cells ((zeros 12).map (V Z)).toArray 3)
 have hsz:V0.heap.size<(World.alloc V0 (.cells ((zeros 12).map (V Z)).toArray 3)).heap.size:=by simp
 rw [show (zeros 12).length=12 from rfl] at hA
 generalize World.alloc V0 _=V0a at *
 have hPl:=play_err 149 #[.pointer (some ⟨bk,0,none⟩)] (rlockA (inA (lkA 14 2 1 0 0 1 [] 0) 14) (lkR 2 1 0 0 [] 0) 1 0 true 14) none 0 [] (some ⟨V0.heap.size,0,none⟩) 12 (zeros 12) V0a (Ints.nil _) (by simp) hA (by simp [maxAns,zeros]) (fun k hk=>by simp only [Value.ownBlock,Option.some.injEq] at hk;omega) (fun _ _=>rfl) (fun W p hxW hP=>rwal1 _ p _ bk W hP (fun v hv=>by
  simp [TS0,zeros] at hv
  omega) (show (zeros 12).length-0<14 by simp [zeros]) (by simp [TS0,TS.left,zeros]) (b1.ext hxW))
 have e1:((rlockA (inA (lkA 14 2 1 0 0 1 [] 0) 14) (lkR 2 1 0 0 [] 0) 1 0 true 14).run (TS0 [] (zeros 12))).1=some 0:=by decide +kernel
 have e2:((rlockA (inA (lkA 14 2 1 0 0 1 [] 0) 14) (lkR 2 1 0 0 [] 0) 1 0 true 14).run (TS0 [] (zeros 12))).2.acc.length=11:=by decide +kernel
 have e3:∀ i,((rlockA (inA (lkA 14 2 1 0 0 1 [] 0) 14) (lkR 2 1 0 0 [] 0) 1 0 true 14).run (TS0 [] (zeros 12))).2.loc i=([2]:List Int).getD i 0:=fun i=>by
  have h:((rlockA (inA (lkA 14 2 1 0 0 1 [] 0) 14) (lkR 2 1 0 0 [] 0) 1 0 true 14).run (TS0 [] (zeros 12))).2.loc i=if i=0 then 2 else 0:=by kernel_rfl
  rw [h]
  cases i with
  | zero=>rfl
  | succ i=>simp [List.getD]
 rw [e1,show (zeros 12).length=12 from rfl] at hPl
 generalize ((rlockA (inA (lkA 14 2 1 0 0 1 [] 0) 14) (lkR 2 1 0 0 [] 0) 1 0 true 14).run (TS0 [] (zeros 12))).2=S1 at *
 simp only [Option.getD_some,Option.isSome_some] at hPl
 refine hPl.mono ?_
 clear hPl e1 hA hsz
 rintro e y1 ⟨v1,rfl,hO,hx1⟩
 obtain⟨A1,c1,D1,d1,vs1,L1,rfl,hO1⟩:=hO
 have hsh:shortL L1=[2]:=(shortL_eq (L:=L1) (L':=[2]) fun i=>by rw [<- hO1.is i];exact e3 i).trans (by decide)
 have hl1:=hO1.locs;rw [hsh] at hl1
 obtain⟨E1,k1,hvs1,_,_⟩:=hl1.slice
 subst hvs1
 unfold outV
 rw [e2,show ([2]:List Int).length=1 from rfl]
 rw [show ([2]:List Int).length=1 from rfl] at hl1
 have hx9:=(Ext.refl y1).alloc (.cells #[.bool true,.slice A1 11 c1,.slice D1 S1.nts.length d1,.slice E1 1 k1] 30)
 replace hX:=(hX.trans hx1).trans hx9
 replace b1:=(b1.ext hx1).ext hx9
 have n1:=Blk.new y1 (.cells #[.bool true,.slice A1 11 c1,.slice D1 S1.nts.length d1,.slice E1 1 k1] 30)
 replace hl1:=hl1.ext hx9;clear hx1 hx9 e2 e3 hO1 hsh
 go_upto_region 3 with fail
 generalize hV1:y1.heap.size=z1 at *
 generalize World.alloc y1 _=V1 at *
 clear hV1;have c_n1:=n1.cells;go_wp2_with fail
 clear c_n1
 have hPl:=play_err 150 #[.pointer (some ⟨bk,0,none⟩)] (runlockA (inA (lkA 14 2 1 0 0 1 [] 0) 14) (lkR 2 1 0 0 [] 0) 1 0 false) E1 k1 [2] none 0 [] V1 hl1 (by simp) (Ints.nil _) (by simp [maxAns]) (fun k hk=>by simp [Value.ownBlock] at hk) (fun _ _=>rfl) (fun W p hxW hP=>rwal2 _ p _ bk W hP (fun v hv=>by simp [TS0] at hv) (show ([]:List Int).length-0<14 by simp) (by simp [TS0,TS.left]) (b1.ext hxW))
 rw [runlock_none (show (TS0 [2] []).got 0≠rmark false from by decide),show ([2]:List Int).length=1 from rfl] at hPl
 simp only [Option.getD_some,Option.isSome_some,List.length_nil] at hPl
 refine hPl.mono ?_
 clear hPl
 rintro e y2 ⟨v2,rfl,hO,hx2⟩
 obtain⟨A2,c2,D2,d2,vs2,L2,rfl,hO2⟩:=hO
 obtain⟨E2,k2,hvs2,_,_⟩:=hO2.locs.slice
 subst hvs2
 unfold outV
 rw [show (TS0 [2] []).acc.length=0 from rfl,show (TS0 [2] []).nts.length=0 from rfl]
 have n2:=Blk.new y2 (.cells #[.bool true,.slice A2 0 c2,.slice D2 0 d2,.slice E2 (shortL L2).length k2] 30)
 have hx9:=hx2.alloc (.cells #[.bool true,.slice A2 0 c2,.slice D2 0 d2,.slice E2 (shortL L2).length k2] 30)
 replace hX:=hX.trans hx9;replace b1:=b1.ext hx9;replace n1:=n1.ext hx9;skip
 replace hl1:=hl1.ext hx9;clear hx2 hx9 hO2
 go_upto_region 4 with fail
 generalize hV1:y2.heap.size=z2 at *
 generalize World.alloc y2 _=V2 at *
 clear hV1;have c_n1:=n1.cells;go_wp2_with fail
 clear c_n1
 have hPl:=play_err 151 #[.pointer (some ⟨bk,0,none⟩)] (rlockA (inA (lkA 14 2 1 0 0 1 [] 0) 14) (lkR 2 1 0 0 [] 0) 1 0 false 14) E1 k1 [2] none 0 [] V2 hl1 (by simp) (Ints.nil _) (by simp [maxAns]) (fun k hk=>by simp [Value.ownBlock] at hk) (fun _ _=>rfl) (fun W p hxW hP=>rwal3 _ p _ bk W hP (fun v hv=>by simp [TS0] at hv) (show ([]:List Int).length-0<14 by simp) (by simp [TS0,TS.left]) (b1.ext hxW))
 rw [rlock_held (show (TS0 [2] []).got 0≠0 from by decide),show ([2]:List Int).length=1 from rfl] at hPl
 simp only [Option.getD_some,Option.isSome_some,List.length_nil] at hPl
 refine hPl.mono ?_
 clear hPl
 rintro e y3 ⟨v3,rfl,hO,hx3⟩
 obtain⟨A3,c3,D3,d3,vs3,L3,rfl,hO3⟩:=hO
 obtain⟨E3,k3,hvs3,_,_⟩:=hO3.locs.slice
 subst hvs3
 unfold outV
 rw [show (TS0 [2] []).acc.length=0 from rfl,show (TS0 [2] []).nts.length=0 from rfl]
 have n3:=Blk.new y3 (.cells #[.bool true,.slice A3 0 c3,.slice D3 0 d3,.slice E3 (shortL L3).length k3] 30)
 have hx9:=hx3.alloc (.cells #[.bool true,.slice A3 0 c3,.slice D3 0 d3,.slice E3 (shortL L3).length k3] 30)
 replace hX:=hX.trans hx9;replace b1:=b1.ext hx9;replace n1:=n1.ext hx9;replace n2:=n2.ext hx9;replace hl1:=hl1.ext hx9;clear hx3 hx9 hO3
 go_upto_region 5 with fail
 generalize hV1:y3.heap.size=z3 at *
 generalize World.alloc y3 _=V3 at *
 clear hV1;have hX9:=hX.drew
 have lift:=(Ext.refl V3).drew
 replace b1:=b1.ext lift;replace n1:=n1.ext lift;replace n2:=n2.ext lift;replace hl1:=hl1.ext lift;clear lift hX
 obtain⟨Vq,hV⟩:∃ Vq,Vq=World.drew V3:=⟨_,rfl⟩
 rw [<- hV] at n1 n2 hX9 b1 hl1
 have hPl:∀ W b,Ext Vq W->b<W.heap.size->Ints W (.slice (some ⟨b,0,none⟩) 3 3) (zeros 3)->Calls Tryz.prog 13 #[.func (.func 152) #[] #[.pointer (some ⟨bk,0,none⟩)],.slice E1 1 k1,.slice (some ⟨b,0,none⟩) 3 3] W fun e w'=>∃ A9 n9 c9 A9m n9m c9m A9l n9l c9l,e=.returned (.tuple #[V Z 0,.agg #[.bool true,.slice A9 n9 c9,.slice A9m n9m c9m,.slice A9l n9l c9l]])/\Ext W w':=by
  intro W b hW hb hI
  have h:=play_err 152 #[.pointer (some ⟨bk,0,none⟩)] (runlockA (inA (lkA 14 2 1 0 0 1 [] 0) 14) (lkR 2 1 0 0 [] 0) 1 0 true) E1 k1 [2] (some ⟨b,0,none⟩) 3 (zeros 3) W (hl1.ext hW) (by simp) hI (by simp [maxAns,zeros]) (fun k hk=>by simp only [Value.ownBlock,Option.some.injEq] at hk;omega) (fun _ _=>rfl) (fun W' p hxW hP=>rwal4 _ p _ bk W' hP (fun v hv=>by
   simp [TS0,zeros] at hv
   omega) (show (zeros 3).length-0<14 by simp [zeros]) (by simp [TS0,TS.left,zeros]) (b1.ext (hW.trans hxW)))
  have e1:((runlockA (inA (lkA 14 2 1 0 0 1 [] 0) 14) (lkR 2 1 0 0 [] 0) 1 0 true).run (TS0 [2] (zeros 3))).1=some 0:=by decide +kernel
  rw [e1,show (zeros 3).length=3 from rfl,show ([2]:List Int).length=1 from rfl] at h
  refine h.mono ?_
  rintro e w' ⟨v,rfl,hO,hx⟩
  obtain⟨A2,c2,A2',c2',vs2,L2,rfl,hO⟩:=hO
  obtain⟨As2,k2,hvs2,_,_⟩:=hO.locs.slice
  subst hvs2
  exact⟨_,_,_,_,_,_,_,_,_,rfl,hx⟩
 have hS:=fun (w':World) (hx:Ext Vq w')=>(n1.ext hx).cells
 rw [hV] at hS hPl
 go_cut [8,9] (fun s8 s9 wx=>s8=V Z 0/\∃ bx A9 n9 c9 A9m n9m c9m A9l n9l c9l,s9=.pointer (some ⟨bx,0,none⟩)/\Blk wx bx (.cells #[.bool true,.slice A9 n9 c9,.slice A9m n9m c9m,.slice A9l n9l c9l] 30)/\Ext Vq wx)
 case first =>
  have hI3:∀ W:World,Ints (W.alloc (.cells ((zeros 3).map (V Z)).toArray 3)) (.slice (some ⟨W.heap.size,0,none⟩) 3 3) (zeros 3):=fun W=>ints_new W (zeros 3) (by simp [zeros])
  refine wp_region_held_drew (S:=fun w'=>∀ i,w'.cell? ⟨z1,i,none⟩=(#[.bool true,.slice A1 11 c1,.slice D1 S1.nts.length d1,.slice E1 1 k1]:Array Value)[i]?) rfl (hS _ (Ext.refl _)) (fun hHeld=>?_)
  refine tkb 0 ?_
  iterate 3
   refine tkn (v:=?_) rfl (by kernel_rfl) (fun _ _ _ h=>h) (by assumption) ?_ ?_
   rotate_left
   · (intro w hSw;(try dsimp only at hSw);go_simp;try with_reducible rfl)
   try simp only [put_pack]
  refine tke ?_
  refine wpAnyH_ready (rs:=[3,8]) (by kernel_rfl) (by simp) ?_
  refine AllReadyH.cons rfl (fun K hKK=>?_) (AllReadyH.cons rfl (fun K hKK=>?_) (AllReadyH.nil))
  · go_simp
    have hIa:=hI3 (World.drew V3)
    have hxa:=(Ext.refl (World.drew V3)).alloc (.cells ((zeros 3).map (V Z)).toArray 3)
    have hsa:(World.drew V3).heap.size<(World.alloc (World.drew V3) (.cells ((zeros 3).map (V Z)).toArray 3)).heap.size:=by simp
    refine hKK.out _ _ (hS _ hxa) (fun hHeld=>?_)
    clear hKK K
    try dsimp only
    refine wpAnyH_ready (rs:=[4,8]) (by kernel_rfl) (by simp) ?_
    refine AllReadyH.cons rfl (fun K hKK=>?_) (AllReadyH.cons rfl (fun K hKK=>?_) (AllReadyH.nil))
    · go_simp
      refine (hPl _ _ hxa hsa hIa).mono ?_
      rintro e y2 ⟨A9,n9,c9,A9m,n9m,c9m,A9l,n9l,c9l,rfl,hx⟩
      replace hx:=hxa.trans hx;clear hxa
      refine hKK.out _ _ (hS _ hx) (fun hHeld=>?_)
      clear hKK K
      try dsimp only
      refine tkb 5 ?_
      iterate 3
       refine tkn (v:=?_) rfl (by kernel_rfl) (fun _ _ _ h=>h) (by assumption) ?_ ?_
       rotate_left
       · (intro w hSw;(try dsimp only at hSw);go_simp;try with_reducible rfl)
       try simp only [put_pack]
      refine tke ?_
      refine wpAnyH_ready (rs:=[8]) (by kernel_rfl) (by simp) ?_
      refine AllReadyH.cons rfl (fun K hKK=>?_) (AllReadyH.nil)
      go_simp
      refine hKK.out _ _ (hS _ (hx.alloc _)) (fun hHeld=>?_)
      clear hKK K
      try dsimp only
      refine tk 9 (v:=?_) rfl (by kernel_rfl) (fun _ _ _ h=>h) (by assumption) ?_ ?_
      rotate_left
      · (intro w hSw;(try dsimp only at hSw);go_simp;try with_reducible rfl)
      try simp only [put_pack]
      refine wpAnyH_ready (rs:=[10]) (by kernel_rfl) (by simp) ?_
      refine AllReadyH.cons rfl (fun K hKK=>?_) (AllReadyH.nil)
      go_simp
      refine hKK.out _ _ (hS _ (hx.alloc _)) (fun hHeld=>?_)
      clear hKK K
      try dsimp only
      refine wpAnyH_done (by kernel_rfl) ?_ _
      go_simp
      go_wp2_with fail
      go_meet
      exact⟨rfl,y2.heap.size,A9,n9,c9,A9m,n9m,c9m,A9l,n9l,c9l,rfl,Blk.new y2 _,by rw [hV];exact hx.alloc _⟩
    · go_simp
      have bz:Blk (World.alloc (World.alloc (World.drew V3) (.cells ((zeros 3).map (V Z)).toArray 3)) (.cells #[.bool false,.slice none 0 0,.slice none 0 0,.slice none 0 0] 30)) (V3.heap.size+1) (.cells #[.bool false,.slice none 0 0,.slice none 0 0,.slice none 0 0] 30):=by
       have h:=Blk.new (World.alloc (World.drew V3) (.cells ((zeros 3).map (V Z)).toArray 3)) (.cells #[.bool false,.slice none 0 0,.slice none 0 0,.slice none 0 0] 30)
       simp only [World.size_alloc] at h
       exact h
      have hxz:=hxa.alloc (.cells #[.bool false,.slice none 0 0,.slice none 0 0,.slice none 0 0] 30)
      refine hKK.out _ _ (hS _ hxz) (fun hHeld=>?_)
      clear hKK K
      try dsimp only
      refine wpAnyH_ready (rs:=[4]) (by kernel_rfl) (by simp) ?_
      refine AllReadyH.cons rfl (fun K hKK=>?_) (AllReadyH.nil)
      go_simp
      refine (hPl _ _ hxz (by simp <;> omega) (hIa.ext ((Ext.refl _).alloc _))).mono ?_
      rintro e y2 ⟨A9,n9,c9,A9m,n9m,c9m,A9l,n9l,c9l,rfl,hx⟩
      replace bz:=bz.ext hx;replace hx:=hxz.trans hx;clear hxz
      refine hKK.out _ _ (hS _ hx) (fun hHeld=>?_)
      clear hKK K
      try dsimp only
      refine tkb 5 ?_
      iterate 3
       refine tkn (v:=?_) rfl (by kernel_rfl) (fun _ _ _ h=>h) (by assumption) ?_ ?_
       rotate_left
       · (intro w hSw;(try dsimp only at hSw);go_simp;try with_reducible rfl)
       try simp only [put_pack]
      refine tke ?_
      refine tk 9 (v:=?_) rfl (by kernel_rfl) (fun _ _ _ h=>h) (by assumption) ?_ ?_
      rotate_left
      · (intro w hSw;(try dsimp only at hSw);go_simp;try with_reducible rfl)
      try simp only [put_pack]
      refine wpAnyH_ready (rs:=[10]) (by kernel_rfl) (by simp) ?_
      refine AllReadyH.cons rfl (fun K hKK=>?_) (AllReadyH.nil)
      have c_bz:=bz.cells
      have hfz:∀ i,y2.frozen? ⟨V3.heap.size+1,i,none⟩=false:=fun i=>by
       have z6:=bz
       unfold Blk at z6
       simp [World.frozen?,z6]
      go_simp
      have hb3:(World.drew V3).heap.size<=V3.heap.size+1:=Nat.le_succ V3.heap.size
      have hf:Blk ((((y2.setCell ⟨V3.heap.size+1,0,none⟩ (.bool true)).setCell ⟨V3.heap.size+1,1,none⟩ (.slice A9 n9 c9)).setCell ⟨V3.heap.size+1,2,none⟩ (.slice A9m n9m c9m)).setCell ⟨V3.heap.size+1,3,none⟩ (.slice A9l n9l c9l)) (V3.heap.size+1) (.cells #[.bool true,.slice A9 n9 c9,.slice A9m n9m c9m,.slice A9l n9l c9l] 30):=heap_setCells_all bz [.bool true,.slice A9 n9 c9,.slice A9m n9m c9m,.slice A9l n9l c9l] rfl
      have hxf:Ext (World.drew V3) ((((y2.setCell ⟨V3.heap.size+1,0,none⟩ (.bool true)).setCell ⟨V3.heap.size+1,1,none⟩ (.slice A9 n9 c9)).setCell ⟨V3.heap.size+1,2,none⟩ (.slice A9m n9m c9m)).setCell ⟨V3.heap.size+1,3,none⟩ (.slice A9l n9l c9l)):=(((hx.setCell (p:=⟨V3.heap.size+1,0,none⟩) hb3 _).setCell (p:=⟨V3.heap.size+1,1,none⟩) hb3 _).setCell (p:=⟨V3.heap.size+1,2,none⟩) hb3 _).setCell (p:=⟨V3.heap.size+1,3,none⟩) hb3 _
      refine hKK.out _ _ (hS _ hxf) (fun hHeld=>?_)
      clear hKK K
      try dsimp only
      refine wpAnyH_done (by kernel_rfl) ?_ _
      go_simp
      go_wp2_with fail
      go_meet
      exact⟨rfl,V3.heap.size+1,A9,n9,c9,A9m,n9m,c9m,A9l,n9l,c9l,rfl,hf,by rw [hV];exact hxf⟩
  · go_simp
    have bz:Blk (World.alloc (World.drew V3) (.cells #[.bool false,.slice none 0 0,.slice none 0 0,.slice none 0 0] 30)) V3.heap.size (.cells #[.bool false,.slice none 0 0,.slice none 0 0,.slice none 0 0] 30):=Blk.new (World.drew V3) (.cells #[.bool false,.slice none 0 0,.slice none 0 0,.slice none 0 0] 30)
    have hxz:=(Ext.refl (World.drew V3)).alloc (.cells #[.bool false,.slice none 0 0,.slice none 0 0,.slice none 0 0] 30)
    refine hKK.out _ _ (hS _ hxz) (fun hHeld=>?_)
    clear hKK K
    try dsimp only
    refine wpAnyH_ready (rs:=[3]) (by kernel_rfl) (by simp) ?_
    refine AllReadyH.cons rfl (fun K hKK=>?_) (AllReadyH.nil)
    go_simp
    have hIb:=hI3 (World.alloc (World.drew V3) (.cells #[.bool false,.slice none 0 0,.slice none 0 0,.slice none 0 0] 30))
    replace bz:=bz.alloc (.cells ((zeros 3).map (V Z)).toArray 3)
    replace hxz:=hxz.alloc (.cells ((zeros 3).map (V Z)).toArray 3)
    refine hKK.out _ _ (hS _ hxz) (fun hHeld=>?_)
    clear hKK K
    try dsimp only
    refine wpAnyH_ready (rs:=[4]) (by kernel_rfl) (by simp) ?_
    refine AllReadyH.cons rfl (fun K hKK=>?_) (AllReadyH.nil)
    go_simp
    refine (hPl _ _ hxz (by simp <;> omega) (by simpa using hIb)).mono ?_
    rintro e y2 ⟨A9,n9,c9,A9m,n9m,c9m,A9l,n9l,c9l,rfl,hx⟩
    replace bz:=bz.ext hx;replace hx:=hxz.trans hx;clear hxz
    refine hKK.out _ _ (hS _ hx) (fun hHeld=>?_)
    clear hKK K
    try dsimp only
    refine tkb 5 ?_
    iterate 3
     refine tkn (v:=?_) rfl (by kernel_rfl) (fun _ _ _ h=>h) (by assumption) ?_ ?_
     rotate_left
     · (intro w hSw;(try dsimp only at hSw);go_simp;try with_reducible rfl)
     try simp only [put_pack]
    refine tke ?_
    refine tk 9 (v:=?_) rfl (by kernel_rfl) (fun _ _ _ h=>h) (by assumption) ?_ ?_
    rotate_left
    · (intro w hSw;(try dsimp only at hSw);go_simp;try with_reducible rfl)
    try simp only [put_pack]
    refine wpAnyH_ready (rs:=[10]) (by kernel_rfl) (by simp) ?_
    refine AllReadyH.cons rfl (fun K hKK=>?_) (AllReadyH.nil)
    have c_bz:=bz.cells
    have hfz:∀ i,y2.frozen? ⟨V3.heap.size,i,none⟩=false:=fun i=>by
     have z6:=bz
     unfold Blk at z6
     simp [World.frozen?,z6]
    go_simp
    have hb3:(World.drew V3).heap.size<=V3.heap.size:=Nat.le_refl _
    have hf:Blk ((((y2.setCell ⟨V3.heap.size,0,none⟩ (.bool true)).setCell ⟨V3.heap.size,1,none⟩ (.slice A9 n9 c9)).setCell ⟨V3.heap.size,2,none⟩ (.slice A9m n9m c9m)).setCell ⟨V3.heap.size,3,none⟩ (.slice A9l n9l c9l)) (V3.heap.size) (.cells #[.bool true,.slice A9 n9 c9,.slice A9m n9m c9m,.slice A9l n9l c9l] 30):=heap_setCells_all bz [.bool true,.slice A9 n9 c9,.slice A9m n9m c9m,.slice A9l n9l c9l] rfl
    have hxf:Ext (World.drew V3) ((((y2.setCell ⟨V3.heap.size,0,none⟩ (.bool true)).setCell ⟨V3.heap.size,1,none⟩ (.slice A9 n9 c9)).setCell ⟨V3.heap.size,2,none⟩ (.slice A9m n9m c9m)).setCell ⟨V3.heap.size,3,none⟩ (.slice A9l n9l c9l)):=(((hx.setCell (p:=⟨V3.heap.size,0,none⟩) hb3 _).setCell (p:=⟨V3.heap.size,1,none⟩) hb3 _).setCell (p:=⟨V3.heap.size,2,none⟩) hb3 _).setCell (p:=⟨V3.heap.size,3,none⟩) hb3 _
    refine hKK.out _ _ (hS _ hxf) (fun hHeld=>?_)
    clear hKK K
    try dsimp only
    refine wpAnyH_done (by kernel_rfl) ?_ _
    go_simp
    go_wp2_with fail
    go_meet
    exact⟨rfl,V3.heap.size,A9,n9,c9,A9m,n9m,c9m,A9l,n9l,c9l,rfl,hf,by rw [hV];exact hxf⟩
 case rest =>
 obtain⟨rfl,bx,A9,n9,c9,A9m,n9m,c9m,A9l,n9l,c9l,rfl,hB9,hx⟩:=hcut
 replace hX:=hX9.trans hx;replace n1:=n1.ext hx;replace n2:=n2.ext hx;clear hx hPl hS hV hX9 b1 hl1 hmk12 hmk3;have c_n1:=n1.cells;have c_n2:=n2.cells;have c_n9:=hB9.cells;go_wp2_with fail
 refine (strips38 _).mono ?_
 rintro e w5 ⟨b5,rfl,hb5,hx5⟩
 clear c_n1 c_n2 c_n9 n1 n2 hB9;replace hX:=hX.trans hx5;clear hx5;go_wp2_with fail
 refine (counted38 b5 3 _ hb5.lt hb5.cells).mono ?_
 rintro e w6 ⟨rfl,hx6⟩
 replace hX:=hX.trans hx6;clear hx6 hb5;go_wp2_with fail
 refine (locals38 _).mono ?_
 rintro e w7 ⟨rfl,hx7⟩
 have hf:=Hd (hX.trans hx7)
 clear hx7 hX;go_wp2_with fail
 first | go_ret2 | go_ret
 exact⟨rfl,hf.out⟩
def fewL (alg:Int) (N:Nat) (mode:Int):Bool:=match layM (lkWants alg N) N mode 0 0 with
 | some rs=>decide (0<=lkL alg rs/\lkL alg rs<=30000)
 | none=>true
theorem few_all:∀ a∈[3,4,5,6,7,8],∀ p∈[((1:Nat),(1:Int)),(2,1),(3,1),(4,1),(1,2),(2,2)],fewL (a:Int) p.1 p.2=true:=by decide +kernel
theorem lkL_few {alg:Int}{N:Nat}{mode room:Int}{rs:List Reg}(h:LkOk alg N mode 0 0 room rs)(h4:N<=4)(hm:mode=1∨N<=2):0<=lkL alg rs/\lkL alg rs<=30000:=by
 have hn:=h.hn;have ha:=h.halg;have hmo:=h.hmode
 by_cases h3:3<=alg
 · have hl:=h.hlay h3
   have hf:fewL alg N mode=true:=by
    refine few_all alg ?_ (N,mode) ?_
    · simp only [List.mem_cons,List.not_mem_nil,or_false]
      omega
    · simp only [List.mem_cons,List.not_mem_nil,or_false,Prod.mk.injEq]
      omega
   unfold fewL at hf;rw [hl] at hf
   simpa using hf
 · unfold lkL
   repeat' split
   all_goals omega
theorem ints_put {w:World}{b n:Nat}{l:List Int}(h:Ints w (.slice (some ⟨b,0,none⟩) n n) l)(i:Nat)(hi:i<n)(v:Int)(hb:w.heap[b]?=some (.cells (l.map (V Z)).toArray 3 (0,0))) :
  Ints (w.setCell ⟨b,i,none⟩ (V Z v)) (.slice (some ⟨b,0,none⟩) n n) (l.set i v):=by
 obtain⟨A,c,he,h1,h2,h3⟩:=h
 injection he with e1 e2 e3
 subst e1 e2 e3
 refine⟨_,_,by rw [List.length_set],by rw [List.length_set];exact h1,h2,fun _=>?_⟩
 have hg:=heap_setCell (i:=i) hb (V Z v)
 refine⟨b,0,rfl,(Array.getElem?_eq_some_iff.1 hg).1,fun j x hj=>?_⟩
 rw [Nat.zero_add,cell_of_heap hg,Array.getElem?_setIfInBounds]
 by_cases hij:i=j
 · subst hij
   rw [List.getElem?_set_self hi] at hj
   obtain rfl:v=x:=by simpa using hj
   simp [hi]
 · rw [List.getElem?_set_ne hij] at hj
   simp [hij,hj]
-- walk
set_option maxRecDepth 100000 in
theorem in_r (B p N D:Nat)(o:Bool)(S:TS)(alg mode base loc room:Int)(m:Nat)(rs:List Reg)(w:World)(h:RAt B w p o S)(hk:LkUse alg N mode base loc room rs m)(hta:TameA S)(hD:o=false->S.left<D)(hn0:o=false->S.nts.length+10*S.left<=90000) :
  Calls Tryz.prog 50 #[.pointer (some ⟨p,0,none⟩),.agg #[V Z alg,V Z N,V Z mode,V Z base,V Z loc,V Z room],V Z m] w (RPost encU B p w (inA (lkA D alg N base loc room rs m) D) o S):=by
 generalize hR:RPost encU B p w (inA (lkA D alg N base loc room rs m) D) o S=R
 have hO:ROwes R encU B p w (inA (lkA D alg N base loc room rs m) D) o S:=hR▸rowes _ _ _ _ _ _ _
 clear hR
 obtain⟨b1,hK,hP⟩:=h.entry (.cells #[V Z alg,V Z N,V Z mode,V Z base,V Z loc,V Z room] 23)
 have c_b1:=b1.cells;clear h
 have hacq:=Hd fun S W hP hta hD hn=>lkacq_r B p N D false S alg mode base loc room m rs W hP hk.ok hk.hm hk.hN hta hD hn
 have hfail:=Hd fun S S'=>lkA_fail (D:=D) (alg:=alg) (N:=N) (base:=base) (loc:=loc) (room:=room) (rs:=rs) (m:=m) (S:=S) (S':=S')
 have hends:=Hd (ends_lkA D alg N base loc room rs m)
 have hT4:=Hd (notes_lkA D alg N base loc room rs m)
 generalize lkA D alg N base loc room rs m=T at *
 have hOh:=Hd hO;clear hO hk
 go_enter Tryz.func50,Tryz.ntmps50
 go_wp2_with fail
 generalize w.heap.size=z at *
 generalize World.alloc w _=W0 at *
 clear c_b1
 go_loopw [] (fun wr'=>∃ (n:Nat) (o2:Bool) (S2:TS),RAt B wr' p o2 S2/\KeepR B p w wr'/\HeldR wr' p z (.cells #[V Z alg,V Z N,V Z mode,V Z base,V Z loc,V Z room] 23)/\TameA S2/\(o2=false->S2.left<D/\S2.nts.length+10*S2.left<=90000/\S2.left<n)/\Hid (ROwes R encU B p w (inA T n) o2 S2)) (fun wr'=>leftR wr' p)
 case atStart=>exact⟨D,o,S,hP,hK,b1,hta,fun ho=>⟨hD ho,hn0 ho,hD ho⟩,hOh⟩
 case round =>
  clear hP hK b1 hta hD hn0 hOh
  obtain⟨n,o2,S2,hP,hK,b1,hta,hD,hO⟩:=hrel
  replace hO:=hO.out
  have hlw:=Hd hP.leftR
  obtain⟨_,_,_,_,_,hcc⟩:=hP.cell
  cases o2 with
  | true =>
    have hf:R (.returned (encU ())) wr:=hO.over () hP hK
    clear hO hK hP hD b1 hta;go_wp2_with fail
    first | exact hf | (refine bodyPost_ret (results_none rfl _ _ _) rfl ?_;exact hf)
  | false =>
    obtain⟨hD3,hn3,hn4⟩:=hD rfl
    clear hD
    cases n with
    | zero=>omega
    | succ n =>
      rw [show inA T (n+1)=T.bind fun e=>if e=11 then inA T n else .ret () from rfl] at hO
      have hOh:=Hd hO;clear hO;have c_b1:=b1.cells;go_wp2_with fail
      clear c_b1 hcc
      refine rstepA hT4.out hOh.out hK (hacq.out S2 _ hP hta hD3 (by omega)) ?_
      clear hOh hK hP;intro e o3 S3 w3 htm hlf hdn hnn hP hk hK hO
      have hlw2:=Hd hP.leftR
      by_cases he:e=0
      · have de:(e==0)=true:=by rw [beq_iff_eq];exact he
        rw [if_neg (show ¬ e=11 by omega)] at hO
        have hf:R (.returned (encU ())) w3:=hO.ret hP hK
        clear hO hP hK hk hdn hlw hlw2 he b1 htm hta;go_wp2_with fail
        first | exact hf | (refine bodyPost_ret (results_none rfl _ _ _) rfl ?_;exact hf)
      · have de:(e==0)=false:=by rw [beq_eq_false_iff_ne];exact he
        have hnx:o3=false->e=11/\S3.left<S2.left:=fun ho=>by
         subst ho
         obtain⟨_,h2,_⟩:=hdn rfl
         obtain⟨rfl,_⟩:=(hends.out S2 e S3 h2).resolve_left he
         exact⟨rfl,hfail.out S2 S3 h2 hP.len⟩
        replace hO:ROwes R encU B p w (inA T n) o3 S3:=by
         cases o3 with
         | true=>exact hO.any _
         | false=>rw [if_pos (hnx rfl).1] at hO;exact hO
        have hOh:=Hd hO;replace b1:=b1.keep hk;replace hta:=htm hta
        replace hnx:o3=false->S3.left<S2.left:=fun ho=>(hnx ho).2
        clear hO hk hdn he htm
        have hnxh:=Hd hnx
        clear hnx;go_wp2_with fail
        refine⟨⟨n,o3,S3,hP,hK,b1,hta,fun ho=>by have:=hnxh.out ho;omega,hOh⟩,?_⟩
        rw [hlw.out,hlw2.out]
        cases o3 with
        | true=>simp;omega
        | false=>have:=hnxh.out rfl;simp;omega
set_option maxRecDepth 100000 in
theorem mout_r (B p N:Nat)(o:Bool)(S:TS)(alg mode base loc room:Int)(m:Nat)(rs:List Reg)(w:World)(h:RAt B w p o S)(hk:LkUse alg N mode base loc room rs m)(hn0:S.nts.length<=100000) :
  Calls Tryz.prog 51 #[.pointer (some ⟨p,0,none⟩),.agg #[V Z alg,V Z N,V Z mode,V Z base,V Z loc,V Z room],V Z m] w (RPost encU B p w (lkR alg N base loc rs m) o S):=by
 generalize hR:RPost encU B p w (lkR alg N base loc rs m) o S=R
 have hO:ROwes R encU B p w (lkR alg N base loc rs m) o S:=hR▸rowes _ _ _ _ _ _ _
 clear hR
 obtain⟨b1,hK,hP⟩:=h.entry (.cells #[V Z alg,V Z N,V Z mode,V Z base,V Z loc,V Z room] 23)
 have c_b1:=b1.cells;clear h
 have hq:=fun W hP=>lkrel_r B p N o S alg mode base loc room m rs W hP hk.ok hk.hm hn0
 go_enter Tryz.func51,Tryz.ntmps51
 go_wp2_with fail
 refine rlast hO hK (hq _ hP) ?_
 clear hO hK hP hq c_b1;intro u o9 S9 w9 hP hk9 hK hO
 have hf:R (.returned (encU u)) w9:=hO.ret hP hK
 clear hO hP hK hk9;go_wp2_with fail
 first | exact hf | (refine bodyPost_ret (results_none rfl _ _ _) rfl ?_;exact hf) | (go_ret;exact hf)
theorem ROwes.congr {α:Type}{R:Ending->World->Prop}{enc:α->Value}{B p:Nat}{w0:World}{T T':Prog α}{o:Bool}{S:TS}(hO:ROwes R enc B p w0 T o S)(h:T.run S=T'.run S):ROwes R enc B p w0 T' o S:=by
 rintro e w' ⟨a,o',S',rfl,hr,h1,h2⟩
 refine hO _ _ ⟨a,o',S',rfl,?_,h1,h2⟩
 cases hr with
 | over=>exact .over _ _
 | done hr=>exact .done (h.trans hr)
 | stop a hr=>exact .stop a (h.trans hr)
theorem rstepB {α β:Type}{B p:Nat}{w0 w:World}{o:Bool}{S:TS}{R:Ending->World->Prop}{P:Program}{f:FuncId}{args:Array Value}{K:Ending->World->Prop}{enc:α->Value}{enc':β->Value}{T:Prog α}{g:α->Prog β}
  (hO:ROwes R enc' B p w0 (T.bind g) o S)(hB:KeepR B p w0 w)(h:Calls P f args w (RPost enc B p w T o S))
  (hk:∀ v o1 S1 w1,(TameA S->TameA S1)->S1.left<=S.left->(o1=false->o=false/\T.run S=(some v,S1)/\S1.acc.length<=S1.ans.length)->RAt B w1 p o1 S1->KeepR B p w w1->KeepR B p w0 w1->ROwes R enc' B p w0 (g v) o1 S1->K (.returned (enc v)) w1):Calls P f args w K:=by
 refine h.mono fun e w1 ⟨v,o1,S1,he,hr,h1,h2⟩=>?_
 subst he
 refine hk v o1 S1 w1 (fun ht=>?_) (ref_lefts hr) (fun ho=>?_) h1 h2 (hB.trans h2) (hO.then hr)
 · unfold TameA
   rw [ref_ans hr]
   exact ht
 · subst ho
   cases hr with
   | done hr=>exact⟨rfl,hr,h1.len⟩
def bvN':Value->Nat
 | .bool true=>0
 | _=>1
set_option maxRecDepth 100000 in
theorem rturnT_r (B p:Nat)(o:Bool)(S:TS)(t:Int)(arg alg:Int)(N:Nat)(mode base loc room c l:Int)(w:World)(h:RAt B w p o S)(hc:0<=c/\c<=40000) :
  Calls Tryz.prog 161 #[.pointer (some ⟨p,0,none⟩),.agg #[V Z 0,V Z 0,V Z 0,V Z 0,V Z arg,V Z 0,V Z 0,V Z 0,V Z alg,V Z N,V Z mode,V Z base,V Z loc,V Z room,V Z 0,V Z 0,V Z 0,V Z 0,V Z 0,V Z 0,V Z 0,V Z c,V Z l],V Z t,.bool true] w (RPost encB B p w (rturnA c t true) o S):=by
 generalize hR:RPost encB B p w (rturnA c t true) o S=R
 have hO:ROwes R encB B p w (rturnA c t true) o S:=hR▸rowes _ _ _ _ _ _ _
 clear hR
 obtain⟨b1,hK,hP⟩:=h.entry (.cells #[V Z 0,V Z 0,V Z 0,V Z 0,V Z arg,V Z 0,V Z 0,V Z 0,V Z alg,V Z N,V Z mode,V Z base,V Z loc,V Z room,V Z 0,V Z 0,V Z 0,V Z 0,V Z 0,V Z 0,V Z 0,V Z c,V Z l] 69)
 have c_b1:=b1.cells;clear h
 have hw0:=IntWalk.i64_in (c+0) (by omega)
 have hwc:=IntWalk.i64_in c (by omega)
 have hw1:=IntWalk.i64_in (c+1) (by omega)
 have hw2:=IntWalk.i64_in (c+2) (by omega)
 obtain⟨t1,ht1⟩:∃ y,wrap64 (t+1)=y:=⟨_,rfl⟩
 have hwt:IntKind.i64.wrap (t+1)=t1:=by rw [<- ht1,IntKind.wrap_i64];unfold wrap64;omega
 unfold rturnA at hO;have hOh:=Hd hO;clear hO
 go_enter Tryz.func161,Tryz.ntmps161
 go_wp2_with fail
 refine rstepA (notes_rd _) hOh.out hK (read_r B p o S _ _ hP) ?_
 clear hOh hK hP;intro hd o1 S1 w1 htm hlf hdn hnn hP hk1 hK hO;replace b1:=b1.keep hk1;clear hk1 htm hlf hdn hnn c_b1;have c_b1:=b1.cells
 obtain⟨_,_,_,_,_,hcc⟩:=hP.cell
 by_cases he:hd=t
 rotate_left
 · have de:(hd != t)=true:=by rw [bne_iff_ne];exact he
   rw [if_neg he] at hO;clear he
   have hf:R (.returned (encB false)) _:=hO.ret hP hK
   clear hO hP hK b1;go_wp2_with fail
   first | with_reducible exact hf | (go_simp;exact hf) | (go_ret;exact hf) | (go_ret2;exact hf)
 have de:(hd != t)=false:=by simpa using he
 rw [if_pos he] at hO;clear he
 cases o1 with
 | true =>
   have hf:R (.returned (encB false)) _:=hO.over false hP hK
   clear hO hP hK b1;go_wp2_with fail
   first | with_reducible exact hf | (go_simp;exact hf) | (go_ret;exact hf) | (go_ret2;exact hf)
 | false =>
   have hOh:=Hd hO;clear hO;go_wp2_with fail
   clear hcc 
   refine rstepA (notes_rd _) hOh.out hK (read_r B p false S1 _ _ hP) ?_
   clear hOh hK hP;intro x o2 S2 w2 htm hlf hdn hnn hP hk1 hK hO;replace b1:=b1.keep hk1;clear hk1 htm hlf hdn hnn c_b1;have c_b1:=b1.cells
   obtain⟨_,_,_,_,_,hcc⟩:=hP.cell
   by_cases hx:x=0
   rotate_left
   · have dx:(x != 0)=true:=by rw [bne_iff_ne];exact hx
     rw [if_neg hx] at hO;clear hx
     have hf:R (.returned (encB false)) _:=hO.ret hP hK
     clear hO hP hK b1;go_wp2_with fail
     first | with_reducible exact hf | (go_simp;exact hf) | (go_ret;exact hf) | (go_ret2;exact hf)
   have dx:(x != 0)=false:=by simpa using hx
   rw [if_pos hx] at hO;clear hx
   cases o2 with
   | true =>
     have hf:R (.returned (encB false)) _:=hO.over false hP hK
     clear hO hP hK b1;go_wp2_with fail
     first | with_reducible exact hf | (go_simp;exact hf) | (go_ret;exact hf) | (go_ret2;exact hf)
   | false =>
     have hOh:=Hd hO;clear hO;go_wp2_with fail
     clear hcc 
     refine rstepA (notes_rd _) hOh.out hK (read_r B p false S2 _ _ hP) ?_
     clear hOh hK hP;intro n o3 S3 w3 htm hlf hdn hnn hP hk1 hK hO;replace b1:=b1.keep hk1;clear hk1 htm hlf hdn hnn c_b1;have c_b1:=b1.cells
     by_cases hn:n=0
     rotate_left
     · have dn:(n != 0)=true:=by rw [bne_iff_ne];exact hn
       rw [if_pos ⟨by trivial,hn⟩] at hO
       clear hn
       have hf:R (.returned (encB false)) _:=hO.ret hP hK
       clear hO hP hK b1;go_wp2_with fail
       first | with_reducible exact hf | (go_simp;exact hf) | (go_ret;exact hf) | (go_ret2;exact hf)
     have dn:(n != 0)=false:=by simpa using hn
     rw [if_neg (fun h=>h.2 hn)] at hO
     clear hn;unfold rgetA at hO;rw [if_pos rfl,ht1] at hO;clear ht1;have hOh:=Hd hO;clear hO;go_wp2_with fail
     refine rstepA (notes_wr _ _) hOh.out hK (write_r B p o3 S3 _ _ _ hP) ?_
     clear hOh hK hP;intro u o4 S4 w4 htm hlf hdn hnn hP hk1 hK hO;replace b1:=b1.keep hk1;clear hk1 htm hlf hdn hnn c_b1;have c_b1:=b1.cells;have hOh:=Hd hO;clear hO;go_wp2_with fail
     refine rstepA (notes_wr _ _) hOh.out hK (write_r B p o4 S4 _ _ _ hP) ?_
     clear hOh hK hP;intro u o5 S5 w5 htm hlf hdn hnn hP hk1 hK hO;replace b1:=b1.keep hk1;clear hk1 htm hlf hdn hnn c_b1;have c_b1:=b1.cells
     have hf:R (.returned (encB true)) _:=hO.ret hP hK
     clear hO hP hK b1;go_wp2_with fail
     first | with_reducible exact hf | (go_simp;exact hf) | (go_ret;exact hf) | (go_ret2;exact hf)
set_option maxRecDepth 100000 in
theorem rturnF_r (B p:Nat)(o:Bool)(S:TS)(t:Int)(arg alg:Int)(N:Nat)(mode base loc room c l:Int)(w:World)(h:RAt B w p o S)(hc:0<=c/\c<=40000) :
  Calls Tryz.prog 161 #[.pointer (some ⟨p,0,none⟩),.agg #[V Z 0,V Z 0,V Z 0,V Z 0,V Z arg,V Z 0,V Z 0,V Z 0,V Z alg,V Z N,V Z mode,V Z base,V Z loc,V Z room,V Z 0,V Z 0,V Z 0,V Z 0,V Z 0,V Z 0,V Z 0,V Z c,V Z l],V Z t,.bool false] w (RPost encB B p w (rturnA c t false) o S):=by
 generalize hR:RPost encB B p w (rturnA c t false) o S=R
 have hO:ROwes R encB B p w (rturnA c t false) o S:=hR▸rowes _ _ _ _ _ _ _
 clear hR
 obtain⟨b1,hK,hP⟩:=h.entry (.cells #[V Z 0,V Z 0,V Z 0,V Z 0,V Z arg,V Z 0,V Z 0,V Z 0,V Z alg,V Z N,V Z mode,V Z base,V Z loc,V Z room,V Z 0,V Z 0,V Z 0,V Z 0,V Z 0,V Z 0,V Z 0,V Z c,V Z l] 69)
 have c_b1:=b1.cells;clear h
 have hw0:=IntWalk.i64_in (c+0) (by omega)
 have hwc:=IntWalk.i64_in c (by omega)
 have hw1:=IntWalk.i64_in (c+1) (by omega)
 have hw2:=IntWalk.i64_in (c+2) (by omega)
 obtain⟨t1,ht1⟩:∃ y,wrap64 (t+1)=y:=⟨_,rfl⟩
 have hwt:IntKind.i64.wrap (t+1)=t1:=by rw [<- ht1,IntKind.wrap_i64];unfold wrap64;omega
 unfold rturnA at hO;have hOh:=Hd hO;clear hO
 go_enter Tryz.func161,Tryz.ntmps161
 go_wp2_with fail
 refine rstepA (notes_rd _) hOh.out hK (read_r B p o S _ _ hP) ?_
 clear hOh hK hP;intro hd o1 S1 w1 htm hlf hdn hnn hP hk1 hK hO;replace b1:=b1.keep hk1;clear hk1 htm hlf hdn hnn c_b1;have c_b1:=b1.cells
 obtain⟨_,_,_,_,_,hcc⟩:=hP.cell
 by_cases he:hd=t
 rotate_left
 · have de:(hd != t)=true:=by rw [bne_iff_ne];exact he
   rw [if_neg he] at hO;clear he
   have hf:R (.returned (encB false)) _:=hO.ret hP hK
   clear hO hP hK b1;go_wp2_with fail
   first | with_reducible exact hf | (go_simp;exact hf) | (go_ret;exact hf) | (go_ret2;exact hf)
 have de:(hd != t)=false:=by simpa using he
 rw [if_pos he] at hO;clear he
 cases o1 with
 | true =>
   have hf:R (.returned (encB false)) _:=hO.over false hP hK
   clear hO hP hK b1;go_wp2_with fail
   first | with_reducible exact hf | (go_simp;exact hf) | (go_ret;exact hf) | (go_ret2;exact hf)
 | false =>
   have hOh:=Hd hO;clear hO;go_wp2_with fail
   clear hcc 
   refine rstepA (notes_rd _) hOh.out hK (read_r B p false S1 _ _ hP) ?_
   clear hOh hK hP;intro x o2 S2 w2 htm hlf hdn hnn hP hk1 hK hO;replace b1:=b1.keep hk1;clear hk1 htm hlf hdn hnn c_b1;have c_b1:=b1.cells
   obtain⟨_,_,_,_,_,hcc⟩:=hP.cell
   by_cases hx:x=0
   rotate_left
   · have dx:(x != 0)=true:=by rw [bne_iff_ne];exact hx
     rw [if_neg hx] at hO;clear hx
     have hf:R (.returned (encB false)) _:=hO.ret hP hK
     clear hO hP hK b1;go_wp2_with fail
     first | with_reducible exact hf | (go_simp;exact hf) | (go_ret;exact hf) | (go_ret2;exact hf)
   have dx:(x != 0)=false:=by simpa using hx
   rw [if_pos hx] at hO;clear hx
   cases o2 with
   | true =>
     have hf:R (.returned (encB false)) _:=hO.over false hP hK
     clear hO hP hK b1;go_wp2_with fail
     first | with_reducible exact hf | (go_simp;exact hf) | (go_ret;exact hf) | (go_ret2;exact hf)
   | false =>
     have hOh:=Hd hO;clear hO;go_wp2_with fail
     clear hcc 
     refine rstepA (notes_rd _) hOh.out hK (read_r B p false S2 _ _ hP) ?_
     clear hOh hK hP;intro n o3 S3 w3 htm hlf hdn hnn hP hk1 hK hO;replace b1:=b1.keep hk1;clear hk1 htm hlf hdn hnn c_b1;have c_b1:=b1.cells
     rw [if_neg (fun h=>absurd h.1 (by decide))] at hO
     unfold rgetA at hO
     rw [if_neg (by decide),ht1] at hO
     clear ht1
     obtain⟨n1,hn1⟩:∃ y,wrap64 (n+1)=y:=⟨_,rfl⟩
     have hwn:IntKind.i64.wrap (n+1)=n1:=by rw [<- hn1,IntKind.wrap_i64];unfold wrap64;omega
     rw [hn1] at hO;clear hn1;have hOh:=Hd hO;clear hO;go_wp2_with fail
     refine rstepA (notes_wr _ _) hOh.out hK (write_r B p o3 S3 _ _ _ hP) ?_
     clear hOh hK hP;intro u o4 S4 w4 htm hlf hdn hnn hP hk1 hK hO;replace b1:=b1.keep hk1;clear hk1 htm hlf hdn hnn c_b1;have c_b1:=b1.cells;have hOh:=Hd hO;clear hO;go_wp2_with fail
     refine rstepA (notes_wr _ _) hOh.out hK (write_r B p o4 S4 _ _ _ hP) ?_
     clear hOh hK hP;intro u o5 S5 w5 htm hlf hdn hnn hP hk1 hK hO;replace b1:=b1.keep hk1;clear hk1 htm hlf hdn hnn c_b1;have c_b1:=b1.cells
     have hf:R (.returned (encB true)) _:=hO.ret hP hK
     clear hO hP hK b1;go_wp2_with fail
     first | with_reducible exact hf | (go_simp;exact hf) | (go_ret;exact hf) | (go_ret2;exact hf)
theorem rturn_r (B p:Nat)(o:Bool)(S:TS)(t:Int)(wb:Bool)(arg alg:Int)(N:Nat)(mode base loc room c l:Int)(w:World)(h:RAt B w p o S)(hc:0<=c/\c<=40000) :
  Calls Tryz.prog 161 #[.pointer (some ⟨p,0,none⟩),.agg #[V Z 0,V Z 0,V Z 0,V Z 0,V Z arg,V Z 0,V Z 0,V Z 0,V Z alg,V Z N,V Z mode,V Z base,V Z loc,V Z room,V Z 0,V Z 0,V Z 0,V Z 0,V Z 0,V Z 0,V Z 0,V Z c,V Z l],V Z t,.bool wb] w (RPost encB B p w (rturnA c t wb) o S):=by
 cases wb
 · exact rturnF_r B p o S t arg alg N mode base loc room c l w h hc
 · exact rturnT_r B p o S t arg alg N mode base loc room c l w h hc
set_option maxRecDepth 100000 in
set_option maxHeartbeats 2000000 in
theorem rlock_r (B p N D:Nat)(o:Bool)(S:TS)(wb:Bool)(arg alg mode base loc room c l:Int)(m:Nat)(rs:List Reg)(w:World)(h:RAt B w p o S)(hk:LkUse alg N mode base loc room rs m)(hta:TameA S)(hb:o=false->S.left<D/\S.nts.length+10*S.left<=90000)(hc:0<=c/\c<=40000) :
  Calls Tryz.prog 75 #[.pointer (some ⟨p,0,none⟩),.agg #[V Z 0,V Z 0,V Z 0,V Z 0,V Z arg,V Z 0,V Z 0,V Z 0,V Z alg,V Z N,V Z mode,V Z base,V Z loc,V Z room,V Z 0,V Z 0,V Z 0,V Z 0,V Z 0,V Z 0,V Z 0,V Z c,V Z l],V Z m,.bool wb] w (RPost encI B p w (rlockA (inA (lkA D alg N base loc room rs m) D) (lkR alg N base loc rs m) c l wb D) o S):=by
 generalize hR:RPost encI B p w (rlockA (inA (lkA D alg N base loc room rs m) D) (lkR alg N base loc rs m) c l wb D) o S=R
 have hO:ROwes R encI B p w (rlockA (inA (lkA D alg N base loc room rs m) D) (lkR alg N base loc rs m) c l wb D) o S:=hR▸rowes _ _ _ _ _ _ _
 clear hR
 obtain⟨b1,hK,hP⟩:=h.entry (.cells #[V Z 0,V Z 0,V Z 0,V Z 0,V Z arg,V Z 0,V Z 0,V Z 0,V Z alg,V Z N,V Z mode,V Z base,V Z loc,V Z room,V Z 0,V Z 0,V Z 0,V Z 0,V Z 0,V Z 0,V Z 0,V Z c,V Z l] 69)
 have c_b1:=b1.cells;clear h
 have htu:=Hd fun (o:Bool) (S:TS) (t:Int) (w:World) (hP:RAt B w p o S)=>rturn_r B p o S t wb arg alg N mode base loc room c l w hP hc
 have hin:=Hd fun (o:Bool) (S:TS) (w:World) (hP:RAt B w p o S) (hta:TameA S) (hb:o=false->S.left<D/\S.nts.length+10*S.left<=90000)=>in_r B p N D o S alg mode base loc room m rs w hP hk hta (fun ho=>(hb ho).1) (fun ho=>(hb ho).2)
 have hout:=Hd fun S w hP hn=>mout_r B p N false S alg mode base loc room m rs w hP hk hn
 have hpay:=Hd (lkA_pays D alg N base loc room rs m D)
 have hUn:=Hd (notes_lkR alg N base loc rs m)
 have hw0:=IntWalk.i64_in (c+0) (by omega)
 have hw1:=IntWalk.i64_in (c+1) (by omega)
 have hw2:=IntWalk.i64_in (c+2) (by omega)
 have hw3:=IntWalk.i64_in (c+3) (by omega)
 generalize (inA (lkA D alg N base loc room rs m) D)=I at *
 generalize (lkR alg N base loc rs m)=U at *
 clear hk;unfold rlockA at hO;replace hO:=hO.get
 go_enter Tryz.func75,Tryz.ntmps75
 go_wp2_with fail
 refine (get_r B p o S l _ hP).mono ?_
 rintro e w' ⟨rfl,rfl⟩
 generalize S.got l=g at hO ⊢
 by_cases hg:g=0
 rotate_left
 · have dg:(g != 0)=true:=by rw [bne_iff_ne];exact hg
   rw [if_neg hg] at hO
   have hf:R (.returned (encI 10)) _:=hO.ret hP hK
   clear hO hP hK hg b1 hpay hUn hin hout;go_wp2_with fail
   first | with_reducible exact hf | (go_simp;exact hf) | (go_ret;exact hf) | (go_ret2;exact hf)
 have dg:(g != 0)=false:=by simpa using hg
 rw [if_pos hg,insideA_bind] at hO;clear hg;have hOh:=Hd hO;clear hO;go_wp2_with fail
 refine rstepB hOh.out hK (hin.out o S _ hP hta hb) ?_
 clear hOh hK hP;intro u0 o1 S1 wS1 htm hlf hdn hP hk1 hK hO;replace hta:=htm hta;replace b1:=b1.keep hk1;clear hk1 htm c_b1;have c_b1:=b1.cells
 have H1:o1=false->S1.left<=S.left/\S1.left<D/\S1.nts.length+10*S1.left<=90004:=fun ho=>by
  obtain⟨h1,h2,h3⟩:=hdn ho
  have:=hpay.out S _ S1 h2 h3
  have:=hb h1
  omega
 rw [rtailA_bind] at hO;clear hdn hlf hb;have hOh:=Hd hO;clear hO;go_wp2_with fail
 refine rstepA (notes_rd _) hOh.out hK (read_r B p o1 S1 _ _ hP) ?_
 clear hOh hK hP;intro t o2 S2 w2 htm hlf hdn hnn hP hk1 hK hO;replace b1:=b1.keep hk1;replace hta:=htm hta
 have H2:o2=false->S2.left<D/\S2.nts.length+10*S2.left+6<=90000:=fun ho=>by
  have:=(hdn ho).2.2 (asks_rd _)
  have:=H1 (hdn ho).1
  omega
 clear hk1 htm hlf hdn hnn c_b1;have c_b1:=b1.cells;clear H1
 obtain⟨t1,ht1⟩:∃ x,wrap64 (t+1)=x:=⟨_,rfl⟩
 have hwt:IntKind.i64.wrap (t+1)=t1:=by rw [<- ht1,IntKind.wrap_i64];unfold wrap64;omega
 rw [ht1] at hO;clear ht1;have hOh:=Hd hO;clear hO;go_wp2_with fail
 refine rstepA (notes_wr _ _) hOh.out hK (write_r B p o2 S2 _ _ _ hP) ?_
 clear hOh hK hP;intro u o3 S3 w3 htm hlf hdn hnn hP hk1 hK hO;replace b1:=b1.keep hk1;replace hta:=htm hta
 have H3:o3=false->S3.left<D/\S3.nts.length+10*S3.left+6<=90000:=fun ho=>by
  have:=H2 (hdn ho).1
  omega
 clear hk1 htm hlf hdn hnn c_b1;have c_b1:=b1.cells;clear H2 hwt
 obtain⟨F,hF⟩:∃ F:Unit->Prog Int,F=fun _=>(st l (rmark wb)).bind fun _=>.ret 0:=⟨_,rfl⟩
 have hFh:=Hd hF
 replace hO:ROwes R encI B p w (U.bind fun _=>(rwaitA I U c t wb D).bind F) o3 S3:=by rw [hF];exact hO
 clear hF
 generalize hz:w.heap.size=z at *
 clear hz;have hOh:=Hd hO;clear hO
 obtain⟨_,_,_,_,_,hcc⟩:=hP.cell
 go_upto_if 37 with fail
 go_cut [] (fun wx=>∃ (o4:Bool) (S4:TS),RAt B wx p o4 S4/\KeepR B p w wx/\HeldR wx p z (.cells #[V Z 0,V Z 0,V Z 0,V Z 0,V Z arg,V Z 0,V Z 0,V Z 0,V Z alg,V Z N,V Z mode,V Z base,V Z loc,V Z room,V Z 0,V Z 0,V Z 0,V Z 0,V Z 0,V Z 0,V Z 0,V Z c,V Z l] 69)/\TameA S4/\(o4=false->S4.left<D/\S4.nts.length+10*S4.left<=90000)/\Hid (ROwes R encI B p w ((rwaitA I U c t wb D).bind F) o4 S4))
 case first =>
  cases o3 with
  | true =>
    have hOh2:=Hd (hOh.out.any ((rwaitA I U c t wb D).bind F))
    clear hOh;go_wp2_with fail
    go_meet
    exact⟨true,S3,hP,hK,b1,hta,fun h=>absurd h (by decide),hOh2⟩
  | false =>
    have hH:=H3 rfl
    go_wp2_with fail
    clear hcc
    refine rstepA hUn.out hOh.out hK (hout.out S3 _ hP (by omega)) ?_
    clear hOh hK hP;intro u9 o9 S9 w9 htm hlf9 _ hnn9 hP hk1 hK hO;replace hta:=htm hta;replace b1:=b1.keep hk1;clear hk1 c_b1 htm;have hOh:=Hd hO;clear hO;go_wp2_with fail
    go_meet
    exact⟨o9,S9,hP,hK,b1,hta,fun _=>by omega,hOh⟩
 case rest =>
 clear hP hK b1 hta hOh H3 hcc c_b1
 obtain⟨o4,S4,hP,hK,b1,hta,H4,hOh⟩:=hcut
 have c_b1:=b1.cells;go_wp2_with fail
 go_loopw [10] (fun bv wr'=>∃ (g:Bool) (n:Nat) (o2:Bool) (S2:TS),bv=.bool g/\RAt B wr' p o2 S2/\KeepR B p w wr'/\HeldR wr' p z (.cells #[V Z 0,V Z 0,V Z 0,V Z 0,V Z arg,V Z 0,V Z 0,V Z 0,V Z alg,V Z N,V Z mode,V Z base,V Z loc,V Z room,V Z 0,V Z 0,V Z 0,V Z 0,V Z 0,V Z 0,V Z 0,V Z c,V Z l] 69)/\TameA S2/\(o2=false->S2.left<D/\S2.nts.length+10*S2.left<=90000/\S2.left<n)/\Hid (ROwes R encI B p w (if g=true then F () else (rwaitA I U c t wb n).bind F) o2 S2)) (fun bv wr'=>leftR wr' p+bvN' bv)
 case atStart=>exact⟨false,D,o4,S4,rfl,hP,hK,b1,hta,fun ho=>by have:=H4 ho;omega,hOh⟩
 case round =>
  clear hP hK b1 hta H4 hOh c_b1
  obtain⟨g,n,o2,S2,rfl,hP,hK,b1,hta,hD,hO⟩:=hrel
  replace hO:=hO.out
  have hlw:=Hd hP.leftR
  obtain⟨_,_,_,_,_,hcc⟩:=hP.cell
  have c_b1:=b1.cells
  have hend:g=true∨o2=true->ROwes R encI B p w ((st l (rmark wb)).bind fun _=>.ret 0) o2 S2:=fun h=>by
   rcases h with rfl | rfl
   · rw [<- show F ()=((st l (rmark wb)).bind fun _=>.ret 0) from by rw [hFh.out]];exact hO
   · exact hO.any _
  by_cases hgo:g=true∨o2=true
  · skip
    clear hO hD hlw;replace hO:=hend hgo;clear hend
    have hd2:g=true∨(g=false/\o2=true):=by cases g <;> cases o2 <;> simp_all
    clear hgo;have hOh:=Hd hO;clear hO
    cases wb with
    | true =>
      replace hOh:Hid (ROwes R encI B p w ((st l 2).bind fun _=>.ret 0) o2 S2):=hOh
      rcases hd2 with rfl | ⟨rfl,rfl⟩
      · go_wp2_with fail
        clear hcc
        refine rstep hOh.out hK (set_r B p o2 S2 _ _ _ hP) ?_
        clear hOh hK hP;intro u9 o9 S9 w9 hP hk1 hK hO
        have hf:R (.returned (encI 0)) _:=hO.ret hP hK
        clear hO hP hK hk1 c_b1 b1;go_wp2_with fail
        first | with_reducible exact hf | (go_simp;exact hf) | (go_ret;exact hf) | (go_ret2;exact hf)
      · go_wp2_with fail
        clear hcc
        refine rstep hOh.out hK (set_r B p true S2 _ _ _ hP) ?_
        clear hOh hK hP;intro u9 o9 S9 w9 hP hk1 hK hO
        have hf:R (.returned (encI 0)) _:=hO.ret hP hK
        clear hO hP hK hk1 c_b1 b1;go_wp2_with fail
        first | with_reducible exact hf | (go_simp;exact hf) | (go_ret;exact hf) | (go_ret2;exact hf)
    | false =>
      replace hOh:Hid (ROwes R encI B p w ((st l 1).bind fun _=>.ret 0) o2 S2):=hOh
      rcases hd2 with rfl | ⟨rfl,rfl⟩
      · go_wp2_with fail
        clear hcc
        refine rstep hOh.out hK (set_r B p o2 S2 _ _ _ hP) ?_
        clear hOh hK hP;intro u9 o9 S9 w9 hP hk1 hK hO
        have hf:R (.returned (encI 0)) _:=hO.ret hP hK
        clear hO hP hK hk1 c_b1 b1;go_wp2_with fail
        first | with_reducible exact hf | (go_simp;exact hf) | (go_ret;exact hf) | (go_ret2;exact hf)
      · go_wp2_with fail
        clear hcc
        refine rstep hOh.out hK (set_r B p true S2 _ _ _ hP) ?_
        clear hOh hK hP;intro u9 o9 S9 w9 hP hk1 hK hO
        have hf:R (.returned (encI 0)) _:=hO.ret hP hK
        clear hO hP hK hk1 c_b1 b1;go_wp2_with fail
        first | with_reducible exact hf | (go_simp;exact hf) | (go_ret;exact hf) | (go_ret2;exact hf)
  · have hg2:g=false/\o2=false:=by cases g <;> cases o2 <;> simp_all
    obtain⟨rfl,rfl⟩:=hg2
    clear hend hgo
    obtain⟨hD',hn0,hn⟩:=hD rfl
    clear hD;have hD:=hD';clear hD'
    cases n with
    | zero=>omega
    | succ n =>
      replace hO:ROwes R encI B p w ((rwaitA I U c t wb (n+1)).bind F) false S2:=hO
      rw [show rwaitA I U c t wb (n+1)=(insideA I U (rturnA c t wb)).bind fun g=>if g=true then .ret () else rwaitA I U c t wb n from rfl,Prog.bind_assoc,insideA_bind] at hO
      have hOh:=Hd hO;clear hO;go_wp2_with fail
      clear hcc
      refine rstepB hOh.out hK (hin.out false S2 _ hP hta (fun _=>⟨hD,hn0⟩)) ?_
      clear hOh hK hP;intro u0 o3 S3 wS3 htm hlf hdn hP hk1 hK hO;replace hta:=htm hta;replace b1:=b1.keep hk1;clear hk1 htm c_b1
      have H3:o3=false->S3.left<=S2.left/\S3.nts.length+10*S3.left<=90004:=fun ho=>by
       obtain⟨_,h2,h3⟩:=hdn ho
       have:=hpay.out S2 _ S3 h2 h3
       omega
      have hle:=hlf;clear hdn hlf;have hOh:=Hd hO;clear hO
      go_upto_region 11 with fail
      refine wp_region_lit ?_
      refine load_obj rfl _ rfl rfl _ rfl z rfl b1.1 rfl ?_
      try simp only [put_pack]
      go_wp2_with fail
      refine rstepA (rturnA_notes c t wb) hOh.out hK (htu.out o3 S3 t _ hP) ?_
      clear hOh hK hP;intro g o5 S5 wS5 htm hlf hdn hnn hP hk1 hK hO;replace hta:=htm hta;replace b1:=b1.keep hk1;clear hk1 htm;have c_b1:=b1.cells;replace hle:=Nat.le_trans hlf hle
      have H5:o5=false->S5.left<S2.left/\S5.nts.length+10*S5.left+6<=90000:=fun ho=>by
       have:=(hdn ho).2.2 (rturnA_asks c t wb)
       have:=H3 (by first | exact (hdn ho).1 | trivial)
       omega
      clear hdn hlf hnn H3
      obtain⟨_,_,_,_,_,hcc⟩:=hP.cell
      cases o5 with
      | true =>
        have hOh:Hid (ROwes R encI B p w (if g=true then F () else (rwaitA I U c t wb n).bind F) true S5):=hO.any _
        clear hO
        have hlw2:=Hd hP.leftR
        have hlf2:S5.left<=S2.left:=hle
        go_wp2_with fail
        refine⟨⟨g,n,true,S5,rfl,hP,hK,b1,hta,fun h=>absurd h (by decide),hOh⟩,?_⟩
        show leftR _ p+bvN' (.bool g)<leftR _ p+1
        have hq:bvN' (.bool g)<=1:=by cases g <;> decide
        rw [hlw.out,hlw2.out]
        simp;omega
      | false =>
        have hH:=H5 rfl
        have hOh:=Hd hO;clear hO;go_wp2_with fail
        clear hcc
        refine rstepA hUn.out hOh.out hK (hout.out S5 _ hP (by omega)) ?_
        clear hOh hK hP;intro u9 o9 S9 w9 htm hlf9 _ hnn9 hP hk1 hK hO;replace hta:=htm hta;replace b1:=b1.keep hk1;clear hk1 c_b1 htm;have c_b1:=b1.cells
        have hOh:Hid (ROwes R encI B p w (if g=true then F () else (rwaitA I U c t wb n).bind F) o9 S9):=by
         cases g <;> exact hO
        clear hO
        have hlw2:=Hd hP.leftR
        have hlf2:S9.left<=S2.left:=(by omega)
        go_wp2_with fail
        refine⟨⟨g,n,o9,S9,rfl,hP,hK,b1,hta,fun _=>by omega,hOh⟩,?_⟩
        show leftR _ p+bvN' (.bool g)<leftR _ p+1
        have hq:bvN' (.bool g)<=1:=by cases g <;> decide
        rw [hlw.out,hlw2.out]
        cases o9 <;> simp <;> omega
set_option maxRecDepth 100000 in
set_option maxHeartbeats 2000000 in
theorem runlockT_r (B p N D:Nat)(o:Bool)(S:TS)(arg alg mode base loc room c l:Int)(m:Nat)(rs:List Reg)(w:World)(h:RAt B w p o S)(hk:LkUse alg N mode base loc room rs m)(hta:TameA S)(hb:o=false->S.left<D/\S.nts.length+10*S.left<=90000)(hc:0<=c/\c<=40000) :
  Calls Tryz.prog 78 #[.pointer (some ⟨p,0,none⟩),.agg #[V Z 0,V Z 0,V Z 0,V Z 0,V Z arg,V Z 0,V Z 0,V Z 0,V Z alg,V Z N,V Z mode,V Z base,V Z loc,V Z room,V Z 0,V Z 0,V Z 0,V Z 0,V Z 0,V Z 0,V Z 0,V Z c,V Z l],V Z m,.bool true] w (RPost encI B p w (runlockA (inA (lkA D alg N base loc room rs m) D) (lkR alg N base loc rs m) c l true) o S):=by
 generalize hR:RPost encI B p w (runlockA (inA (lkA D alg N base loc room rs m) D) (lkR alg N base loc rs m) c l true) o S=R
 have hO:ROwes R encI B p w (runlockA (inA (lkA D alg N base loc room rs m) D) (lkR alg N base loc rs m) c l true) o S:=hR▸rowes _ _ _ _ _ _ _
 clear hR
 obtain⟨b1,hK,hP⟩:=h.entry (.cells #[V Z 0,V Z 0,V Z 0,V Z 0,V Z arg,V Z 0,V Z 0,V Z 0,V Z alg,V Z N,V Z mode,V Z base,V Z loc,V Z room,V Z 0,V Z 0,V Z 0,V Z 0,V Z 0,V Z 0,V Z 0,V Z c,V Z l] 69)
 have c_b1:=b1.cells;clear h
 have hin:=Hd fun (o:Bool) (S:TS) (w:World) (hP:RAt B w p o S) (hta:TameA S) (hb:o=false->S.left<D/\S.nts.length+10*S.left<=90000)=>in_r B p N D o S alg mode base loc room m rs w hP hk hta (fun ho=>(hb ho).1) (fun ho=>(hb ho).2)
 have hout:=Hd fun S w hP hn=>mout_r B p N false S alg mode base loc room m rs w hP hk hn
 have hpay:=Hd (lkA_pays D alg N base loc room rs m D)
 have hUn:=Hd (notes_lkR alg N base loc rs m)
 have hwc:=IntWalk.i64_in c (by omega)
 have hw0:=IntWalk.i64_in (c+0) (by omega)
 have hw1:=IntWalk.i64_in (c+1) (by omega)
 have hw2:=IntWalk.i64_in (c+2) (by omega)
 have hw3:=IntWalk.i64_in (c+3) (by omega)
 generalize (inA (lkA D alg N base loc room rs m) D)=I at *
 generalize (lkR alg N base loc rs m)=U at *
 clear hk;unfold runlockA at hO
 rw [show rmark true=2 from rfl] at hO
 replace hO:=hO.get
 go_enter Tryz.func78,Tryz.ntmps78
 go_wp2_with fail
 refine (get_r B p o S l _ hP).mono ?_
 rintro e w' ⟨rfl,rfl⟩
 generalize S.got l=g at hO ⊢
 by_cases hg:g=2
 rotate_left
 · have dg:(g != 2)=true:=by rw [bne_iff_ne];exact hg
   rw [if_neg hg] at hO
   have hf:R (.returned (encI 9)) _:=hO.ret hP hK
   clear hO hP hK hg b1 hpay hUn hin hout;go_wp2_with fail
   first | with_reducible exact hf | (go_simp;exact hf) | (go_ret;exact hf) | (go_ret2;exact hf)
 have dg:(g != 2)=false:=by simpa using hg
 rw [if_pos hg,insideA_bind] at hO;clear hg;have hOh:=Hd hO;clear hO;go_wp2_with fail
 refine rstepB hOh.out hK (hin.out o S _ hP hta hb) ?_
 clear hOh hK hP;intro u0 o1 S1 wS1 htm hlf hdn hP hk1 hK hO;replace hta:=htm hta;replace b1:=b1.keep hk1;clear hk1 htm c_b1;have c_b1:=b1.cells
 have H1:o1=false->S1.nts.length+10*S1.left<=90004:=fun ho=>by
  obtain⟨h1,h2,h3⟩:=hdn ho
  have:=hpay.out S _ S1 h2 h3
  have:=hb h1
  omega
 clear hdn hlf hb;unfold rlowA at hO;rw [if_pos rfl] at hO;have hOh:=Hd hO;clear hO;go_wp2_with fail
 refine rstepA (notes_wr _ _) hOh.out hK (write_r B p o1 S1 _ _ _ hP) ?_
 clear hOh hK hP;intro u o3 S3 w3 htm hlf hdn hnn hP hk1 hK hO;replace b1:=b1.keep hk1
 have H4:o3=false->S3.nts.length<=100000:=fun ho=>by
  have:=H1 (hdn ho).1
  omega
 clear hk1 htm hlf hdn hnn c_b1;have c_b1:=b1.cells;clear H1
 generalize hz:w.heap.size=z at *
 clear hz;have hOh:=Hd hO;clear hO
 obtain⟨_,_,_,_,_,hcc⟩:=hP.cell
 go_upto_if 56 with fail
 go_cut [] (fun wx=>∃ (o4:Bool) (S4:TS),RAt B wx p o4 S4/\KeepR B p w wx/\HeldR wx p z (.cells #[V Z 0,V Z 0,V Z 0,V Z 0,V Z arg,V Z 0,V Z 0,V Z 0,V Z alg,V Z N,V Z mode,V Z base,V Z loc,V Z room,V Z 0,V Z 0,V Z 0,V Z 0,V Z 0,V Z 0,V Z 0,V Z c,V Z l] 69)/\Hid (ROwes R encI B p w ((st l 0).bind fun _=>.ret 0) o4 S4))
 case first =>
  cases o3 with
  | true =>
    have hOh2:=Hd (hOh.out.any ((st l 0).bind fun _=>.ret 0))
    clear hOh;go_wp2_with fail
    go_meet
    exact⟨true,S3,hP,hK,b1,hOh2⟩
  | false =>
    have hH:=H4 rfl
    go_wp2_with fail
    clear hcc
    refine rstepA hUn.out hOh.out hK (hout.out S3 _ hP hH) ?_
    clear hOh hK hP;intro u9 o9 S9 w9 htm hlf9 _ hnn9 hP hk1 hK hO;replace b1:=b1.keep hk1;clear hk1 c_b1 htm;have hOh:=Hd hO;clear hO;go_wp2_with fail
    go_meet
    exact⟨o9,S9,hP,hK,b1,hOh⟩
 case rest =>
 clear hP hK b1 hOh H4 hcc c_b1
 obtain⟨o4,S4,hP,hK,b1,hOh⟩:=hcut
 have c_b1:=b1.cells;go_wp2_with fail
 refine rstep hOh.out hK (set_r B p o4 S4 _ _ _ hP) ?_
 clear hOh hK hP;intro u9 o9 S9 w9 hP hk1 hK hO
 have hf:R (.returned (encI 0)) _:=hO.ret hP hK
 clear hO hP hK hk1 c_b1 b1;go_wp2_with fail
 first | with_reducible exact hf | (go_simp;exact hf) | (go_ret;exact hf) | (go_ret2;exact hf)
set_option maxRecDepth 100000 in
set_option maxHeartbeats 2000000 in
theorem runlockF_r (B p N D:Nat)(o:Bool)(S:TS)(arg alg mode base loc room c l:Int)(m:Nat)(rs:List Reg)(w:World)(h:RAt B w p o S)(hk:LkUse alg N mode base loc room rs m)(hta:TameA S)(hb:o=false->S.left<D/\S.nts.length+10*S.left<=90000)(hc:0<=c/\c<=40000) :
  Calls Tryz.prog 78 #[.pointer (some ⟨p,0,none⟩),.agg #[V Z 0,V Z 0,V Z 0,V Z 0,V Z arg,V Z 0,V Z 0,V Z 0,V Z alg,V Z N,V Z mode,V Z base,V Z loc,V Z room,V Z 0,V Z 0,V Z 0,V Z 0,V Z 0,V Z 0,V Z 0,V Z c,V Z l],V Z m,.bool false] w (RPost encI B p w (runlockA (inA (lkA D alg N base loc room rs m) D) (lkR alg N base loc rs m) c l false) o S):=by
 generalize hR:RPost encI B p w (runlockA (inA (lkA D alg N base loc room rs m) D) (lkR alg N base loc rs m) c l false) o S=R
 have hO:ROwes R encI B p w (runlockA (inA (lkA D alg N base loc room rs m) D) (lkR alg N base loc rs m) c l false) o S:=hR▸rowes _ _ _ _ _ _ _
 clear hR
 obtain⟨b1,hK,hP⟩:=h.entry (.cells #[V Z 0,V Z 0,V Z 0,V Z 0,V Z arg,V Z 0,V Z 0,V Z 0,V Z alg,V Z N,V Z mode,V Z base,V Z loc,V Z room,V Z 0,V Z 0,V Z 0,V Z 0,V Z 0,V Z 0,V Z 0,V Z c,V Z l] 69)
 have c_b1:=b1.cells;clear h
 have hin:=Hd fun (o:Bool) (S:TS) (w:World) (hP:RAt B w p o S) (hta:TameA S) (hb:o=false->S.left<D/\S.nts.length+10*S.left<=90000)=>in_r B p N D o S alg mode base loc room m rs w hP hk hta (fun ho=>(hb ho).1) (fun ho=>(hb ho).2)
 have hout:=Hd fun S w hP hn=>mout_r B p N false S alg mode base loc room m rs w hP hk hn
 have hpay:=Hd (lkA_pays D alg N base loc room rs m D)
 have hUn:=Hd (notes_lkR alg N base loc rs m)
 have hwc:=IntWalk.i64_in c (by omega)
 have hw0:=IntWalk.i64_in (c+0) (by omega)
 have hw1:=IntWalk.i64_in (c+1) (by omega)
 have hw2:=IntWalk.i64_in (c+2) (by omega)
 have hw3:=IntWalk.i64_in (c+3) (by omega)
 generalize (inA (lkA D alg N base loc room rs m) D)=I at *
 generalize (lkR alg N base loc rs m)=U at *
 clear hk;unfold runlockA at hO
 rw [show rmark false=1 from rfl] at hO
 replace hO:=hO.get
 go_enter Tryz.func78,Tryz.ntmps78
 go_wp2_with fail
 refine (get_r B p o S l _ hP).mono ?_
 rintro e w' ⟨rfl,rfl⟩
 generalize S.got l=g at hO ⊢
 by_cases hg:g=1
 rotate_left
 · have dg:(g != 1)=true:=by rw [bne_iff_ne];exact hg
   rw [if_neg hg] at hO
   have hf:R (.returned (encI 9)) _:=hO.ret hP hK
   clear hO hP hK hg b1 hpay hUn hin hout;go_wp2_with fail
   first | with_reducible exact hf | (go_simp;exact hf) | (go_ret;exact hf) | (go_ret2;exact hf)
 have dg:(g != 1)=false:=by simpa using hg
 rw [if_pos hg,insideA_bind] at hO;clear hg;have hOh:=Hd hO;clear hO;go_wp2_with fail
 refine rstepB hOh.out hK (hin.out o S _ hP hta hb) ?_
 clear hOh hK hP;intro u0 o1 S1 wS1 htm hlf hdn hP hk1 hK hO;replace hta:=htm hta;replace b1:=b1.keep hk1;clear hk1 htm c_b1;have c_b1:=b1.cells
 have H1:o1=false->S1.nts.length+10*S1.left<=90004:=fun ho=>by
  obtain⟨h1,h2,h3⟩:=hdn ho
  have:=hpay.out S _ S1 h2 h3
  have:=hb h1
  omega
 clear hdn hlf hb;unfold rlowA at hO
 rw [if_neg (by decide),Prog.bind_assoc] at hO
 have htS1:=Hd hta
 have hOh:=Hd hO;clear hO;go_wp2_with fail
 refine rstepA (notes_rd _) hOh.out hK (read_r B p o1 S1 _ _ hP) ?_
 clear hOh hK hP;intro x o2 S2 w2 htm hlf hdn hnn hP hk1 hK hO;replace b1:=b1.keep hk1
 have H2:o2=false->S2.nts.length+10*S2.left<=90004/\0<=x/\x<=1048576:=fun ho=>by
  have h1:=H1 (hdn ho).1
  have h2:=rd_bd htS1.out (hdn ho).2.1
  omega
 clear hk1 htm hlf hdn hnn c_b1;have c_b1:=b1.cells;clear H1 htS1
 obtain⟨y2,hy2⟩:∃ y,(if x<1 then 0 else IntKind.i64.wrap (x-1))=y:=⟨_,rfl⟩
 obtain⟨n1,hn1⟩:∃ y,(if x<1 then 1 else x)=y:=⟨_,rfl⟩
 have hw9:IntKind.i64.wrap (n1-1)=y2:=by
  rw [<- hn1,<- hy2]
  split
  · decide
  · rfl
 generalize hz:w.heap.size=z at *
 clear hz
 have hOh:Hid (ROwes R encI B p w ((wr c y2).bind fun _=>U.bind fun _=>(st l 0).bind fun _=>.ret 0) o2 S2):=by
  cases o2 with
  | true=>exact hO.any _
  | false =>
    obtain⟨_,h2,h3⟩:=H2 rfl
    have e:y2=max (x-1) 0:=by
     rw [<- hy2,IntKind.wrap_i64]
     split <;> (try unfold wrap64) <;> omega
    rw [e]
    exact hO
 have H3:o2=false->S2.nts.length+10*S2.left<=90004:=fun ho=>(H2 ho).1
 replace hn1:=Hd hn1;clear hO H2 hy2
 go_upto_if 45 with fail
 go_cut [9] (fun s9 wx=>s9=V Z n1/\w2=wx)
 case first =>
  by_cases hx:x<1
  · have dx:decide (x<1)=true:=by rw [decide_eq_true_eq];exact hx
    have dx2:decide (x<=0)=true:=by rw [decide_eq_true_eq];omega
    have e:=hn1.out
    rw [if_pos hx] at e
    have eh:=Hd e
    clear hOh hw9 e;go_wp2_with fail
    go_meet
    exact⟨congrArg (V Z) eh.out,rfl⟩
  · have dx:decide (x<1)=false:=by rw [decide_eq_false_iff_not];exact hx
    have dx2:decide (x<=0)=false:=by rw [decide_eq_false_iff_not];omega
    have e:=hn1.out
    rw [if_neg hx] at e
    have eh:=Hd e
    clear hOh hw9 e;go_wp2_with fail
    go_meet
    exact⟨congrArg (V Z) eh.out,rfl⟩
 case rest =>
 obtain⟨rfl,rfl⟩:=hcut
 go_wp2_with fail
 refine rstepA (notes_wr _ _) hOh.out hK (write_r B p o2 S2 _ _ _ hP) ?_
 clear hOh hK hP;intro u o3 S3 w3 htm hlf hdn hnn hP hk1 hK hO;replace b1:=b1.keep hk1
 have H4:o3=false->S3.nts.length<=100000:=fun ho=>by
  have:=H3 (hdn ho).1
  omega
 clear hk1 htm hlf hdn hnn c_b1;have c_b1:=b1.cells;clear H3;have hOh:=Hd hO;clear hO
 obtain⟨_,_,_,_,_,hcc⟩:=hP.cell
 go_upto_if 56 with fail
 go_cut [] (fun wx=>∃ (o4:Bool) (S4:TS),RAt B wx p o4 S4/\KeepR B p w wx/\HeldR wx p z (.cells #[V Z 0,V Z 0,V Z 0,V Z 0,V Z arg,V Z 0,V Z 0,V Z 0,V Z alg,V Z N,V Z mode,V Z base,V Z loc,V Z room,V Z 0,V Z 0,V Z 0,V Z 0,V Z 0,V Z 0,V Z 0,V Z c,V Z l] 69)/\Hid (ROwes R encI B p w ((st l 0).bind fun _=>.ret 0) o4 S4))
 case first =>
  cases o3 with
  | true =>
    have hOh2:=Hd (hOh.out.any ((st l 0).bind fun _=>.ret 0))
    clear hOh;go_wp2_with fail
    go_meet
    exact⟨true,S3,hP,hK,b1,hOh2⟩
  | false =>
    have hH:=H4 rfl
    go_wp2_with fail
    clear hcc
    refine rstepA hUn.out hOh.out hK (hout.out S3 _ hP hH) ?_
    clear hOh hK hP;intro u9 o9 S9 w9 htm hlf9 _ hnn9 hP hk1 hK hO;replace b1:=b1.keep hk1;clear hk1 c_b1 htm;have hOh:=Hd hO;clear hO;go_wp2_with fail
    go_meet
    exact⟨o9,S9,hP,hK,b1,hOh⟩
 case rest =>
 clear hP hK b1 hOh H4 hcc c_b1
 obtain⟨o4,S4,hP,hK,b1,hOh⟩:=hcut
 have c_b1:=b1.cells;go_wp2_with fail
 refine rstep hOh.out hK (set_r B p o4 S4 _ _ _ hP) ?_
 clear hOh hK hP;intro u9 o9 S9 w9 hP hk1 hK hO
 have hf:R (.returned (encI 0)) _:=hO.ret hP hK
 clear hO hP hK hk1 c_b1 b1;go_wp2_with fail
 first | with_reducible exact hf | (go_simp;exact hf) | (go_ret;exact hf) | (go_ret2;exact hf)
theorem runlock_r (B p N D:Nat)(o:Bool)(S:TS)(wb:Bool)(arg alg mode base loc room c l:Int)(m:Nat)(rs:List Reg)(w:World)(h:RAt B w p o S)(hk:LkUse alg N mode base loc room rs m)(hta:TameA S)(hb:o=false->S.left<D/\S.nts.length+10*S.left<=90000)(hc:0<=c/\c<=40000) :
  Calls Tryz.prog 78 #[.pointer (some ⟨p,0,none⟩),.agg #[V Z 0,V Z 0,V Z 0,V Z 0,V Z arg,V Z 0,V Z 0,V Z 0,V Z alg,V Z N,V Z mode,V Z base,V Z loc,V Z room,V Z 0,V Z 0,V Z 0,V Z 0,V Z 0,V Z 0,V Z 0,V Z c,V Z l],V Z m,.bool wb] w (RPost encI B p w (runlockA (inA (lkA D alg N base loc room rs m) D) (lkR alg N base loc rs m) c l wb) o S):=by
 cases wb
 · exact runlockF_r B p N D o S arg alg mode base loc room c l m rs w h hk hta hb hc
 · exact runlockT_r B p N D o S arg alg mode base loc room c l m rs w h hk hta hb hc
theorem rwcl1 (B p N D:Nat)(S:TS)(wb:Bool)(alg mode room:Int)(m:Nat)(rs:List Reg)(bo bt bw:Nat)(w:World)(h:Plays B w p S)(hk:LkUse alg N mode 0 0 room rs m)(hta:TameA S)(hD:S.left<D)(hn0:S.nts.length+10*S.left<=90000)
  (g1:HeldP w p bo (.cells #[V Z 0,V Z 0,V Z 0,V Z 0,V Z 0,V Z 0,V Z 0,V Z 0,V Z alg,V Z N,V Z mode,V Z 0,V Z 0,V Z room,V Z 0,V Z 0,V Z 0,V Z 0,V Z 0,V Z 0,V Z 0,V Z (lkC alg N rs),V Z (lkL alg rs)] 69))(g2:HeldP w p bt (.cells #[V Z m] 3))(g3:HeldP w p bw (.cells #[.bool wb] 4)) :
  Calls Tryz.prog 73 #[.pointer (some ⟨p,0,none⟩),.pointer (some ⟨bo,0,none⟩),.pointer (some ⟨bt,0,none⟩),.pointer (some ⟨bw,0,none⟩)] w (Post encI B p w ((rlockA (inA (lkA D alg N 0 0 room rs m) D) (lkR alg N 0 0 rs m) (lkC alg N rs) (lkL alg rs) wb D).run S)):=by
 have hcb:0<=lkC alg N rs/\lkC alg N rs<=40000:=lkC_few hk
 have hq:=rlock_p B p N D S wb 0 alg mode 0 0 room (lkC alg N rs) (lkL alg rs) m rs w h hk hta hD hn0 hcb
 generalize rlockA (inA (lkA D alg N 0 0 room rs m) D) (lkR alg N 0 0 rs m) (lkC alg N rs) (lkL alg rs) wb D=T at *
 generalize lkC alg N rs=C at *
 generalize lkL alg rs=L at *
 generalize hR:Post encI B p w ((T).run S)=R
 have hO:Owes R encI B p w ((T).run S):=hR▸owes _ _ _ _ _
 clear hR
 have hK:=Keep.refl [2,3,4] B p w
 have c2:=g2.cells;have c3:=g3.cells;clear hk hcb
 go_enter Tryz.func73,Tryz.ntmps73
 go_upto_region 1 with fail
 refine wp_region_lit ?_
 refine load_obj rfl _ rfl rfl _ rfl bo rfl g1.1 rfl ?_
 try simp only [put_pack]
 clear g1 g2 g3;go_wp2_with fail
 clear c2 c3
 refine tlast hO hK hq (fun _ h=>⟨rfl,h⟩) ?_
 intro v S1 w1 hr hP1 hk1 hK1 hO1
 have hf:=hO1.done hP1 hK1
 clear hO1 hP1 hK1 hr hk1 hO h hK hq;go_wp2_with fail
 first | exact hf | (go_ret;exact hf)
theorem rwcl2 (B p N D:Nat)(S:TS)(wb:Bool)(alg mode room:Int)(m:Nat)(rs:List Reg)(bo bt bw:Nat)(w:World)(h:Plays B w p S)(hk:LkUse alg N mode 0 0 room rs m)(hta:TameA S)(hD:S.left<D)(hn0:S.nts.length+10*S.left<=90000)
  (g1:HeldP w p bo (.cells #[V Z 0,V Z 0,V Z 0,V Z 0,V Z 0,V Z 0,V Z 0,V Z 0,V Z alg,V Z N,V Z mode,V Z 0,V Z 0,V Z room,V Z 0,V Z 0,V Z 0,V Z 0,V Z 0,V Z 0,V Z 0,V Z (lkC alg N rs),V Z (lkL alg rs)] 69))(g2:HeldP w p bt (.cells #[V Z m] 3))(g3:HeldP w p bw (.cells #[.bool wb] 4)) :
  Calls Tryz.prog 76 #[.pointer (some ⟨p,0,none⟩),.pointer (some ⟨bo,0,none⟩),.pointer (some ⟨bt,0,none⟩),.pointer (some ⟨bw,0,none⟩)] w (Post encI B p w ((runlockA (inA (lkA D alg N 0 0 room rs m) D) (lkR alg N 0 0 rs m) (lkC alg N rs) (lkL alg rs) wb).run S)):=by
 have hcb:0<=lkC alg N rs/\lkC alg N rs<=40000:=lkC_few hk
 have hq:=runlock_p B p N D S wb 0 alg mode 0 0 room (lkC alg N rs) (lkL alg rs) m rs w h hk hta hD hn0 hcb
 generalize runlockA (inA (lkA D alg N 0 0 room rs m) D) (lkR alg N 0 0 rs m) (lkC alg N rs) (lkL alg rs) wb=T at *
 generalize lkC alg N rs=C at *
 generalize lkL alg rs=L at *
 generalize hR:Post encI B p w ((T).run S)=R
 have hO:Owes R encI B p w ((T).run S):=hR▸owes _ _ _ _ _
 clear hR
 have hK:=Keep.refl [2,3,4] B p w
 have c2:=g2.cells;have c3:=g3.cells;clear hk hcb
 go_enter Tryz.func76,Tryz.ntmps76
 go_upto_region 1 with fail
 refine wp_region_lit ?_
 refine load_obj rfl _ rfl rfl _ rfl bo rfl g1.1 rfl ?_
 try simp only [put_pack]
 clear g1 g2 g3;go_wp2_with fail
 clear c2 c3
 refine tlast hO hK hq (fun _ h=>⟨rfl,h⟩) ?_
 intro v S1 w1 hr hP1 hk1 hK1 hO1
 have hf:=hO1.done hP1 hK1
 clear hO1 hP1 hK1 hr hk1 hO h hK hq;go_wp2_with fail
 first | exact hf | (go_ret;exact hf)
set_option maxRecDepth 100000 in
set_option maxHeartbeats 4000000 in
theorem rw_walk (kind alg N0 mode base loc room arg me:Int)(vLo vA:Value)(Lo La:List Int)(w:World)(hLo:Ints w vLo Lo)(hA:Ints w vA La) :
  Calls Tryz.prog 9 #[.agg #[V Z kind,V Z alg,V Z N0,V Z mode,V Z base,V Z loc,V Z room,V Z arg,V Z me,vLo,vA]] w fun e w'=>e=.returned (.bool true)/\Ext w w':=by
 have hmf:∀ (fn:Fn) (first cap:Array Value) (w:World),(Instr.makeFunc fn first cap).run Tryz.prog w=.ok (.func fn first cap) w:=fun _ _ _ _=>rfl
 obtain⟨AL,cL,rfl,o3,o4⟩:=hLo.slice
 obtain⟨Aa,ca,rfl,p3,p4⟩:=hA.slice
 have hMay:=fun w=>may35_r alg N0 mode base loc room w
 have hX:=Ext.refl w
 have b1:=Blk.new w (.cells #[V Z kind,V Z alg,V Z N0,V Z mode,V Z base,V Z loc,V Z room,V Z arg,V Z me,.slice AL Lo.length cL,.slice Aa La.length ca] 63)
 replace hX:=hX.alloc (.cells #[V Z kind,V Z alg,V Z N0,V Z mode,V Z base,V Z loc,V Z room,V Z arg,V Z me,.slice AL Lo.length cL,.slice Aa La.length ca] 63)
 have c_b1:=b1.cells
 go_enter Tryz.func9,Tryz.ntmps9
 go_wp2_with fail
 generalize w.heap.size=bk at *
 generalize World.alloc w _=W0 at *
 refine (hMay _).mono ?_
 rintro e w1 ⟨⟨b,rfl,hb⟩,hx⟩
 replace b1:=b1.ext hx;replace hX:=hX.trans hx;clear hx hMay c_b1;have c_b1:=b1.cells
 cases b with
 | false =>
   clear hb;go_wp2_with fail
   refine (alive38 _).mono ?_
   rintro e w7 ⟨rfl,hx7⟩
   have hf:=Hd (hX.trans hx7)
   clear hX hx7;go_wp2_with fail
   go_ret
   exact⟨rfl,hf.out⟩
 | true =>
 by_cases hla:1500<La.length
 · have d1:decide ((1500:Int)<(La.length:Int))=true:=by rw [decide_eq_true_eq];omega
   clear hb;go_wp2_with fail
   refine (alive38 _).mono ?_
   rintro e w7 ⟨rfl,hx7⟩
   have hf:=Hd (hX.trans hx7)
   clear hX hx7;go_wp2_with fail
   go_ret
   exact⟨rfl,hf.out⟩
 have d1:decide ((1500:Int)<(La.length:Int))=false:=by rw [decide_eq_false_iff_not];omega
 by_cases hlo:1<Lo.length
 · have d2:decide ((1:Int)<(Lo.length:Int))=true:=by rw [decide_eq_true_eq];omega
   clear hb;go_wp2_with fail
   refine (alive38 _).mono ?_
   rintro e w7 ⟨rfl,hx7⟩
   have hf:=Hd (hX.trans hx7)
   clear hX hx7;go_wp2_with fail
   go_ret
   exact⟨rfl,hf.out⟩
 have d2:decide ((1:Int)<(Lo.length:Int))=false:=by rw [decide_eq_false_iff_not];omega
 obtain⟨N,rs,rfl,hk,n4,hNm,hm2⟩:=hb rfl
 clear hb
 obtain⟨l0,l1⟩:=lkL_few hk n4 hm2
 have n1:=hk.hn.1
 obtain⟨m,hm1,hme⟩:=me_at me N n1 (by omega)
 have hmr:=fun w=>me_r alg mode 0 0 room me N w n1 (by omega)
 rw [hme] at hmr
 have hput:=fun w=>put_r 0 alg N mode base loc room rs w hk
 have hUse:Hid (LkUse alg N mode 0 0 room rs m):=⟨hk,hm1,hNm⟩
 clear hme hk hNm hm2 n4 n1 hm1
 obtain⟨C,hC⟩:∃ C,lkC alg N rs=C:=⟨_,rfl⟩
 obtain⟨l,hl⟩:∃ l:Nat,lkL alg rs=l:=⟨(lkL alg rs).toNat,by omega⟩
 rw [hl] at hput l1
 rw [hC] at hput
 have hCh:=Hd hC
 have hlh:=Hd hl
 clear hC hl l0;go_wp2_with fail
 refine (hput _).mono ?_
 rintro e w2 ⟨rfl,hx⟩
 replace hX:=hX.trans hx;replace b1:=b1.ext hx;clear hx hput c_b1
 rename_i hKK
 refine hKK _ _ ?_
 clear hKK
 refine new_obj rfl rfl rfl _ _ rfl _ rfl rfl rfl (by kernel_rfl) ?_
 refine wpList_nil ?_
 have b7:=Blk.new w2 (.cells #[V Z 0,V Z 0,V Z 0,V Z 0,V Z 0,V Z 0,V Z 0,V Z 0,V Z alg,V Z N,V Z mode,V Z 0,V Z 0,V Z room,V Z 0,V Z 0,V Z 0,V Z 0,V Z 0,V Z 0,V Z 0,V Z C,V Z l] 69)
 have hx:=(Ext.refl w2).alloc (.cells #[V Z 0,V Z 0,V Z 0,V Z 0,V Z 0,V Z 0,V Z 0,V Z 0,V Z alg,V Z N,V Z mode,V Z 0,V Z 0,V Z room,V Z 0,V Z 0,V Z 0,V Z 0,V Z 0,V Z 0,V Z 0,V Z C,V Z l] 69)
 replace hX:=hX.trans hx;replace b1:=b1.ext hx;clear hx
 generalize hbo:w2.heap.size=bo at *
 generalize World.alloc w2 _=W1 at *
 clear hbo;have c_b1:=b1.cells;have c_b7:=b7.cells;go_wp2_with fail
 refine (hmr _).mono ?_
 rintro e w3 ⟨rfl,hx⟩
 replace hx:=hx.alloc (.cells #[V Z m] 3)
 replace hX:=hX.trans hx;replace b7:=b7.ext hx;replace b1:=b1.ext hx
 have b8:=Blk.new w3 (.cells #[V Z m] 3)
 clear hx hmr c_b7 c_b1
 generalize hbt:w3.heap.size=bt at *
 go_upto_region 5 with fail
 generalize World.alloc w3 _=W2 at *
 clear hbt;have c_b1:=b1.cells;go_wp2_with fail
 refine (tame_r _ La 1048576 _ (hA.ext hX)).mono ?_
 rintro e wB ⟨va,rfl,hra,hx⟩
 have hIa:=hra.ints
 have hba:∀ k,va.ownBlock=some k->k<wB.heap.size:=fun k hk=>(hra.lt k hk).2
 have la:(tameL La 1048576).length<=1500:=by unfold tameL;simp;omega
 have hta:TameA (TS0 [] (tameL La 1048576)):=tameL_bd La
 clear hra hA
 generalize tameL La 1048576=a at *
 obtain⟨Aq,cq,rfl,_,_⟩:=hIa.slice
 replace hX:=hX.trans hx;replace b1:=b1.ext hx;replace b7:=b7.ext hx;replace b8:=b8.ext hx;clear hx c_b1
 have hLo2:=hLo.ext hX
 clear hLo
 have hmk:∀ w,(Instr.makeSlice 25 (V Z ((l:Int)+1)) (V Z ((l:Int)+1))).run Tryz.prog w=.ok (.slice (some ⟨w.heap.size,0,none⟩) (l+1:Nat) (l+1:Nat)) (w.alloc (.cells ((zeros (l+1)).map (V Z)).toArray 3)):=fun w=>make_ints _ (l+1) (by omega) (by omega) w
 have hw1:IntKind.i64.wrap ((l:Int)+1)=(l:Int)+1:=IntWalk.i64_in _ (by omega)
 have c_b7:=b7.cells
 have hA:=ints_new wB (zeros (l+1)) (by simp [zeros];omega)
 have hzl:(zeros (l+1)).length=l+1:=by simp [zeros]
 rw [hzl] at hA;have hq:=hX.size
 have b9:=Blk.new wB (.cells ((zeros (l+1)).map (V Z)).toArray 3)
 have hx9:=(Ext.refl wB).alloc (.cells ((zeros (l+1)).map (V Z)).toArray 3)
 have c_b1:=(b1.ext hx9).cells
 go_upto_if 48 with fail
 generalize hbz:wB.heap.size=ba at *
 generalize World.alloc wB _=W3 at *
 clear c_b7
 go_cut [] (fun wx=>∃ Ll:List Int,Ll.length=l+1/\Ints wx (.slice (some ⟨ba,0,none⟩) (l+1) (l+1)) Ll/\Ext wB wx)
 case first =>
  by_cases h1:Lo.length=1
  rotate_left
  · have d3:((Lo.length:Int)==1)=false:=by rw [beq_eq_false_iff_ne];omega
    go_wp2_with fail
    go_meet
    exact⟨zeros (l+1),hzl,hA,hx9⟩
  · have d3:((Lo.length:Int)==1)=true:=by rw [beq_iff_eq];omega
    have hl0:0<Lo.length:=by omega
    obtain⟨bx,ox,rfl,hbx,hcx⟩:=(hLo2.ext hx9).at_ (i:=0) hl0
    obtain⟨v0,hv0⟩:∃ v0,Lo.getD 0 0=v0:=⟨_,rfl⟩
    rw [hv0,Nat.add_zero] at hcx
    have c_22:W3.cell? ⟨bo,22,none⟩=some (V Z l):=(b7.ext hx9).cells 22
    have c_9:W3.cell? ⟨bk,9,none⟩=some (.slice (some ⟨bx,ox,none⟩) Lo.length cL):=(b1.ext hx9).cells 9
    have c_l:W3.cell? ⟨ba,l,none⟩=some (V Z 0):=by
     rw [b9.cells l]
     simp [zeros]
    have hfz:W3.frozen? ⟨ba,l,none⟩=false:=frozen_of_heap b9 l
    have k7:=b7.lt;have k1:=b1.lt
    have kx:bx<ba:=by
     obtain⟨A',c',he,_,_,h3⟩:=hLo2
     injection he with e1 e2 e3
     obtain⟨b',o',e4,hb',_⟩:=h3 (by intro h;rw [h] at hl0;simp at hl0)
     rw [<- e1] at e4
     injection e4 with e5
     injection e5 with e6
     omega
    have hll:(l:Int)<(l:Int)+1:=by omega
    clear h1 c_b1 hv0
    go_upto_region 8 with fail
    refine wp_region_held_drew (S:=fun w'=>w'.cell? ⟨bo,22,none⟩=some (V Z l)/\w'.cell? ⟨bk,9,none⟩=some (.slice (some ⟨bx,ox,none⟩) Lo.length cL)/\w'.cell? ⟨bx,ox,none⟩=some (V Z v0)) rfl ⟨c_22,c_9,hcx⟩ (fun hHeld=>?_)
    refine tkb 0 ?_
    iterate 7
     refine tkn (v:=?_) rfl (by kernel_rfl) (fun _ _ _ h=>h) (by assumption) ?_ ?_
     rotate_left
     · (intro w hSw;(try dsimp only at hSw);go_simp;try with_reducible rfl)
     try simp only [put_pack]
    refine tke ?_
    refine wpAnyH_ready (rs:=[7]) (by kernel_rfl) (by simp) ?_
    refine AllReadyH.cons rfl (fun K hKK=>?_) (AllReadyH.nil)
    go_simp
    refine (wrap_r _ _ _).mono ?_
    rintro e w' ⟨rfl,rfl⟩
    refine hKK.out _ _ ⟨c_22,c_9,hcx⟩ (fun hHeld=>?_)
    clear hKK K
    try dsimp only
    refine tk 8 (v:=?_) rfl (by kernel_rfl) (fun _ _ _ h=>h) (by assumption) ?_ ?_
    rotate_left
    · (intro w hSw;(try dsimp only at hSw);go_simp;try with_reducible rfl)
    try simp only [put_pack]
    refine wpAnyH_ready (rs:=[9]) (by kernel_rfl) (by simp) ?_
    refine AllReadyH.cons rfl (fun K hKK=>?_) (AllReadyH.nil)
    go_simp
    have hI2:=ints_put hA l (by omega) (wrapI v0 2) b9
    have hn1:bo≠ba:=by omega
    have hn2:bk≠ba:=by omega
    have hn3:bx≠ba:=by omega
    have hxs:Ext wB ((World.drew W3).setCell ⟨ba,l,none⟩ (V Z (wrapI v0 2))):=hx9.drew.setCell (p:=⟨ba,l,none⟩) (show wB.heap.size<=ba by omega) _
    have hcs:∀ k i,k≠ba->((World.drew W3).setCell ⟨ba,l,none⟩ (V Z (wrapI v0 2))).cell? ⟨k,i,none⟩=W3.cell? ⟨k,i,none⟩:=fun k i hk=>by
     unfold World.cell?
     simp only
     rw [heap_setCell_ne _ _ hk]
     rfl
    refine hKK.out _ _ ⟨(hcs _ _ hn1).trans c_22,(hcs _ _ hn2).trans c_9,(hcs _ _ hn3).trans hcx⟩ (fun hHeld=>?_)
    clear hKK K
    try dsimp only
    refine wpAnyH_done (by kernel_rfl) ?_ _
    go_simp
    go_wp2_with fail
    go_meet
    exact⟨_,by rw [List.length_set];exact hzl,hI2,hxs⟩
 case rest =>
 obtain⟨Ll,hLl,hIl,hxL⟩:=hcut
 replace hX:=hX.trans hxL;replace b7:=b7.ext hxL;replace b8:=b8.ext hxL;replace b1:=b1.ext hxL
 have hba2:∀ k,(Value.slice Aq a.length cq).ownBlock=some k->k<wc.heap.size:=fun k hk=>by
  have h1:=hba k hk
  have h2:=hxL.size;omega
 replace hIa:=hIa.ext hxL;clear hba hxL hA b9 hx9 hzl hmk hLo2 hq hbz
 have hN:=new_any (some ⟨ba,0,none⟩) (l+1) Ll Aq cq a _ (by rw [hLl];exact hIl) hIa (by rw [hLl];omega) (by unfold maxAns;omega) hba2
 rw [hLl] at hN;go_wp2_with fail
 refine hN.mono ?_
 rintro e w8 ⟨pm,rfl,hR,hx8⟩
 replace b1:=b1.ext hx8;have c_b1:=b1.cells
 go_upto_region 11 with fail
 clear c_b1
 generalize (bits BinOp.and IntKind.i64 kind 2 != 0)=wb at *
 have bw1:=hR.held (.cells #[.bool wb] 4)
 replace hR:=hR.alloc (.cells #[.bool wb] 4)
 have hxw:=(Ext.refl w8).alloc (.cells #[.bool wb] 4)
 replace hx8:=hx8.trans hxw;replace b1:=b1.ext hxw
 generalize hbw:w8.heap.size=bw at *
 generalize World.alloc w8 _=w8z at *
 clear hxw hbw
 have b7w:=Hd b7
 have b8w:=Hd b8
 replace b7:=b7.ext hx8;replace b8:=b8.ext hx8
 have hX8:=hX.trans hx8
 have hUo:=hUse.out
 have hta2:TameA (TS0 Ll a):=hta
 have hlf:(TS0 Ll a).left<a.length+1:=by unfold TS.left TS0;simp
 have hnt:(TS0 Ll a).nts.length+10*(TS0 Ll a).left<=90000:=by unfold TS.left TS0;simp;omega
 have hb0:false=false->(TS0 Ll a).left<a.length+1/\(TS0 Ll a).nts.length+10*(TS0 Ll a).left<=90000:=fun _=>⟨hlf,hnt⟩
 have hc1:Hid (∀ B p W,Plays B W p (TS0 Ll a)->HeldP W p bo (.cells #[V Z 0,V Z 0,V Z 0,V Z 0,V Z 0,V Z 0,V Z 0,V Z 0,V Z alg,V Z N,V Z mode,V Z 0,V Z 0,V Z room,V Z 0,V Z 0,V Z 0,V Z 0,V Z 0,V Z 0,V Z 0,V Z C,V Z l] 69)->HeldP W p bt (.cells #[V Z m] 3)->HeldP W p bw (.cells #[.bool wb] 4)->Calls Tryz.prog 73 #[.pointer (some ⟨p,0,none⟩),.pointer (some ⟨bo,0,none⟩),.pointer (some ⟨bt,0,none⟩),.pointer (some ⟨bw,0,none⟩)] W (Post encI B p W ((rlockA (inA (lkA (a.length+1) alg N 0 0 room rs m) (a.length+1)) (lkR alg N 0 0 rs m) C l wb (a.length+1)).run (TS0 Ll a)))):=fun B p W hP g1 g2 g3=>by
  have h:=rwcl1 B p N (a.length+1) (TS0 Ll a) wb alg mode room m rs bo bt bw W hP hUo hta2 hlf hnt
  rw [hCh.out,hlh.out] at h
  exact h g1 g2 g3
 have hc2:Hid (∀ B p W,Plays B W p (TS0 Ll a)->HeldP W p bo (.cells #[V Z 0,V Z 0,V Z 0,V Z 0,V Z 0,V Z 0,V Z 0,V Z 0,V Z alg,V Z N,V Z mode,V Z 0,V Z 0,V Z room,V Z 0,V Z 0,V Z 0,V Z 0,V Z 0,V Z 0,V Z 0,V Z C,V Z l] 69)->HeldP W p bt (.cells #[V Z m] 3)->HeldP W p bw (.cells #[.bool wb] 4)->Calls Tryz.prog 76 #[.pointer (some ⟨p,0,none⟩),.pointer (some ⟨bo,0,none⟩),.pointer (some ⟨bt,0,none⟩),.pointer (some ⟨bw,0,none⟩)] W (Post encI B p W ((runlockA (inA (lkA (a.length+1) alg N 0 0 room rs m) (a.length+1)) (lkR alg N 0 0 rs m) C l wb).run (TS0 Ll a)))):=fun B p W hP g1 g2 g3=>by
  have h:=rwcl2 B p N (a.length+1) (TS0 Ll a) wb alg mode room m rs bo bt bw W hP hUo hta2 hlf hnt
  rw [hCh.out,hlh.out] at h
  exact h g1 g2 g3
 have hCb:0<=C/\C<=40000:=by rw [<- hCh.out];exact lkC_few hUo
 have hd0:=Hd (rlock_r wc.heap.size pm N (a.length+1) false (TS0 Ll a) wb 0 alg mode 0 0 room C l m rs w8z hR hUo hta2 hb0 hCb)
 have hd1:=Hd (runlock_r wc.heap.size pm N (a.length+1) false (TS0 Ll a) wb 0 alg mode 0 0 room C l m rs w8z hR hUo hta2 hb0 hCb)
 clear hUo hta2 hb0 hUse c_b1
 generalize (inA (lkA (a.length+1) alg N 0 0 room rs m) (a.length+1))=I at *
 generalize (lkR alg N 0 0 rs m)=U at *
 have c_b1:=b1.cells
 go_upto_if 69 with fail
 clear c_b1
 generalize bits BinOp.and IntKind.i64 kind 1=k3 at *
 go_cut [9,10] (fun s8 s9 wx=>∃ (F:FuncId) (T:Prog Int) (u:Int) (o':Bool) (S':TS),s8=.func (.func F) #[] #[.pointer (some ⟨bo,0,none⟩),.pointer (some ⟨bt,0,none⟩),.pointer (some ⟨bw,0,none⟩)]/\s9=V Z u/\Hid (Ref T false (TS0 Ll a) u o' S')/\Hid (RAt wc.heap.size wx pm o' S')/\Hid (Blk wx bw (.cells #[.bool wb] 4))/\Hid (Ext wc wx) /\
  Hid ((∀ (args:Array Value) (w:World),(callFunc F args).run Tryz.prog w=.ok (.enter F args) w)/\∀ B p W,Plays B W p (TS0 Ll a)->HeldP W p bo (.cells #[V Z 0,V Z 0,V Z 0,V Z 0,V Z 0,V Z 0,V Z 0,V Z 0,V Z alg,V Z N,V Z mode,V Z 0,V Z 0,V Z room,V Z 0,V Z 0,V Z 0,V Z 0,V Z 0,V Z 0,V Z 0,V Z C,V Z l] 69)->HeldP W p bt (.cells #[V Z m] 3)->HeldP W p bw (.cells #[.bool wb] 4)->Calls Tryz.prog F #[.pointer (some ⟨p,0,none⟩),.pointer (some ⟨bo,0,none⟩),.pointer (some ⟨bt,0,none⟩),.pointer (some ⟨bw,0,none⟩)] W (Post encI B p W (T.run (TS0 Ll a)))))
 case first =>
  have c_b8:=b8.cells;have c_b9:=bw1.cells
  by_cases h0:k3=0
  · have d0:(k3==0)=true:=by rw [beq_iff_eq];exact h0
    go_upto_region 14 with fail
    refine wp_region_lit ?_
    refine load_obj rfl _ rfl rfl _ rfl bo rfl b7 rfl ?_
    try simp only [put_pack]
    go_wp2_with fail
    refine hd0.out.mono ?_
    rintro e w9 ⟨u,o',S',rfl,hRef,hR9,hK9⟩
    have hx9:=Hd (Below.trans hx8 hK9.below)
    have hRefh:=Hd hRef
    have b9h:Hid (Blk _ bw (.cells #[.bool wb] 4)):=(bw1.keep hK9).1
    have hR9h:=Hd hR9
    clear hK9 hRef hR9 hR hx8 b1 b7 b8 c_b8 bw1 c_b9;go_wp2_with fail
    go_meet
    exact⟨_,_,u,o',S',rfl,rfl,hRefh,hR9h,b9h,hx9,fun _ _=>rfl,hc1.out⟩
  · have d0:(k3==0)=false:=by rw [beq_eq_false_iff_ne];exact h0
    go_upto_region 16 with fail
    refine wp_region_lit ?_
    refine load_obj rfl _ rfl rfl _ rfl bo rfl b7 rfl ?_
    try simp only [put_pack]
    go_wp2_with fail
    refine hd1.out.mono ?_
    rintro e w9 ⟨u,o',S',rfl,hRef,hR9,hK9⟩
    have hx9:=Hd (Below.trans hx8 hK9.below)
    have hRefh:=Hd hRef
    have b9h:Hid (Blk _ bw (.cells #[.bool wb] 4)):=(bw1.keep hK9).1
    have hR9h:=Hd hR9
    clear hK9 hRef hR9 hR hx8 b1 b7 b8 c_b8 bw1 c_b9;go_wp2_with fail
    go_meet
    exact⟨_,_,u,o',S',rfl,rfl,hRefh,hR9h,b9h,hx9,fun _ _=>rfl,hc2.out⟩
 case rest =>
 obtain⟨F,T,u,o',S',rfl,rfl,hRef,hR9,b9,hx9,hF⟩:=hcut
 clear hd0 hd1 hc1 hc2 hx8 b1 b7 b8 hR hlf hnt hX8 bw1
 have b7:=b7w.out.ext hx9.out
 have b8:=b8w.out.ext hx9.out
 replace hIl:=hIl.ext hx9.out;replace hIa:=hIa.ext hx9.out
 have hX9:=Hd (hX.trans hx9.out)
 have hba3:=fun k (hk:(Value.slice Aq a.length cq).ownBlock=some k)=>Nat.lt_of_lt_of_le (hba2 k hk) hx9.out.size
 have hPl:=play_err F #[.pointer (some ⟨bo,0,none⟩),.pointer (some ⟨bt,0,none⟩),.pointer (some ⟨bw,0,none⟩)] T (some ⟨ba,0,none⟩) (l+1) Ll Aq cq a _ (by rw [hLl];exact hIl) (by rw [hLl];omega) hIa (by unfold maxAns;omega) hba3 hF.out.1 (fun W p hxW hP=>hF.out.2 _ p W hP ⟨b7.ext hxW,fun ho=>by
  obtain⟨_,_,_,_,_,_,h⟩:=hP
  have:=(h.own ho).1
  have:=b7.lt
  omega⟩ ⟨b8.ext hxW,fun ho=>by
  obtain⟨_,_,_,_,_,_,h⟩:=hP
  have:=(h.own ho).1
  have:=b8.lt
  omega⟩ ⟨b9.out.ext hxW,fun ho=>by
  obtain⟨_,_,_,_,_,_,h⟩:=hP
  have:=(h.own ho).1
  have:=b9.out.lt
  omega⟩)
 rw [hLl] at hPl;clear hF b7 b8 b8w hIl hIa hX hta;go_wp2_with fail
 refine hPl.mono ?_
 clear hPl
 rintro e wE ⟨v3,rfl,hO,hx7⟩
 have hrun:=hRef.out.outcome
 generalize hr:T.run (TS0 Ll a)=r at hO hrun ⊢
 have hsome:r.1.isSome=!o':=by rw [hrun];cases o' <;> rfl
 have hS2:r.2=S':=by rw [hrun]
 have hqq:r.1.getD 0=(if o'=true then 0 else u):=by rw [hrun];cases o' <;> rfl
 rw [hsome,hS2] at hO
 rw [hqq]
 obtain⟨q,hq⟩:∃ q,(if o'=true then 0 else u)=q:=⟨_,rfl⟩
 rw [hq]
 replace hq:=Hd hq;clear hrun hr hRef hsome hS2 hqq;have hOh:=Hd hO
 obtain⟨A3,c3,A3',c3',As3,k3x,n3,rfl⟩:=hO.parts
 clear hO
 have hR10:=Hd (hR9.out.ext (hx7.alloc (.cells #[.bool (!o'),.slice A3 S'.acc.length c3,.slice A3' S'.nts.length c3',.slice As3 n3 k3x] 30)))
 have hO10:=Hd (hOh.out.ext ((Ext.refl wE).alloc (.cells #[.bool (!o'),.slice A3 S'.acc.length c3,.slice A3' S'.nts.length c3',.slice As3 n3 k3x] 30)))
 have bo9:=b7w.out.ext (hx9.out.trans (hx7.alloc (.cells #[.bool (!o'),.slice A3 S'.acc.length c3,.slice A3' S'.nts.length c3',.slice As3 n3 k3x] 30)))
 have g3:=Blk.new wE (.cells #[.bool (!o'),.slice A3 S'.acc.length c3,.slice A3' S'.nts.length c3',.slice As3 n3 k3x] 30)
 have hX10:=Hd (hX9.out.trans (hx7.alloc (.cells #[.bool (!o'),.slice A3 S'.acc.length c3,.slice A3' S'.nts.length c3',.slice As3 n3 k3x] 30)))
 clear hx7 hOh hR9 hx9 hX9 hba2 hba3 b7w;go_wp2_with fail
 generalize hb3:wE.heap.size=b3 at *
 generalize World.alloc wE _=W9 at *
 clear hb3
 have hTold:Hid (∀ W,Ext W9 W->Calls Tryz.prog 58 #[.pointer (some ⟨pm,0,none⟩),V Z u] W fun e W'=>e=.returned (V Z q)/\Ext W W'):=fun W hx=>hq.out▸told35 _ pm o' S' u W (hR10.out.ext hx)
 have hE:=(Ext.refl W9).drew
 have hS:∀ w',Ext W9 w'->((∀ i,w'.cell? ⟨b3,i,none⟩=(#[.bool (!o'),.slice A3 S'.acc.length c3,.slice A3' S'.nts.length c3',.slice As3 n3 k3x]:Array Value)[i]?)/\w'.heap[bo]?=some (.cells #[V Z 0,V Z 0,V Z 0,V Z 0,V Z 0,V Z 0,V Z 0,V Z 0,V Z alg,V Z N,V Z mode,V Z 0,V Z 0,V Z room,V Z 0,V Z 0,V Z 0,V Z 0,V Z 0,V Z 0,V Z 0,V Z C,V Z l] 69)):=fun w' hx=>⟨(g3.ext hx).cells,bo9.ext hx⟩
 clear g3 bo9
 refine wp_region_held_drew (S:=fun w'=>(∀ i,w'.cell? ⟨b3,i,none⟩=(#[.bool (!o'),.slice A3 S'.acc.length c3,.slice A3' S'.nts.length c3',.slice As3 n3 k3x]:Array Value)[i]?)/\w'.heap[bo]?=some (.cells #[V Z 0,V Z 0,V Z 0,V Z 0,V Z 0,V Z 0,V Z 0,V Z 0,V Z alg,V Z N,V Z mode,V Z 0,V Z 0,V Z room,V Z 0,V Z 0,V Z 0,V Z 0,V Z 0,V Z 0,V Z 0,V Z C,V Z l] 69)) rfl (hS _ hE) (fun hHeld=>?_)
 refine tkb 0 ?_
 iterate 3
  refine tkn (v:=?_) rfl (by kernel_rfl) (fun _ _ _ h=>h) (by assumption) ?_ ?_
  rotate_left
  · (intro w hSw;(try dsimp only at hSw);go_simp;try with_reducible rfl)
  try simp only [put_pack]
 refine tke ?_
 refine wpAnyH_ready (rs:=[3]) (by kernel_rfl) (by simp) ?_
 refine AllReadyH.cons rfl (fun K hKK=>?_) (AllReadyH.nil)
 go_simp
 refine (hTold.out _ hE).mono ?_
 rintro e wd1 ⟨rfl,hxd⟩
 replace hE:=hE.trans hxd;clear hxd
 refine hKK.out _ _ (hS _ hE) (fun hHeld=>?_)
 clear hKK K
 try dsimp only
 refine tkb 4 ?_
 iterate 4
  refine tkn (v:=?_) rfl (by kernel_rfl) (fun _ _ _ h=>h) (by assumption) ?_ ?_
  rotate_left
  · (intro w hSw;(try dsimp only at hSw);go_simp;try with_reducible rfl)
  try simp only [put_pack]
 refine tke ?_
 refine wpAnyH_ready (rs:=[8]) (by kernel_rfl) (by simp) ?_
 refine AllReadyH.cons rfl (fun K hKK=>?_) (AllReadyH.nil)
 go_simp
 refine (dout_r _ pm o' S' _ (hR10.out.ext hE)).mono ?_
 rintro e wd2 ⟨v9,rfl,hOx,hxd⟩
 replace hE:=hE.trans hxd;clear hxd
 refine hKK.out _ _ (hS _ hE) (fun hHeld=>?_)
 clear hKK K
 try dsimp only
 refine wpAnyH_ready (rs:=[9]) (by kernel_rfl) (by simp) ?_
 refine AllReadyH.cons rfl (fun K hKK=>?_) (AllReadyH.nil)
 go_simp
 refine (same_r _ _ (!o') S' _ (hO10.out.ext hE) hOx).mono ?_
 rintro e wf ⟨rfl,hxd⟩
 replace hE:=hE.trans hxd;clear hxd
 refine hKK.out _ _ (hS _ hE) (fun hHeld=>?_)
 clear hKK K
 try dsimp only
 refine tk 10 (v:=?_) rfl (by kernel_rfl) (fun _ _ _ h=>h) (by assumption) ?_ ?_
 rotate_left
 · (intro w hSw;(try dsimp only at hSw);go_simp;try with_reducible rfl)
 try simp only [put_pack]
 refine tk 11 (v:=?_) rfl (by kernel_rfl) (fun _ _ _ h=>h) (by assumption) ?_ ?_
 rotate_left
 · (intro w hSw;(try dsimp only at hSw);go_simp;try with_reducible rfl)
 try simp only [put_pack]
 refine wpAnyH_ready (rs:=[12]) (by kernel_rfl) (by simp) ?_
 refine AllReadyH.cons rfl (fun K hKK=>?_) (AllReadyH.nil)
 go_simp
 refine (alive38 _).mono ?_
 rintro e wg ⟨rfl,hxd⟩
 replace hE:=hE.trans hxd;clear hxd
 refine hKK.out _ _ (hS _ hE) (fun hHeld=>?_)
 clear hKK K
 try dsimp only
 refine tk 13 (v:=?_) rfl (by kernel_rfl) (fun _ _ _ h=>h) (by assumption) ?_ ?_
 rotate_left
 · (intro w hSw;(try dsimp only at hSw);go_simp;try with_reducible rfl)
 try simp only [put_pack]
 refine tk 14 (v:=?_) rfl (by kernel_rfl) (fun _ _ _ h=>h) (by assumption) ?_ ?_
 rotate_left
 · (intro w hSw;(try dsimp only at hSw);go_simp;try with_reducible rfl)
 try simp only [put_pack]
 refine wpAnyH_done (by kernel_rfl) ?_ _
 go_simp
 have hf:=Hd (hX10.out.trans hE)
 clear hE hS hTold hR10 hO10 hX10;go_wp2_with fail
 first | go_ret2 | go_ret
 exact⟨rfl,hf.out⟩
end Go.Proofs.YtbaajjkopdjbgaaGreat
namespace Go.Proofs.YtbaajjkopdjbgaaGreat
open Go.ChangeShapes Go.WideShapes Go.ChangeAt Go.RowKit Kv
theorem cellsLock:Tryz.prog.cellsOf 23=6:=by kernel_rfl
theorem cellsRow:Tryz.prog.cellsOf 25=1:=by kernel_rfl
theorem cellsAsk:Tryz.prog.cellsOf 63=11:=by kernel_rfl
set_option maxRecDepth 100000 in
theorem open_ask35 {H:Type}{enc:TypeId × Value->H}{W:World}{b0:Nat}{r:Reach}{v:Value}{d:DataW H}{p:List MemPlace}
  (hv:Value.okWide Tryz.prog W r b0 63 v)(h:DataW.Trod enc Tryz.prog W 0 (fun _=>true) true 63 v d p) :
  ∃ (kind alg N mode base loc room arg me:Int) (vL vA:Value) (Lo La:List Int),v=.agg #[V Z kind,V Z alg,V Z N,V Z mode,V Z base,V Z loc,V Z room,V Z arg,V Z me,vL,vA]/\Ints W vL Lo/\Ints W vA La:=by
 obtain⟨cs,rfl,hsz⟩:=okWide_struct Tryz.underlying63 hv
 obtain⟨l⟩:=cs
 match l,hsz.trans cellsAsk with
 | [c0,c1,c2,c3,c4,c5,c6,c7,c8,c9,c10],_ =>
   obtain⟨fuel,hf⟩:=h
   obtain⟨xs,n,_,_,_,hlen,hg⟩:=DataW.trod_struct Tryz.underlying63 hf
   match xs,hlen with
   | [y0,y1,y2,y3,y4,y5],_ =>
     have g0:DataW.trod enc Tryz.prog W 0 (fun _=>true) true n 3 [c0]=some y0:=by simpa [Value.cells,cellsInt] using hg 0 _ rfl
     have g1:DataW.trod enc Tryz.prog W 0 (fun _=>true) true n 23 [c1,c2,c3,c4,c5,c6]=some y1:=by simpa [Value.cells,cellsLock] using hg 1 _ rfl
     have g2:DataW.trod enc Tryz.prog W 0 (fun _=>true) true n 3 [c7]=some y2:=by simpa [Value.cells,cellsInt] using hg 2 _ rfl
     have g3:DataW.trod enc Tryz.prog W 0 (fun _=>true) true n 3 [c8]=some y3:=by simpa [Value.cells,cellsInt] using hg 3 _ rfl
     have g4:DataW.trod enc Tryz.prog W 0 (fun _=>true) true n 25 [c9]=some y4:=by simpa [Value.cells,cellsRow] using hg 4 _ rfl
     have g5:DataW.trod enc Tryz.prog W 0 (fun _=>true) true n 25 [c10]=some y5:=by simpa [Value.cells,cellsRow] using hg 5 _ rfl
     obtain⟨zs,n2,_,_,_,hlen2,hg2⟩:=DataW.trod_struct Tryz.underlying23 g1
     match zs,hlen2 with
     | [z0,z1,z2,z3,z4,z5],_ =>
       have k0:DataW.trod enc Tryz.prog W 0 (fun _=>true) true n2 3 [c1]=some z0:=by simpa [Value.cells,cellsInt] using hg2 0 _ rfl
       have k1:DataW.trod enc Tryz.prog W 0 (fun _=>true) true n2 3 [c2]=some z1:=by simpa [Value.cells,cellsInt] using hg2 1 _ rfl
       have k2:DataW.trod enc Tryz.prog W 0 (fun _=>true) true n2 3 [c3]=some z2:=by simpa [Value.cells,cellsInt] using hg2 2 _ rfl
       have k3:DataW.trod enc Tryz.prog W 0 (fun _=>true) true n2 3 [c4]=some z3:=by simpa [Value.cells,cellsInt] using hg2 3 _ rfl
       have k4:DataW.trod enc Tryz.prog W 0 (fun _=>true) true n2 3 [c5]=some z4:=by simpa [Value.cells,cellsInt] using hg2 4 _ rfl
       have k5:DataW.trod enc Tryz.prog W 0 (fun _=>true) true n2 3 [c6]=some z5:=by simpa [Value.cells,cellsInt] using hg2 5 _ rfl
       obtain⟨x0,e0,-,-⟩:=DataW.trod_int Tryz.underlying3 g0
       obtain⟨x2,e2,-,-⟩:=DataW.trod_int Tryz.underlying3 g2
       obtain⟨x3,e3,-,-⟩:=DataW.trod_int Tryz.underlying3 g3
       obtain⟨q0,f0,-,-⟩:=DataW.trod_int Tryz.underlying3 k0
       obtain⟨q1,f1,-,-⟩:=DataW.trod_int Tryz.underlying3 k1
       obtain⟨q2,f2,-,-⟩:=DataW.trod_int Tryz.underlying3 k2
       obtain⟨q3,f3,-,-⟩:=DataW.trod_int Tryz.underlying3 k3
       obtain⟨q4,f4,-,-⟩:=DataW.trod_int Tryz.underlying3 k4
       obtain⟨q5,f5,-,-⟩:=DataW.trod_int Tryz.underlying3 k5
       obtain⟨Lo,hLo,-⟩:=ints_trod g4
       obtain⟨La,hLa,-⟩:=ints_trod g5
       simp at e0 e2 e3 f0 f1 f2 f3 f4 f5
       subst e0 e2 e3 f0 f1 f2 f3 f4 f5
       exact⟨x0,q0,q1,q2,q3,q4,q5,x2,x3,c9,c10,Lo,La,rfl,hLo,hLa⟩
end Go.Proofs.YtbaajjkopdjbgaaGreat
namespace Go.Proofs.YtbaajjkopdjbgaaGreat.rwPlays
open Go.ChangeShapes Go.WideShapes Go.ChangeAt Go.RowKit Kv
set_option maxRecDepth 100000 in
theorem main (H:Type)(enc:TypeId × Value->H)(W:World)(base:Nat)(args:Array Value)(ds:List (DataW H))(p:List MemPlace)
  (hval:∀ (j:Nat) t v,Tryz.f9.params[j]?=some t->args[j]?=some v->Value.okWide Tryz.prog W .any base t v)
  (hA:DataW.TrodAll enc Tryz.prog W 0 (fun _=>true) true Tryz.f9.params.toList args.toList ds p)(_hL:laidMetH Tryz.prog Rows.rwPlaysRow.laid W) :
  Calls Tryz.prog 9 args W fun e w'=>e=.returned (.bool true)/\Ext W w':=by
 rw [Tryz.params9] at hA hval
 obtain⟨v0,vs0,d0,ds0,p0,q0,hargs,rfl,rfl,h0,r0⟩:=trodAll_cons hA
 obtain⟨rfl,rfl,rfl⟩:=trodAll_nil r0
 obtain rfl:args=#[v0]:=by cases args;simp_all
 obtain⟨kind,alg,N,mode,b,loc,room,arg,me,vL,vA,Lo,La,rfl,hLo,hLa⟩:=open_ask35 (hval 0 63 v0 rfl rfl) h0
 exact rw_walk kind alg N mode b loc room arg me vL vA Lo La W hLo hLa
end Go.Proofs.YtbaajjkopdjbgaaGreat.rwPlays
namespace Go.Proofs.YtbaajjkopdjbgaaGreat.rwPlays
open Go.ChangeShapes Go.WideShapes Go.ChangeAt Go.RowKit
theorem laidOut:laidOutB Tryz.prog=true:=by kernel_rfl
set_option maxRecDepth 100000 in
theorem contract (H:Type)(enc:TypeId × Value->H)(W:World)(base:Nat)(args:Array Value)(ds gs:List (DataW H))(before:List MemPlace)
  (hval:∀ (j:Nat) t v,Tryz.f9.params[j]?=some t->args[j]?=some v->Value.okWide Tryz.prog W .any base t v)
  (hW:DataW.Whole enc Tryz.prog Tryz.f9.params.toList Rows.rwPlaysSpec.vars false W args.toList ds gs before)(hL:laidMetH Tryz.prog Rows.rwPlaysRow.laid W) :
  Calls Tryz.prog 9 args W fun e W'=>∃ v,e=.returned v/\Rows.rwPlaysSpec.post enc Tryz.prog Tryz.f9 false true false false W args v W':=by
 refine (main H enc W base args ds before hval (by obtain⟨p,q,hA,hV,hpq,_,_⟩:=hW;obtain⟨_,rfl⟩:=trodVars_none hV;rw [List.append_nil] at hpq;subst hpq;exact hA) hL).mono fun e W' ⟨he,hg⟩=>⟨_,he,?_⟩
 refine law_post (tb:=4) laidOut ?_ (by kernel_rfl) Tryz.underlying4 rfl ?_ hW hg
 · rw [Tryz.params9]
   intro t ht
   simp only [List.mem_cons,List.not_mem_nil,or_false] at ht
   rcases ht with rfl <;> exact⟨by kernel_rfl,of_decide_eq_true (by kernel_rfl)⟩
 · intro ds hl
   rw [Tryz.params9] at hl
   match ds,hl with
   | [d0],_=>rfl
set_option maxRecDepth 100000 in
theorem laid_met (os:Os):laidMet Tryz.prog Rows.rwPlaysRow.laid (((World.holding Tryz.prog os ⟨#[],#[],[]⟩)).forCall (fun _ _=>0) ⟨#[],#[.agg #[V Z 0,V Z 0,V Z 0,V Z 0,V Z 0,V Z 0,V Z 0,V Z 0,V Z 0,.slice none 0 0,.slice none 0 0]],[]⟩).memory :=
 laidMet_of_run' 8 (by kernel_rfl) (by kernel_rfl)
set_option maxRecDepth 100000 in
theorem reads (os:Os){H:Type}(enc:TypeId × Value->H):∃ places,DataW.whole enc Tryz.prog (((World.holding Tryz.prog os ⟨#[],#[],[]⟩)).forCall (fun _ _=>0) ⟨#[],#[.agg #[.int .i64 0,.int .i64 0,.int .i64 0,.int .i64 0,.int .i64 0,.int .i64 0,.int .i64 0,.int .i64 0,.int .i64 0,.slice none 0 0,.slice none 0 0]],[]⟩).memory Tryz.f9.params.toList Rows.rwPlaysSpec.vars false (#[.agg #[.int .i64 0,.int .i64 0,.int .i64 0,.int .i64 0,.int .i64 0,.int .i64 0,.int .i64 0,.int .i64 0,.int .i64 0,.slice none 0 0,.slice none 0 0]]:Array Value).toList 8=some ([.agg [.lit (.int .i64 0),.agg [.lit (.int .i64 0),.lit (.int .i64 0),.lit (.int .i64 0),.lit (.int .i64 0),.lit (.int .i64 0),.lit (.int .i64 0)],.lit (.int .i64 0),.lit (.int .i64 0),.nil,.nil]],[],places) :=
 ⟨[],by kernel_rfl⟩
set_option maxRecDepth 100000 in
theorem lifted (os:Os)(started:os.Started)(H:Type)(enc:TypeId × Value->H)(F:Stop.Interp) :
  ReturnsInHanded {} Tryz.checked os 9 .any ((OpenSpec.ofChange Rows.rwPlaysSpec).preRow enc Tryz.prog Tryz.f9 Rows.rwPlaysRow.domain false Rows.rwPlaysRow.laid) (((OpenSpec.ofChange Rows.rwPlaysSpec).at F).post enc Tryz.prog Tryz.f9 false true false false):=by
 obtain⟨places,hx⟩:=reads os enc
 refine returnsInHanded_of_row (C:=Tryz.checked) (s:=(OpenSpec.ofChange Rows.rwPlaysSpec)) own started (by kernel_rfl) Tryz.func9
  (witness_row_at (enc:=enc) (C:=Tryz.checked) false (World.holding Tryz.prog os ⟨#[],#[],[]⟩) #[.agg #[V Z 0,V Z 0,V Z 0,V Z 0,V Z 0,V Z 0,V Z 0,V Z 0,V Z 0,.slice none 0 0,.slice none 0 0]] rfl (by kernel_rfl) (by kernel_rfl) (by kernel_rfl)
    (OpenSpec.preRow_of_cond 8 hx (by kernel_rfl) (fun k hk=>by cases hk) (by kernel_rfl) (laid_met os))) ?_
 intro W base args ds gs before hval hW _ _ _ hL _ _
 exact contract H enc W base args ds gs before hval hW hL
theorem c1:(Rows.rwPlaysRow.inPlace==Tryz.pinned.checked.prog.inPlace 9)=true:=by kernel_rfl
theorem c2:(Rows.rwPlaysRow.unfollowed==Tryz.pinned.checked.prog.unfollowed 9)=true:=by kernel_rfl
theorem c3:(Rows.rwPlaysRow.recurses==Tryz.pinned.checked.prog.recurses 9)=true:=by kernel_rfl
theorem c4:(Rows.rwPlaysRow.named==Tryz.pinned.checked.prog.varsNamed 9)=true:=by kernel_rfl
theorem closed:joinedFacts Tryz.pinned.checked.prog 9 Tryz.f9 (OpenSpec.ofChange Rows.rwPlaysSpec).bare Rows.rwPlaysRow=true:=by
 unfold joinedFacts
 simp only [Bool.and_eq_true]
 repeat' refine And.intro ?_ ?_
 all_goals first | with_reducible exact c1 | with_reducible exact c2 | with_reducible exact c3 | with_reducible exact c4 | kernel_rfl
theorem said:Rows.RwPlaysSaid :=
 OpenClaim.holds_of_cond 9 Tryz.f9 rfl rfl rfl rfl rfl rfl rfl ⟨rfl,rfl,rfl,rfl,rfl⟩ rfl rfl rfl rfl rfl (by kernel_rfl) Tryz.func9 closed
  (of_decide_eq_true (by kernel_rfl)) (by unfold Func.isWrapper;first | (rw [if_pos (by decide +kernel)];kernel_rfl) | (rw [if_neg (by decide +kernel)];exact⟨rfl,rfl⟩))
  (fun os started H enc _ F=>by rw [OpenClaim.pre_eq_preRow];exact lifted os started H enc F)
end Go.Proofs.YtbaajjkopdjbgaaGreat.rwPlays
