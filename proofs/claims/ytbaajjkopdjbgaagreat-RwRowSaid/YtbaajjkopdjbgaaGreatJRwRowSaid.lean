/-
  RwRow holds: of threads that lock and unlock one behind the other, to read and to write, on cells that keep what they were told, nobody is in beside a writer, and nobody unlocks what it has not, without conditions.
-/
import Derived.Test.YtbaajjkopdjbgaaGreatJRwRowSaid9
open Go.Value renaming int -> V
open Go.IntKind renaming i64 -> Z
namespace Go.Proofs.YtbaajjkopdjbgaaGreat
open Go.RowKit Kv
def rM (N:Nat) (hs:List Int):Int:=((hs.take N).map (· % 2)).sum
def xM (N:Nat) (hs:List Int):Int:=((hs.take N).map (· / 2)).sum
def freeP (hs:List Int) (t:Nat) (wb:Bool) (j:Nat):Bool:=(hs.getD t 0==0)&&((hs.take j).all fun v=>v==0||(v==1&&!wb))
structure RowOk (N:Nat) (hs:List Int):Prop where
 len:hs.length=4
 is:∀ v∈hs,v=0∨v=1∨v=2
 one:xM N hs<=1
 apart:xM N hs=0∨rM N hs=0
def rk (i:Fin 3):Int:=(i.val:Int)
def okB (N:Nat) (hs:List Int):Bool:=decide (xM N hs<=1)&&(decide (xM N hs=0)||decide (rM N hs=0))
theorem lock_all:∀ (a b c d:Fin 3) (N:Fin 5) (t:Fin 4) (wb:Bool),t.val<N.val->okB N.val [rk a,rk b,rk c,rk d]=true->freeP [rk a,rk b,rk c,rk d] t.val wb N.val=true ->
  xM N.val [rk a,rk b,rk c,rk d]=0/\(wb=true->rM N.val [rk a,rk b,rk c,rk d]=0)/\okB N.val ([rk a,rk b,rk c,rk d].set t.val (rmark wb))=true /\
  rM N.val ([rk a,rk b,rk c,rk d].set t.val (rmark wb))=(if wb=true then 0 else rM N.val [rk a,rk b,rk c,rk d]+1)/\xM N.val ([rk a,rk b,rk c,rk d].set t.val (rmark wb))=(if wb=true then 1 else 0):=by decide +kernel
theorem unlock_all:∀ (a b c d:Fin 3) (N:Fin 5) (t:Fin 4) (wb:Bool),t.val<N.val->okB N.val [rk a,rk b,rk c,rk d]=true->[rk a,rk b,rk c,rk d].getD t.val 0=rmark wb ->
  (wb=false->1<=rM N.val [rk a,rk b,rk c,rk d])/\okB N.val ([rk a,rk b,rk c,rk d].set t.val 0)=true /\
  rM N.val ([rk a,rk b,rk c,rk d].set t.val 0)=(if wb=true then rM N.val [rk a,rk b,rk c,rk d] else rM N.val [rk a,rk b,rk c,rk d]-1)/\xM N.val ([rk a,rk b,rk c,rk d].set t.val 0)=(if wb=true then 0 else xM N.val [rk a,rk b,rk c,rk d]):=by decide +kernel
theorem few_all:∀ (a b c d:Fin 3) (N:Fin 5),0<=rM N.val [rk a,rk b,rk c,rk d]/\rM N.val [rk a,rk b,rk c,rk d]<=4/\0<=xM N.val [rk a,rk b,rk c,rk d]/\xM N.val [rk a,rk b,rk c,rk d]<=4:=by decide +kernel
theorem rk_is {v:Int}(h:v=0∨v=1∨v=2):∃ i:Fin 3,rk i=v:=by
 rcases h with rfl | rfl | rfl
 · exact⟨0,rfl⟩
 · exact⟨1,rfl⟩
 · exact⟨2,rfl⟩
theorem RowOk.four {N:Nat}{hs:List Int}(h:RowOk N hs):∃ a b c d:Fin 3,hs=[rk a,rk b,rk c,rk d]:=by
 obtain⟨h1,h2,_,_⟩:=h
 match hs,h1,h2 with
 | [a,b,c,d],_,h2 =>
   obtain⟨a,rfl⟩:=rk_is (h2 a (by simp))
   obtain⟨b,rfl⟩:=rk_is (h2 b (by simp))
   obtain⟨c,rfl⟩:=rk_is (h2 c (by simp))
   obtain⟨d,rfl⟩:=rk_is (h2 d (by simp))
   exact⟨a,b,c,d,rfl⟩
theorem RowOk.okB {N:Nat}{hs:List Int}(h:RowOk N hs):okB N hs=true:=by
 unfold Go.Proofs.YtbaajjkopdjbgaaGreat.okB
 have h1:=h.one;have h2:=h.apart
 simp only [Bool.and_eq_true,Bool.or_eq_true,decide_eq_true_eq]
 exact⟨h1,h2⟩
theorem RowOk.of {N:Nat}{hs:List Int}(h1:hs.length=4)(h2:∀ v∈hs,v=0∨v=1∨v=2)(h:Go.Proofs.YtbaajjkopdjbgaaGreat.okB N hs=true):RowOk N hs:=by
 unfold Go.Proofs.YtbaajjkopdjbgaaGreat.okB at h
 simp only [Bool.and_eq_true,Bool.or_eq_true,decide_eq_true_eq] at h
 exact⟨h1,h2,h.1,h.2⟩
theorem is_set {hs:List Int}{t:Nat}{u:Int}(h:∀ v∈hs,v=0∨v=1∨v=2)(hu:u=0∨u=1∨u=2):∀ v∈hs.set t u,v=0∨v=1∨v=2:=fun v hv=>by
 rcases List.mem_or_eq_of_mem_set hv with hv | rfl
 · exact h v hv
 · exact hu
theorem RowOk.few {N:Nat}{hs:List Int}(h:RowOk N hs)(hN:N<=4):0<=rM N hs/\rM N hs<=4/\0<=xM N hs:=by
 obtain⟨a,b,c,d,rfl⟩:=h.four
 have:=few_all a b c d ⟨N,by omega⟩
 exact⟨this.1,this.2.1,this.2.2.1⟩
theorem RowOk.pre {N s:Nat}{hs:List Int}(h:RowOk N hs)(hN:s<=4):0<=rM s hs/\rM s hs<=4/\0<=xM s hs/\xM s hs<=4:=by
 obtain⟨a,b,c,d,rfl⟩:=h.four
 exact few_all a b c d ⟨s,by omega⟩
theorem RowOk.lock {N t:Nat}{hs:List Int}{wb:Bool}(h:RowOk N hs)(hN:N<=4)(ht:t<N)(hf:freeP hs t wb N=true):xM N hs=0/\(wb=true->rM N hs=0)/\RowOk N (hs.set t (rmark wb))/\rM N (hs.set t (rmark wb))=(if wb=true then 0 else rM N hs+1)/\xM N (hs.set t (rmark wb))=(if wb=true then 1 else 0):=by
 have ho:=h.okB;have his:=h.is
 obtain⟨a,b,c,d,rfl⟩:=h.four
 obtain⟨q1,q2,q3,q4,q5⟩:=lock_all a b c d ⟨N,by omega⟩ ⟨t,by omega⟩ wb ht ho hf
 exact⟨q1,q2,.of (by simp) (is_set his (by unfold rmark;split <;> simp)) q3,q4,q5⟩
theorem RowOk.unlock {N t:Nat}{hs:List Int}{wb:Bool}(h:RowOk N hs)(hN:N<=4)(ht:t<N)(hf:hs.getD t 0=rmark wb):(wb=false->1<=rM N hs)/\RowOk N (hs.set t 0)/\rM N (hs.set t 0)=(if wb=true then rM N hs else rM N hs-1)/\xM N (hs.set t 0)=(if wb=true then 0 else xM N hs):=by
 have ho:=h.okB;have his:=h.is
 obtain⟨a,b,c,d,rfl⟩:=h.four
 obtain⟨q1,q3,q4,q5⟩:=unlock_all a b c d ⟨N,by omega⟩ ⟨t,by omega⟩ wb ht ho hf
 exact⟨q1,.of (by simp) (is_set his (.inl rfl)) q3,q4,q5⟩
theorem rM_zero:∀ N,rM N [0,0,0,0]=0/\xM N [0,0,0,0]=0
 | 0 | 1 | 2 | 3 | 4=>by decide
 | N+5=>by
   unfold rM xM
   rw [List.take_of_length_le (by simp)]
   decide
theorem rM_succ {hs:List Int}{j:Nat}{v:Int}(h:hs[j]?=some v):rM (j+1) hs=rM j hs+v % 2/\xM (j+1) hs=xM j hs+v / 2:=by
 unfold rM xM
 rw [List.take_add_one,h]
 simp
theorem freeP_succ {hs:List Int}{t j:Nat}{wb:Bool}{v:Int}(h:hs[j]?=some v):freeP hs t wb (j+1)=(freeP hs t wb j&&(v==0||(v==1&&!wb))):=by
 unfold freeP
 rw [List.take_add_one,h]
 simp [Bool.and_assoc]
theorem rrcl1 (B p:Nat)(S:TS)(N m:Nat)(wb:Bool)(bo bt bw:Nat)(w:World)(h:Plays B w p S)(h1:1<=N)(h2:N<=4)(hm:m<N)(hta:TameA S)(hD:S.left<300)(hn0:S.nts.length+10*S.left<=90000)(g1:Blk w bo (.cells #[V Z 0,V Z 0,V Z 0,V Z 0,V Z 0,V Z 0,V Z 0,V Z 0,V Z 2,V Z N,V Z 1,V Z 0,V Z 0,V Z 1,V Z 0,V Z 0,V Z 0,V Z 0,V Z 0,V Z 0,V Z 0,V Z N,V Z 0] 69))(c2:w.cell? ⟨bt,0,none⟩=some (V Z m))(c3:w.cell? ⟨bw,0,none⟩=some (.bool wb)) :
  Calls Tryz.prog 83 #[.pointer (some ⟨p,0,none⟩),.pointer (some ⟨bo,0,none⟩),.pointer (some ⟨bt,0,none⟩),.pointer (some ⟨bw,0,none⟩)] w (Post encI B p w ((rlockA (inA (lkA (299+1) 2 N 0 0 1 [] m) (299+1)) (lkR 2 N 0 0 [] m) N 0 wb (299+1)).run S)):=by
 have hq:Calls Tryz.prog 74 #[.pointer (some ⟨p,0,none⟩),.agg #[V Z 0,V Z 0,V Z 0,V Z 0,V Z 0,V Z 0,V Z 0,V Z 0,V Z 2,V Z N,V Z 1,V Z 0,V Z 0,V Z 1,V Z 0,V Z 0,V Z 0,V Z 0,V Z 0,V Z 0,V Z 0,V Z N,V Z 0],V Z m,.bool wb] w (Post encI B p w ((rlockA (inA (lkA (299+1) 2 N 0 0 1 [] m) (299+1)) (lkR 2 N 0 0 [] m) N 0 wb (299+1)).run S)) :=
  rlock_p B p N (299+1) S wb 0 2 1 0 0 1 N 0 m [] w h (use36 h1 h2 hm) hta hD hn0 (by omega)
 generalize rlockA (inA (lkA (299+1) 2 N 0 0 1 [] m) (299+1)) (lkR 2 N 0 0 [] m) N 0 wb (299+1)=T at *
 generalize hR:Post encI B p w ((T).run S)=R
 have hO:Owes R encI B p w ((T).run S):=hR▸owes _ _ _ _ _
 clear hR
 have hK:=Keep.refl [2,3,4] B p w
 go_enter Tryz.func83,Tryz.ntmps83
 go_upto_region 1 with fail
 refine wp_region_lit ?_
 refine load_obj rfl _ rfl rfl _ rfl bo rfl g1 rfl ?_
 try simp only [put_pack]
 go_wp2_with fail
 clear g1 c2 c3
 refine tlast hO hK hq (fun _ h=>⟨rfl,h⟩) ?_
 intro v S1 w1 hr hP1 hk1 hK1 hO1
 have hf:=hO1.done hP1 hK1
 clear hO1 hP1 hK1 hr hk1 hO h hK hq;go_wp2_with fail
 first | exact hf | (go_ret;exact hf)
theorem rrcl2 (B p:Nat)(S:TS)(N m:Nat)(wb:Bool)(bo bt bw:Nat)(w:World)(h:Plays B w p S)(h1:1<=N)(h2:N<=4)(hm:m<N)(hta:TameA S)(hD:S.left<300)(hn0:S.nts.length+10*S.left<=90000)(g1:Blk w bo (.cells #[V Z 0,V Z 0,V Z 0,V Z 0,V Z 0,V Z 0,V Z 0,V Z 0,V Z 2,V Z N,V Z 1,V Z 0,V Z 0,V Z 1,V Z 0,V Z 0,V Z 0,V Z 0,V Z 0,V Z 0,V Z 0,V Z N,V Z 0] 69))(c2:w.cell? ⟨bt,0,none⟩=some (V Z m))(c3:w.cell? ⟨bw,0,none⟩=some (.bool wb)) :
  Calls Tryz.prog 84 #[.pointer (some ⟨p,0,none⟩),.pointer (some ⟨bo,0,none⟩),.pointer (some ⟨bt,0,none⟩),.pointer (some ⟨bw,0,none⟩)] w (Post encI B p w ((runlockA (inA (lkA (299+1) 2 N 0 0 1 [] m) (299+1)) (lkR 2 N 0 0 [] m) N 0 wb).run S)):=by
 have hq:Calls Tryz.prog 77 #[.pointer (some ⟨p,0,none⟩),.agg #[V Z 0,V Z 0,V Z 0,V Z 0,V Z 0,V Z 0,V Z 0,V Z 0,V Z 2,V Z N,V Z 1,V Z 0,V Z 0,V Z 1,V Z 0,V Z 0,V Z 0,V Z 0,V Z 0,V Z 0,V Z 0,V Z N,V Z 0],V Z m,.bool wb] w (Post encI B p w ((runlockA (inA (lkA (299+1) 2 N 0 0 1 [] m) (299+1)) (lkR 2 N 0 0 [] m) N 0 wb).run S)) :=
  runlock_p B p N (299+1) S wb 0 2 1 0 0 1 N 0 m [] w h (use36 h1 h2 hm) hta hD hn0 (by omega)
 generalize runlockA (inA (lkA (299+1) 2 N 0 0 1 [] m) (299+1)) (lkR 2 N 0 0 [] m) N 0 wb=T at *
 generalize hR:Post encI B p w ((T).run S)=R
 have hO:Owes R encI B p w ((T).run S):=hR▸owes _ _ _ _ _
 clear hR
 have hK:=Keep.refl [2,3,4] B p w
 go_enter Tryz.func84,Tryz.ntmps84
 go_upto_region 1 with fail
 refine wp_region_lit ?_
 refine load_obj rfl _ rfl rfl _ rfl bo rfl g1 rfl ?_
 try simp only [put_pack]
 go_wp2_with fail
 clear g1 c2 c3
 refine tlast hO hK hq (fun _ h=>⟨rfl,h⟩) ?_
 intro v S1 w1 hr hP1 hk1 hK1 hO1
 have hf:=hO1.done hP1 hK1
 clear hO1 hP1 hK1 hr hk1 hO h hK hq;go_wp2_with fail
 first | exact hf | (go_ret;exact hf)
set_option maxRecDepth 100000 in
set_option maxHeartbeats 2000000 in
theorem rwrow_walk (n:Nat)(vL:Value)(Ls:List Int)(w:World)(hn:n<256)(hL:U8s w vL Ls)(hLb:∀ x∈Ls,0<=x/\x<256) :
  Calls Tryz.prog 11 #[.int .u8 n,vL] w fun e w'=>e=.returned (.bool true)/\Ext w w':=by
 have hmf:∀ (fn:Fn) (first cap:Array Value) (w:World),(Instr.makeFunc fn first cap).run Tryz.prog w=.ok (.func fn first cap) w:=fun _ _ _ _=>rfl
 obtain⟨N,hN⟩:∃ N:Nat,1+(n:Int) % 4=N:=⟨1+n % 4,by omega⟩
 have h1:1<=N:=by omega
 have h2:N<=4:=by omega
 obtain⟨AL,cL,rfl,z1,z2⟩:∃ A c,vL=.slice A Ls.length c/\Ls.length<=c/\c<=9223372036854775807:=by
  obtain⟨A,c,e,q1,q2,_⟩:=hL
  exact⟨A,c,e,q1,q2⟩
 have hX:=Ext.refl w
 go_enter Tryz.func11,Tryz.ntmps11
 by_cases hl:20<Ls.length
 · have d1:decide ((20:Int)<(Ls.length:Int))=true:=by rw [decide_eq_true_eq];omega
   go_wp2_with fail
   refine (alive38 _).mono ?_
   rintro e w7 ⟨rfl,hx7⟩
   have hf:=Hd hx7
   clear hx7;go_wp2_with fail
   go_ret
   exact⟨rfl,hf.out⟩
 have d1:decide ((20:Int)<(Ls.length:Int))=false:=by rw [decide_eq_false_iff_not];omega
 have hput:=fun w=>put_r 0 2 N 1 0 0 1 [] w (use36 h1 h2 (show 0<N by omega)).ok
 rw [show lkC 2 N []=(N:Int) from rfl,show lkL 2 []=0 from rfl] at hput
 go_wp2_with fail
 refine (hput _).mono ?_
 rintro e w0 ⟨rfl,hx⟩
 clear hput
 rename_i hKK
 refine hKK _ _ ?_
 clear hKK
 refine new_obj rfl rfl rfl _ _ rfl _ rfl rfl rfl (by kernel_rfl) ?_
 refine wpList_nil ?_
 replace hX:=hX.trans hx
 have bO:=Blk.new w0 (.cells #[V Z 0,V Z 0,V Z 0,V Z 0,V Z 0,V Z 0,V Z 0,V Z 0,V Z 2,V Z N,V Z 1,V Z 0,V Z 0,V Z 1,V Z 0,V Z 0,V Z 0,V Z 0,V Z 0,V Z 0,V Z 0,V Z N,V Z 0] 69)
 have gO:=hX.size
 replace hX:=hX.alloc (.cells #[V Z 0,V Z 0,V Z 0,V Z 0,V Z 0,V Z 0,V Z 0,V Z 0,V Z 2,V Z N,V Z 1,V Z 0,V Z 0,V Z 1,V Z 0,V Z 0,V Z 0,V Z 0,V Z 0,V Z 0,V Z 0,V Z N,V Z 0] 69)
 generalize hbo:w0.heap.size=bo at *
 generalize World.alloc w0 _=W1 at *
 clear hbo hx
 have hmk:∀ w,(Instr.makeSlice 25 (V Z ((N:Int)+4)) (V Z ((N:Int)+4))).run Tryz.prog w=.ok (.slice (some ⟨w.heap.size,0,none⟩) (N+4:Nat) (N+4:Nat)) (w.alloc (.cells ((zeros (N+4)).map (V Z)).toArray 3)):=fun w=>make_ints _ (N+4) (by omega) (by omega) w
 have hw3:IntKind.i64.wrap ((N:Int)+4)=(N:Int)+4:=IntWalk.i64_in _ (by omega)
 have c_O:=bO.cells
 go_upto_region 8 with fail
 have hzc:zeros (N+4)=cellsM N [0,0,0,0]:=by unfold zeros cellsM;rw [<- List.replicate_append_replicate];rfl
 rw [hzc]
 have x3:=((Ext.refl W1).alloc (.cells ((cellsM N [0,0,0,0]).map (V Z)).toArray 3)).alloc (.cells #[.slice none 0 0,.slice none 0 0,.slice none 0 0,.slice none 0 0] 82) |>.alloc (.cells #[V Z 0,V Z 0,V Z 0,V Z 0] 83)
 have bC:=((Blk.new W1 (.cells ((cellsM N [0,0,0,0]).map (V Z)).toArray 3)).alloc (.cells #[.slice none 0 0,.slice none 0 0,.slice none 0 0,.slice none 0 0] 82)).alloc (.cells #[V Z 0,V Z 0,V Z 0,V Z 0] 83)
 have bL:=(Blk.new (W1.alloc (.cells ((cellsM N [0,0,0,0]).map (V Z)).toArray 3)) (.cells #[.slice none 0 0,.slice none 0 0,.slice none 0 0,.slice none 0 0] 82)).alloc (.cells #[V Z 0,V Z 0,V Z 0,V Z 0] 83)
 have bH:=Blk.new ((W1.alloc (.cells ((cellsM N [0,0,0,0]).map (V Z)).toArray 3)).alloc (.cells #[.slice none 0 0,.slice none 0 0,.slice none 0 0,.slice none 0 0] 82)) (.cells #[V Z 0,V Z 0,V Z 0,V Z 0] 83)
 have gC:=hX.size;have oC:=bO.lt
 simp only [World.size_alloc] at bL bH
 replace bO:=bO.ext x3;replace hX:=hX.trans x3;clear x3 hzc hmk c_O
 generalize hbc:W1.heap.size=bc at *
 generalize World.alloc (World.alloc (World.alloc W1 _) _) _=W2 at *
 clear hbc
 have hI:SInv w N (.cells #[V Z 0,V Z 0,V Z 0,V Z 0,V Z 0,V Z 0,V Z 0,V Z 0,V Z 2,V Z N,V Z 1,V Z 0,V Z 0,V Z 1,V Z 0,V Z 0,V Z 0,V Z 0,V Z 0,V Z 0,V Z 0,V Z N,V Z 0] 69) bo bc (bc+1) (bc+1+1) 82 W2 [rM N [0,0,0,0],xM N [0,0,0,0],((0:Nat):Int),((0:Nat):Int)] [0,0,0,0] #[.slice none 0 0,.slice none 0 0,.slice none 0 0,.slice none 0 0]:=by
  rw [(rM_zero N).1,(rM_zero N).2]
  exact⟨hX,bO,bC,bL,rfl,rfl,fun t ht=>⟨none,0,[],by
   have:t=0∨t=1∨t=2∨t=3:=by omega
   rcases this with rfl | rfl | rfl | rfl <;> rfl,Ints.nil _,by simp,by
   have:t=0∨t=1∨t=2∨t=3:=by omega
   rcases this with rfl | rfl | rfl | rfl <;> rfl,fun b hb=>by simp [Value.ownBlock] at hb⟩,⟨gO,gC,by omega,by omega⟩,⟨by omega,by omega,by omega,by omega,by omega,by omega⟩,bH.lt⟩
 have hok:Hid (RowOk N [0,0,0,0]):=⟨rfl,by simp,by rw [(rM_zero N).2];decide,.inl (rM_zero N).2⟩
 clear bO bC bL hX gO gC oC
 have hLh:=Hd hL
 have hLbh:=Hd hLb
 clear hL hLb
 obtain⟨OL,hOL⟩:∃ OL:Obj,OL=(.cells #[V Z 0,V Z 0,V Z 0,V Z 0,V Z 0,V Z 0,V Z 0,V Z 0,V Z 2,V Z N,V Z 1,V Z 0,V Z 0,V Z 1,V Z 0,V Z 0,V Z 0,V Z 0,V Z 0,V Z 0,V Z 0,V Z N,V Z 0] 69):=⟨_,rfl⟩
 rw [<- hOL] at hI
 have hOLh:=Hd hOL
 clear hOL
 generalize hbl:bc+1=bl at *
 generalize hbh:bl+1=bh at *
 clear hbl hbh;go_wp2_with fail
 go_loopw [10,11,12,13,14,15,16,17,18,19] (fun a10 _ _ _ _ _ _ _ _ _ wr=>∃ (j q:Nat) (hs:List Int) (vs:Array Value),a10=V Z j/\j<=Ls.length/\q<=j/\Hid (RowOk N hs)/\Hid (SInv w N OL bo bc bl bh 82 wr [rM N hs,xM N hs,(q:Int),(q:Int)] hs vs)/\Hid (Blk wr bh (.cells (hs.map (V Z)).toArray 83))) (fun a10 _ _ _ _ _ _ _ _ _ _=>Ls.length-(intOf a10).toNat)
 case atStart=>exact⟨0,0,[0,0,0,0],_,rfl,by omega,by omega,hok,hI,bH⟩
 case round =>
  clear hI bH hok
  obtain⟨j,q,hs,vs,rfl,hj,hq,hok,hI,bH⟩:=hrel
  by_cases hjl:j<Ls.length
  rotate_left
  · have dj:decide ((j:Int)<(Ls.length:Int))=false:=by rw [decide_eq_false_iff_not];omega
    go_wp2_with fail
    generalize wr=Vq at *
    have hI1:=hI.out;have bH1:=bH.out;have hok1:=hok.out;clear hI bH hok
    go_loopw [20,21,22] (fun a b i wx=>∃ s:Nat,i=V Z s/\s<=N/\a=V Z (rM s hs)/\b=V Z (xM s hs)/\Vq=wx) (fun _ _ i _=>N-(intOf i).toNat)
    case atStart=>exact⟨0,rfl,by omega,rfl,rfl,rfl⟩
    case round =>
     obtain⟨s,rfl,hsl,rfl,rfl,hwx⟩:=hrel
     subst hwx
     obtain⟨g1,g2,g3,g4⟩:=hok1.pre (show s<=4 by omega)
     by_cases hsN:s<N
     · have ds:decide ((s:Int)<(N:Int))=true:=by rw [decide_eq_true_eq];omega
       have hlen:=hI1.len
       obtain⟨v,hvs⟩:∃ v,hs[s]?=some v:=⟨_,List.getElem?_eq_getElem (show s<hs.length by omega)⟩
       have c_S:Vq.cell? ⟨bh,s,none⟩=some (V Z v):=by
        rw [bH1.cells s]
        simp [hvs]
       have hvi:=hok1.is v (List.mem_of_getElem? hvs)
       obtain⟨k1,k2⟩:=rM_succ hvs
       have k1h:=Hd k1
       have k2h:=Hd k2
       have hw1:=IntWalk.i64_in (rM s hs+1) (by omega)
       have hw2:=IntWalk.i64_in (xM s hs+1) (by omega)
       have hw3:=IntWalk.i64_in (rM s hs+0) (by omega)
       have hw4:=IntWalk.i64_in (xM s hs+0) (by omega)
       have hw5:=IntWalk.i64_in (rM s hs) (by omega)
       have hw6:=IntWalk.i64_in (xM s hs) (by omega)
       clear hvs hI1 bH1 k1 k2
       rcases hvi with rfl | rfl | rfl
       all_goals
        go_wp2_with fail
        refine⟨⟨s+1,by first | rfl | go_num,by omega,by rw [k1h.out];first | rfl | simp,by rw [k2h.out];first | rfl | simp,by trivial⟩,?_⟩
        simp [intOf]
        omega
     have ds:decide ((s:Int)<(N:Int))=false:=by rw [decide_eq_false_iff_not];omega
     obtain rfl:N=s:=by omega
     have c_O:Vq.cell? ⟨bo,21,none⟩=some (V Z N):=by
      have h:=hI1.kO;rw [hOLh.out] at h
      exact h.cells 21
     have c_C:Vq.cell? ⟨bc,N,none⟩=some (V Z (rM N hs)):=by
      rw [hI1.kC.cells N]
      simp [cellsM]
     have c_D:Vq.cell? ⟨bc,N+1,none⟩=some (V Z (xM N hs)):=by
      rw [hI1.kC.cells (N+1)]
      simp [cellsM]
     have hwN:=IntWalk.i64_in ((N:Int)+1) (by omega)
     have dx:decide (xM N hs<=1)=true:=by rw [decide_eq_true_eq];exact hok1.one
     have hE1:=Hd hI1.ext
     have hap:=hok1.apart;clear hI1 bH1 hok1
     by_cases hx0:xM N hs=0
     · have d0:(xM N hs==0)=true:=by rw [beq_iff_eq];exact hx0
       clear hx0 hap;go_wp2_with fail
       refine (alive38 _).mono ?_
       rintro e w7 ⟨rfl,hx7⟩
       have hf:=Hd (hE1.out.trans hx7)
       clear hx7;go_wp2_with fail
       first | exact⟨rfl,hf.out⟩ | (go_ret;exact⟨rfl,hf.out⟩) | (go_ret2;exact⟨rfl,hf.out⟩)
     · have d0:(xM N hs==0)=false:=by rw [beq_eq_false_iff_ne];exact hx0
       have d9:(rM N hs==0)=true:=by rw [beq_iff_eq];exact hap.resolve_left hx0
       clear hx0 hap;go_wp2_with fail
       refine (alive38 _).mono ?_
       rintro e w7 ⟨rfl,hx7⟩
       have hf:=Hd (hE1.out.trans hx7)
       clear hx7;go_wp2_with fail
       first | exact⟨rfl,hf.out⟩ | (go_ret;exact⟨rfl,hf.out⟩) | (go_ret2;exact⟨rfl,hf.out⟩)
  have dj:decide ((j:Int)<(Ls.length:Int))=true:=by rw [decide_eq_true_eq];omega
  obtain⟨x,hx⟩:∃ x,Ls[j]?=some x:=⟨_,List.getElem?_eq_getElem hjl⟩
  obtain⟨ba,oa,rfl,hba,hcx0⟩:=hLh.out.at_ hx
  have hcx:=(hI.out.ext.cell (p:=⟨ba,oa+j,none⟩) hba).trans hcx0
  have hcxh:=Hd hcx0
  clear hcx0
  have hxb:=hLbh.out x (List.mem_of_getElem? hx)
  obtain⟨y,rfl⟩:∃ y:Nat,x=y:=⟨x.toNat,by omega⟩
  obtain⟨t,htt⟩:∃ t:Nat,((y:Int) / 4) % (N:Int)=t:=⟨(((y:Int) / 4) % (N:Int)).toNat,by
   have:=Int.emod_nonneg ((y:Int) / 4) (show (N:Int)≠0 by omega)
   omega⟩
  have htN:t<N:=by
   have:=Int.emod_lt_of_pos ((y:Int) / 4) (show (0:Int)<N by omega)
   omega
  obtain⟨wb,hwb⟩:∃ wb,(bits BinOp.and IntKind.u8 (y:Int) 2 != 0)=wb:=⟨_,rfl⟩
  have hq1:IntKind.u8.wrap ((y:Int) / 4)=(y:Int) / 4:=by
   show (y:Int) / 4 % 256=_
   omega
  have hq2:IntKind.i64.wrap ((y:Int) / 4)=(y:Int) / 4:=IntWalk.i64_in _ (by omega)
  have hq3:((y:Int) / 4).tmod (N:Int)=t:=by rw [Int.tmod_eq_emod_of_nonneg (by omega)];exact htt
  have hq4:¬ N=0:=by omega
  go_upto_region 11 with fail
  have hxd:=(Ext.refl wr).drew
  have hIw:=hI.out.keep hxd
  have hcxd:=(hIw.ext.cell (p:=⟨ba,oa+j,none⟩) hba).trans hcxh.out
  have hS:∀ w',Ext wr w'->w'.cell? ⟨ba,oa+j,none⟩=some (.int .u8 y):=fun w' h=>((hI.out.keep h).ext.cell (p:=⟨ba,oa+j,none⟩) hba).trans hcxh.out
  have hfa:Ext wr ((wr.alloc (.cells #[V Z t] 3)).alloc (.cells #[.bool wb] 4)).drew/\Blk ((wr.alloc (.cells #[V Z t] 3)).alloc (.cells #[.bool wb] 4)).drew wr.heap.size (.cells #[V Z t] 3)/\Blk ((wr.alloc (.cells #[V Z t] 3)).alloc (.cells #[.bool wb] 4)).drew (wr.heap.size+1) (.cells #[.bool wb] 4):=by
   refine⟨(((Ext.refl wr).alloc _).alloc _).drew,((Blk.new wr _).alloc _).drew,?_⟩
   have h:=(Blk.new (wr.alloc (.cells #[V Z t] 3)) (.cells #[.bool wb] 4)).drew
   simpa using h
  have hfb:Ext wr ((wr.alloc (.cells #[.bool wb] 4)).alloc (.cells #[V Z t] 3)).drew/\Blk ((wr.alloc (.cells #[.bool wb] 4)).alloc (.cells #[V Z t] 3)).drew wr.heap.size (.cells #[.bool wb] 4)/\Blk ((wr.alloc (.cells #[.bool wb] 4)).alloc (.cells #[V Z t] 3)).drew (wr.heap.size+1) (.cells #[V Z t] 3):=by
   refine⟨(((Ext.refl wr).alloc _).alloc _).drew,((Blk.new wr _).alloc _).drew,?_⟩
   have h:=(Blk.new (wr.alloc (.cells #[.bool wb] 4)) (.cells #[V Z t] 3)).drew
   simpa using h
  have hfah:=Hd hfa
  have hfbh:=Hd hfb
  clear hcx hIw hxd hfa hfb
  go_cut [11,12] (fun s11 s12 wx=>∃ bt bw:Nat,s11=.pointer (some ⟨bt,0,none⟩)/\s12=.pointer (some ⟨bw,0,none⟩)/\Blk wx bt (.cells #[V Z t] 3)/\Blk wx bw (.cells #[.bool wb] 4)/\bt≠bw/\wr.heap.size<=bt/\wr.heap.size<=bw/\Ext wr wx)
  case first =>
   go_region_held2 (fun w'=>w'.cell? ⟨ba,oa+j,none⟩=some (.int .u8 y)) (first | with_reducible exact hcxd | (refine hS _ ?_;repeat (first | with_reducible exact Ext.refl _ | refine Ext.drew ?_ | refine Ext.alloc ?_ _ | refine Ext.setCell ?_ (by simp <;> omega) _))) (fail)
   all_goals
    go_wp2_with fail
    go_meet
    first
     | exact⟨_,_,rfl,rfl,hfah.out.2.1,hfah.out.2.2,by omega,by omega,by omega,hfah.out.1⟩
     | exact⟨_,_,rfl,rfl,hfbh.out.2.2,hfbh.out.2.1,by omega,by omega,by omega,hfbh.out.1⟩
  case rest =>
  obtain⟨bt,bw,rfl,rfl,bT,bW,nTW,gT,gW,hx1⟩:=hcut
  have hI1:=hI.out.keep hx1
  have bH1:=bH.out.ext hx1
  have nT:bo<wr.heap.size/\bc<wr.heap.size/\bl<wr.heap.size/\bh<wr.heap.size:=⟨hI.out.kO.lt,hI.out.kC.lt,hI.out.kL.lt,hI.out.kH⟩
  clear hx1 hI bH hS hfah hfbh hcxd
  generalize hzz:wr.heap.size=zz at *
  clear hzz
  obtain⟨nn1,nn2,nn3,nn4,nn5,nn6⟩:=hI1.ne
  have hlen:=hI1.len
  obtain⟨hv,hso⟩:∃ hv,hs[t]?=some hv:=⟨_,List.getElem?_eq_getElem (show t<hs.length by omega)⟩
  have hcx:=(hI1.ext.cell (p:=⟨ba,oa+j,none⟩) hba).trans hcxh.out
  have hK0:∀ W W',BelowX (fun k=>k=bc) W W'->(Blk W bo OL/\Blk W bt (.cells #[V Z t] 3)/\Blk W bw (.cells #[.bool wb] 4))->(Blk W' bo OL/\Blk W' bt (.cells #[V Z t] 3)/\Blk W' bw (.cells #[.bool wb] 4)):=fun W W' hB h=>⟨hB.blk h.1 nn1,hB.blk h.2.1 (by omega),hB.blk h.2.2 (by omega)⟩
  have hself:hs.set t hv=hs:=by
   apply List.ext_getElem?
   intro i
   by_cases hi:t=i
   · subst hi
     rw [List.getElem?_set_self (by omega),hso]
   · rw [List.getElem?_set_ne hi]
  have hgd:hs.getD t 0=hv:=by rw [List.getD_eq_getElem?_getD,hso];rfl
  have hgdh:=Hd hgd
  have hsoh:=Hd hso
  have hselfh:=Hd hself
  have hK0h:=Hd hK0
  clear hK0 hself hgd hso hwb
  have c_T:wc.cell? ⟨bt,0,none⟩=some (V Z t):=bT.cells 0
  have c_W:wc.cell? ⟨bw,0,none⟩=some (.bool wb):=bW.cells 0
  have c_H:wc.cell? ⟨bh,t,none⟩=some (V Z hv):=by
   rw [bH1.cells t]
   simp [hsoh.out]
  go_upto_if 58 with fail
  go_cut [13] (fun s13 wx=>s13=V Z (rmark wb)/\wc=wx)
  case first =>
   cases wb with
   | true =>
     go_wp2_with fail
     go_meet
     exact⟨rfl,rfl⟩
   | false =>
     go_wp2_with fail
     go_meet
     exact⟨rfl,rfl⟩
  case rest =>
  obtain⟨rfl,rfl⟩:=hcut
  go_wp2_with fail
  go_loopw [14,15] (fun f i wx=>∃ s:Nat,i=V Z s/\s<=N/\f=.bool (freeP hs t wb s)/\wc=wx) (fun _ i _=>N-(intOf i).toNat)
  case atStart=>exact⟨0,rfl,by omega,by rw [show freeP hs t wb 0=(hv==0) from by unfold freeP;rw [hgdh.out];simp],rfl⟩
  case round =>
   obtain⟨s,rfl,hsl,rfl,hwx⟩:=hrel
   subst hwx
   by_cases hsN:s<N
   · have ds:decide ((s:Int)<(N:Int))=true:=by rw [decide_eq_true_eq];omega
     obtain⟨v,hvs⟩:∃ v,hs[s]?=some v:=⟨_,List.getElem?_eq_getElem (show s<hs.length by omega)⟩
     have c_S:wc.cell? ⟨bh,s,none⟩=some (V Z v):=by
      rw [bH1.cells s]
      simp [hvs]
     have hvi:=hok.out.is v (List.mem_of_getElem? hvs)
     have hfs:=Hd (freeP_succ (t:=t) (wb:=wb) hvs)
     clear hvs c_H hcx hI1 bH1 c_T
     cases hfr:freeP hs t wb s with
     | false =>
       rw [hfr] at hfs;have hfs2:=hfs;clear hfs;go_wp2_with fail
       refine⟨⟨s+1,by first | rfl | go_num,by omega,by rw [hfs2.out];rfl,by trivial⟩,?_⟩
       simp [intOf]
       omega
     | true =>
       rw [hfr] at hfs
       cases wb <;> rcases hvi with rfl | rfl | rfl
       all_goals
        go_wp2_with fail
        refine⟨⟨s+1,by first | rfl | go_num,by omega,by rw [hfs.out];rfl,by trivial⟩,?_⟩
        simp [intOf]
        omega
   have ds:decide ((s:Int)<(N:Int))=false:=by rw [decide_eq_false_iff_not];omega
   obtain rfl:N=s:=by omega
   obtain⟨k0,hk0⟩:∃ k0,bits BinOp.and IntKind.u8 (y:Int) 1=k0:=⟨_,rfl⟩
   by_cases h0:k0=0
   · have e0:(k0==0)=true:=by rw [beq_iff_eq];exact h0
     have e1:(k0==1)=false:=by rw [beq_eq_false_iff_ne];omega
     cases hfr:freeP hs t wb N with
     | true =>
       have hv0:hv=0:=by
        unfold freeP at hfr;rw [hgdh.out] at hfr
        simp only [Bool.and_eq_true,beq_iff_eq] at hfr
        exact hfr.1
       obtain⟨hx0,hr0,hok',hr',hx'⟩:=hok.out.lock h2 htN hfr
       obtain⟨f1,f2,f3⟩:=hok.out.few h2
       rw [hx0] at hI1
       have hg:=goes_inv hI1 83 #[.pointer (some ⟨bo,0,none⟩),.pointer (some ⟨bt,0,none⟩),.pointer (some ⟨bw,0,none⟩)] (rlockA (inA (lkA (299+1) 2 N 0 0 1 [] t) (299+1)) (lkR 2 N 0 0 [] t) N 0 wb (299+1)) (fun W=>Blk W bo OL/\Blk W bt (.cells #[V Z t] 3)/\Blk W bw (.cells #[.bool wb] 4)) t (2*N+9) 200 (N+4) 0 (rmark wb) [if wb=true then 0 else rM N hs+1,if wb=true then 1 else 0,(q:Int)+1,(q:Int)+1] (by omega) (fun _ _=>rfl) hK0h.out ⟨hI1.kO,bT,bW⟩ (by first | omega | (cases wb <;> simp <;> omega)) (by omega) rfl (by omega)
        (fun L hL0=>⟨_,does_rlock htN (by omega) (by omega) (by omega) hr0 (by show L.getD 0 0=0;rw [hL0,hgdh.out];exact hv0),by show (if 0=0 then rmark wb else _)=_;rfl⟩)
        (fun L W0 W p ans hk hx hP hl hta=>rrcl1 W0.heap.size p _ N t wb bo bt bw W hP h1 h2 htN hta (by simp [TS0,TS.left];omega) (by simp [TS0,TS.left];omega) (by have:=hk.1.ext hx;rw [hOLh.out] at this;exact this) ((hk.2.1.ext hx).cells 0) ((hk.2.2.ext hx).cells 0))
       have hgh:=Hd hg
       clear hg;go_wp2_with fail
       refine hgh.out.mono ?_
       clear hgh
       rintro e w1 ⟨rfl,hB,vs',hI2⟩
       have hBh:=hB.blk bH1 (fun e=>by rcases e with e | e <;> omega)
       have bT1:=hB.blk bT (fun e=>by rcases e with e | e <;> omega)
       have bW1:=hB.blk bW (fun e=>by rcases e with e | e <;> omega)
       clear hB hI1 bH1 bT bW c_T c_W hcx c_H
       have c_T:w1.cell? ⟨bt,0,none⟩=some (V Z t):=bT1.cells 0
       have c_H:w1.cell? ⟨bh,t,none⟩=some (V Z hv):=by
        rw [hBh.cells t]
        simp [hsoh.out]
       have hfz:w1.frozen? ⟨bh,t,none⟩=false:=frozen_of_heap hBh t
       have hI3:=hI2.setH t (V Z (rmark wb))
       have hb3:Blk (w1.setCell ⟨bh,t,none⟩ (V Z (rmark wb))) bh (.cells ((hs.set t (rmark wb)).map (V Z)).toArray 83):=by
        have h:=heap_setCell (i:=t) hBh (V Z (rmark wb))
        have e:((hs.map (V Z)).toArray).setIfInBounds t (V Z (rmark wb))=((hs.set t (rmark wb)).map (V Z)).toArray:=by
         rw [List.map_set]
         simp
        rw [<- e]
        exact h
       clear hBh
       go_upto_region 26 with fail
       generalize World.setCell w1 _ _=W3 at *
       clear c_T c_H hfz bT1 bW1 hI2
       have hcx:=(hI3.ext.cell (p:=⟨ba,oa+j,none⟩) hba).trans hcxh.out
       have hoke:Hid (RowOk N (hs.set t (rmark wb))):=hok'
       have hIe:Hid (SInv w N OL bo bc bl bh 82 W3 [rM N (hs.set t (rmark wb)),xM N (hs.set t (rmark wb)),((q+1:Nat):Int),((q+1:Nat):Int)] (hs.set t (rmark wb)) (vs')):=by
        rw [hr',hx']
        have h:=hI3
        first | exact h | (simp only [Int.natCast_add,Int.natCast_one] at h ⊢;first | exact h | (refine cast ?_ h;congr 2 <;> simp <;> omega))
       have hBe:=Hd hb3
       clear hr' hx' hr0 hx0;clear hselfh hK0h hok hsoh;go_wp2_with fail
       refine⟨⟨j+1,q+1,hs.set t (rmark wb),vs',by first | rfl | (congr 1;omega) | go_num,by omega,by omega,hoke,hIe,hBe⟩,?_⟩
       simp [intOf]
       omega
     | false =>
       by_cases hv0:hv=0
       · have dv:(hv != 0)=false:=by simpa using hv0
         have hoke:Hid (RowOk N (hs)):=hok.out
         have hIe:Hid (SInv w N OL bo bc bl bh 82 wc [rM N (hs),xM N (hs),((q:Nat):Int),((q:Nat):Int)] (hs) (vs)):=by
          skip
          have h:=hI1
          first | exact h | (simp only [Int.natCast_add,Int.natCast_one] at h ⊢;first | exact h | (refine cast ?_ h;congr 2 <;> simp <;> omega))
         have hBe:=Hd bH1
         clear hselfh hK0h hok hsoh;go_wp2_with fail
         refine⟨⟨j+1,q,hs,vs,by first | rfl | (congr 1;omega) | go_num,by omega,by omega,hoke,hIe,hBe⟩,?_⟩
         simp [intOf]
         omega
       · have dv:(hv != 0)=true:=by rw [bne_iff_ne];exact hv0
         have hg:=goes_inv hI1 83 #[.pointer (some ⟨bo,0,none⟩),.pointer (some ⟨bt,0,none⟩),.pointer (some ⟨bw,0,none⟩)] (rlockA (inA (lkA (299+1) 2 N 0 0 1 [] t) (299+1)) (lkR 2 N 0 0 [] t) N 0 wb (299+1)) (fun W=>Blk W bo OL/\Blk W bt (.cells #[V Z t] 3)/\Blk W bw (.cells #[.bool wb] 4)) t 0 200 (N+4) 10 hv [rM N hs,xM N hs,(q:Int),(q:Int)] (by omega) (fun _ _=>rfl) hK0h.out ⟨hI1.kO,bT,bW⟩ (by first | omega | (cases wb <;> simp <;> omega)) (by omega) rfl (by omega)
          (fun L hL0=>⟨_,does_rlock_held (by show L.getD 0 0≠0;rw [hL0,hgdh.out];exact hv0),by show L.getD 0 0=hv;rw [hL0,hgdh.out]⟩)
          (fun L W0 W p ans hk hx hP hl hta=>rrcl1 W0.heap.size p _ N t wb bo bt bw W hP h1 h2 htN hta (by simp [TS0,TS.left];omega) (by simp [TS0,TS.left];omega) (by have:=hk.1.ext hx;rw [hOLh.out] at this;exact this) ((hk.2.1.ext hx).cells 0) ((hk.2.2.ext hx).cells 0))
         have hgh:=Hd hg
         clear hg;go_wp2_with fail
         refine hgh.out.mono ?_
         clear hgh
         rintro e w1 ⟨rfl,hB,vs',hI2⟩
         have hBh:=hB.blk bH1 (fun e=>by rcases e with e | e <;> omega)
         have bT1:=hB.blk bT (fun e=>by rcases e with e | e <;> omega)
         have bW1:=hB.blk bW (fun e=>by rcases e with e | e <;> omega)
         clear hB hI1 bH1 bT bW c_T c_W hcx c_H
         have c_T:w1.cell? ⟨bt,0,none⟩=some (V Z t):=bT1.cells 0
         have c_H:w1.cell? ⟨bh,t,none⟩=some (V Z hv):=by
          rw [hBh.cells t]
          simp [hsoh.out]
         rw [hselfh.out] at hI2
         go_upto_region 26 with fail
         clear c_T c_H bT1 bW1
         have hcx:=(hI2.ext.cell (p:=⟨ba,oa+j,none⟩) hba).trans hcxh.out
         have hoke:Hid (RowOk N (hs)):=hok.out
         have hIe:Hid (SInv w N OL bo bc bl bh 82 w1 [rM N (hs),xM N (hs),((q:Nat):Int),((q:Nat):Int)] (hs) (vs')):=by
          skip
          have h:=hI2
          first | exact h | (simp only [Int.natCast_add,Int.natCast_one] at h ⊢;first | exact h | (refine cast ?_ h;congr 2 <;> simp <;> omega))
         have hBe:=Hd hBh
         clear hselfh hK0h hok hsoh;go_wp2_with fail
         refine⟨⟨j+1,q,hs,vs',by first | rfl | (congr 1;omega) | go_num,by omega,by omega,hoke,hIe,hBe⟩,?_⟩
         simp [intOf]
         omega
   have e0:(k0==0)=false:=by rw [beq_eq_false_iff_ne];exact h0
   by_cases hk1:k0=1
   · have e1:(k0==1)=true:=by rw [beq_iff_eq];exact hk1
     by_cases hm:hv=rmark wb
     · have dm:(hv==rmark wb)=true:=by rw [beq_iff_eq];exact hm
       obtain⟨hr1,hok',hr',hx'⟩:=hok.out.unlock h2 htN (by rw [hgdh.out];exact hm)
       obtain⟨f1,f2,f3⟩:=hok.out.few h2
       have hg:=goes_inv hI1 84 #[.pointer (some ⟨bo,0,none⟩),.pointer (some ⟨bt,0,none⟩),.pointer (some ⟨bw,0,none⟩)] (runlockA (inA (lkA (299+1) 2 N 0 0 1 [] t) (299+1)) (lkR 2 N 0 0 [] t) N 0 wb) (fun W=>Blk W bo OL/\Blk W bt (.cells #[V Z t] 3)/\Blk W bw (.cells #[.bool wb] 4)) t (N+(if wb=true then 1 else 2)+1) 100 (N+4) 0 0 [if wb=true then rM N hs else rM N hs-1,if wb=true then 0 else xM N hs,(q:Int),(q:Int)] (by omega) (fun _ _=>rfl) hK0h.out ⟨hI1.kO,bT,bW⟩ (by first | omega | (cases wb <;> simp <;> omega)) (by omega) rfl (by omega)
        (fun L hL0=>⟨_,does_runlock htN (by omega) (fun h=>⟨hr1 h,by omega⟩) (by show L.getD 0 0=_;rw [hL0,hgdh.out];exact hm),rfl⟩)
        (fun L W0 W p ans hk hx hP hl hta=>rrcl2 W0.heap.size p _ N t wb bo bt bw W hP h1 h2 htN hta (by simp [TS0,TS.left];omega) (by simp [TS0,TS.left];omega) (by have:=hk.1.ext hx;rw [hOLh.out] at this;exact this) ((hk.2.1.ext hx).cells 0) ((hk.2.2.ext hx).cells 0))
       have hgh:=Hd hg
       clear hg;go_wp2_with fail
       refine hgh.out.mono ?_
       clear hgh
       rintro e w1 ⟨rfl,hB,vs',hI2⟩
       have hBh:=hB.blk bH1 (fun e=>by rcases e with e | e <;> omega)
       have bT1:=hB.blk bT (fun e=>by rcases e with e | e <;> omega)
       have bW1:=hB.blk bW (fun e=>by rcases e with e | e <;> omega)
       clear hB hI1 bH1 bT bW c_T c_W hcx c_H
       have c_T:w1.cell? ⟨bt,0,none⟩=some (V Z t):=bT1.cells 0
       have c_H:w1.cell? ⟨bh,t,none⟩=some (V Z hv):=by
        rw [hBh.cells t]
        simp [hsoh.out]
       have hfz:w1.frozen? ⟨bh,t,none⟩=false:=frozen_of_heap hBh t
       have hI3:=hI2.setH t (V Z (0))
       have hb3:Blk (w1.setCell ⟨bh,t,none⟩ (V Z (0))) bh (.cells ((hs.set t (0)).map (V Z)).toArray 83):=by
        have h:=heap_setCell (i:=t) hBh (V Z (0))
        have e:((hs.map (V Z)).toArray).setIfInBounds t (V Z (0))=((hs.set t (0)).map (V Z)).toArray:=by
         rw [List.map_set]
         simp
        rw [<- e]
        exact h
       clear hBh
       go_upto_region 10 with fail
       generalize World.setCell w1 _ _=W3 at *
       clear c_T c_H hfz bT1 bW1 hI2
       have hcx:=(hI3.ext.cell (p:=⟨ba,oa+j,none⟩) hba).trans hcxh.out
       have hoke:Hid (RowOk N (hs.set t 0)):=hok'
       have hIe:Hid (SInv w N OL bo bc bl bh 82 W3 [rM N (hs.set t 0),xM N (hs.set t 0),((q:Nat):Int),((q:Nat):Int)] (hs.set t 0) (vs')):=by
        rw [hr',hx']
        have h:=hI3
        first | exact h | (simp only [Int.natCast_add,Int.natCast_one] at h ⊢;first | exact h | (refine cast ?_ h;congr 2 <;> simp <;> omega))
       have hBe:=Hd hb3
       clear hr' hx' hr1;clear hselfh hK0h hok hsoh;go_wp2_with fail
       refine⟨⟨j+1,q,hs.set t 0,vs',by first | rfl | (congr 1;omega) | go_num,by omega,by omega,hoke,hIe,hBe⟩,?_⟩
       simp [intOf]
       omega
     · have dm:(hv==rmark wb)=false:=by rw [beq_eq_false_iff_ne];exact hm
       have hg:=goes_inv hI1 84 #[.pointer (some ⟨bo,0,none⟩),.pointer (some ⟨bt,0,none⟩),.pointer (some ⟨bw,0,none⟩)] (runlockA (inA (lkA (299+1) 2 N 0 0 1 [] t) (299+1)) (lkR 2 N 0 0 [] t) N 0 wb) (fun W=>Blk W bo OL/\Blk W bt (.cells #[V Z t] 3)/\Blk W bw (.cells #[.bool wb] 4)) t 0 100 (N+4) 9 hv [rM N hs,xM N hs,(q:Int),(q:Int)] (by omega) (fun _ _=>rfl) hK0h.out ⟨hI1.kO,bT,bW⟩ (by first | omega | (cases wb <;> simp <;> omega)) (by omega) rfl (by omega)
        (fun L hL0=>⟨_,does_runlock_no (by show L.getD 0 0≠_;rw [hL0,hgdh.out];exact hm),by show L.getD 0 0=hv;rw [hL0,hgdh.out]⟩)
        (fun L W0 W p ans hk hx hP hl hta=>rrcl2 W0.heap.size p _ N t wb bo bt bw W hP h1 h2 htN hta (by simp [TS0,TS.left];omega) (by simp [TS0,TS.left];omega) (by have:=hk.1.ext hx;rw [hOLh.out] at this;exact this) ((hk.2.1.ext hx).cells 0) ((hk.2.2.ext hx).cells 0))
       have hgh:=Hd hg
       clear hg;go_wp2_with fail
       refine hgh.out.mono ?_
       clear hgh
       rintro e w1 ⟨rfl,hB,vs',hI2⟩
       have hBh:=hB.blk bH1 (fun e=>by rcases e with e | e <;> omega)
       have bT1:=hB.blk bT (fun e=>by rcases e with e | e <;> omega)
       have bW1:=hB.blk bW (fun e=>by rcases e with e | e <;> omega)
       clear hB hI1 bH1 bT bW c_T c_W hcx c_H
       have c_T:w1.cell? ⟨bt,0,none⟩=some (V Z t):=bT1.cells 0
       have c_H:w1.cell? ⟨bh,t,none⟩=some (V Z hv):=by
        rw [hBh.cells t]
        simp [hsoh.out]
       rw [hselfh.out] at hI2
       go_upto_region 10 with fail
       clear c_T c_H bT1 bW1
       have hoke:Hid (RowOk N (hs)):=hok.out
       have hIe:Hid (SInv w N OL bo bc bl bh 82 w1 [rM N (hs),xM N (hs),((q:Nat):Int),((q:Nat):Int)] (hs) (vs')):=by
        skip
        have h:=hI2
        first | exact h | (simp only [Int.natCast_add,Int.natCast_one] at h ⊢;first | exact h | (refine cast ?_ h;congr 2 <;> simp <;> omega))
       have hBe:=Hd hBh
       clear hselfh hK0h hok hsoh;go_wp2_with fail
       refine⟨⟨j+1,q,hs,vs',by first | rfl | (congr 1;omega) | go_num,by omega,by omega,hoke,hIe,hBe⟩,?_⟩
       simp [intOf]
       omega
   · have e1:(k0==1)=false:=by rw [beq_eq_false_iff_ne];exact hk1
     have hoke:Hid (RowOk N (hs)):=hok.out
     have hIe:Hid (SInv w N OL bo bc bl bh 82 wc [rM N (hs),xM N (hs),((q:Nat):Int),((q:Nat):Int)] (hs) (vs)):=by
      skip
      have h:=hI1
      first | exact h | (simp only [Int.natCast_add,Int.natCast_one] at h ⊢;first | exact h | (refine cast ?_ h;congr 2 <;> simp <;> omega))
     have hBe:=Hd bH1
     clear hselfh hK0h hok hsoh;go_wp2_with fail
     refine⟨⟨j+1,q,hs,vs,by first | rfl | (congr 1;omega) | go_num,by omega,by omega,hoke,hIe,hBe⟩,?_⟩
     simp [intOf]
     omega
end Go.Proofs.YtbaajjkopdjbgaaGreat
namespace Go.Proofs.YtbaajjkopdjbgaaGreat.rwRow
open Go.ChangeShapes Go.WideShapes Go.ChangeAt Go.RowKit Kv
set_option maxRecDepth 100000 in
theorem main (H:Type)(enc:TypeId × Value->H)(W:World)(base:Nat)(args:Array Value)(ds:List (DataW H))(p:List MemPlace)
  (hval:∀ (j:Nat) t v,Tryz.f11.params[j]?=some t->args[j]?=some v->Value.okWide Tryz.prog W .any base t v)
  (hA:DataW.TrodAll enc Tryz.prog W 0 (fun _=>true) true Tryz.f11.params.toList args.toList ds p)(_hL:laidMetH Tryz.prog Rows.rwRowRow.laid W) :
  Calls Tryz.prog 11 args W fun e w'=>e=.returned (.bool true)/\Ext W w':=by
 rw [Tryz.params11] at hA hval
 obtain⟨v0,vs0,d0,ds0,p0,q0,hargs,rfl,rfl,h0,r0⟩:=trodAll_cons hA
 obtain⟨v1,vs1,d1,ds1,p1,q1,rfl,rfl,rfl,h1,r1⟩:=trodAll_cons r0
 obtain⟨rfl,rfl,rfl⟩:=trodAll_nil r1
 obtain rfl:args=#[v0,v1]:=by cases args;simp_all
 obtain⟨s,rfl,rfl,rfl,ws⟩:=open_int Tryz.underlying5 (hval 0 5 v0 rfl rfl) h0
 have hs:=bounds_u8 ws
 obtain⟨La,hLa,hLb⟩:=bytes_arg (hval 1 54 v1 rfl rfl) h1
 obtain⟨n,rfl⟩:∃ n:Nat,s=(n:Int):=⟨s.toNat,by omega⟩
 exact rwrow_walk n v1 La W (by omega) hLa hLb
end Go.Proofs.YtbaajjkopdjbgaaGreat.rwRow
namespace Go.Proofs.YtbaajjkopdjbgaaGreat.rwRow
open Go.ChangeShapes Go.WideShapes Go.ChangeAt Go.RowKit
theorem laidOut:laidOutB Tryz.prog=true:=by kernel_rfl
set_option maxRecDepth 100000 in
theorem contract (H:Type)(enc:TypeId × Value->H)(W:World)(base:Nat)(args:Array Value)(ds gs:List (DataW H))(before:List MemPlace)
  (hval:∀ (j:Nat) t v,Tryz.f11.params[j]?=some t->args[j]?=some v->Value.okWide Tryz.prog W .any base t v)
  (hW:DataW.Whole enc Tryz.prog Tryz.f11.params.toList Rows.rwRowSpec.vars false W args.toList ds gs before)(hL:laidMetH Tryz.prog Rows.rwRowRow.laid W) :
  Calls Tryz.prog 11 args W fun e W'=>∃ v,e=.returned v/\Rows.rwRowSpec.post enc Tryz.prog Tryz.f11 false true false false W args v W':=by
 refine (main H enc W base args ds before hval (by obtain⟨p,q,hA,hV,hpq,_,_⟩:=hW;obtain⟨_,rfl⟩:=trodVars_none hV;rw [List.append_nil] at hpq;subst hpq;exact hA) hL).mono fun e W' ⟨he,hg⟩=>⟨_,he,?_⟩
 refine law_post (tb:=4) laidOut ?_ (by kernel_rfl) Tryz.underlying4 rfl ?_ hW hg
 · rw [Tryz.params11]
   intro t ht
   simp only [List.mem_cons,List.not_mem_nil,or_false] at ht
   rcases ht with rfl | rfl <;> exact⟨by kernel_rfl,of_decide_eq_true (by kernel_rfl)⟩
 · intro ds hl
   rw [Tryz.params11] at hl
   match ds,hl with
   | [d0,d1],_=>rfl
set_option maxRecDepth 100000 in
theorem laid_met (os:Os):laidMet Tryz.prog Rows.rwRowRow.laid (((World.holding Tryz.prog os ⟨#[],#[],[]⟩)).forCall (fun _ _=>0) ⟨#[],#[.int .u8 0,.slice none 0 0],[]⟩).memory :=
 laidMet_of_run' 8 (by kernel_rfl) (by kernel_rfl)
set_option maxRecDepth 100000 in
theorem reads (os:Os){H:Type}(enc:TypeId × Value->H):∃ places,DataW.whole enc Tryz.prog (((World.holding Tryz.prog os ⟨#[],#[],[]⟩)).forCall (fun _ _=>0) ⟨#[],#[.int .u8 0,.slice none 0 0],[]⟩).memory Tryz.f11.params.toList Rows.rwRowSpec.vars false (#[.int .u8 0,.slice none 0 0]:Array Value).toList 8=some ([.lit (.int .u8 0),.nil],[],places) :=
 ⟨[],by kernel_rfl⟩
set_option maxRecDepth 100000 in
theorem lifted (os:Os)(started:os.Started)(H:Type)(enc:TypeId × Value->H)(F:Stop.Interp) :
  ReturnsInHanded {} Tryz.checked os 11 .any ((OpenSpec.ofChange Rows.rwRowSpec).preRow enc Tryz.prog Tryz.f11 Rows.rwRowRow.domain false Rows.rwRowRow.laid) (((OpenSpec.ofChange Rows.rwRowSpec).at F).post enc Tryz.prog Tryz.f11 false true false false):=by
 obtain⟨places,hx⟩:=reads os enc
 refine returnsInHanded_of_row (C:=Tryz.checked) (s:=(OpenSpec.ofChange Rows.rwRowSpec)) own started (by kernel_rfl) Tryz.func11
  (witness_row_at (enc:=enc) (C:=Tryz.checked) false (World.holding Tryz.prog os ⟨#[],#[],[]⟩) #[.int .u8 0,.slice none 0 0] rfl (by kernel_rfl) (by kernel_rfl) (by kernel_rfl)
    (OpenSpec.preRow_of_cond 8 hx (by kernel_rfl) (fun k hk=>by cases hk) (by kernel_rfl) (laid_met os))) ?_
 intro W base args ds gs before hval hW _ _ _ hL _ _
 exact contract H enc W base args ds gs before hval hW hL
theorem c1:(Rows.rwRowRow.inPlace==Tryz.pinned.checked.prog.inPlace 11)=true:=by kernel_rfl
theorem c2:(Rows.rwRowRow.unfollowed==Tryz.pinned.checked.prog.unfollowed 11)=true:=by kernel_rfl
theorem c3:(Rows.rwRowRow.recurses==Tryz.pinned.checked.prog.recurses 11)=true:=by kernel_rfl
theorem c4:(Rows.rwRowRow.named==Tryz.pinned.checked.prog.varsNamed 11)=true:=by kernel_rfl
theorem closed:joinedFacts Tryz.pinned.checked.prog 11 Tryz.f11 (OpenSpec.ofChange Rows.rwRowSpec).bare Rows.rwRowRow=true:=by
 unfold joinedFacts
 simp only [Bool.and_eq_true]
 repeat' refine And.intro ?_ ?_
 all_goals first | with_reducible exact c1 | with_reducible exact c2 | with_reducible exact c3 | with_reducible exact c4 | kernel_rfl
theorem said:Rows.RwRowSaid :=
 OpenClaim.holds_of_cond 11 Tryz.f11 rfl rfl rfl rfl rfl rfl rfl ⟨rfl,rfl,rfl,rfl,rfl⟩ rfl rfl rfl rfl rfl (by kernel_rfl) Tryz.func11 closed
  (of_decide_eq_true (by kernel_rfl)) (by unfold Func.isWrapper;first | (rw [if_pos (by decide +kernel)];kernel_rfl) | (rw [if_neg (by decide +kernel)];exact⟨rfl,rfl⟩))
  (fun os started H enc _ F=>by rw [OpenClaim.pre_eq_preRow];exact lifted os started H enc F)
end Go.Proofs.YtbaajjkopdjbgaaGreat.rwRow
