/-
  RegCostsSaid: part 3 of its proof.
-/
import Derived.Test.YtchahoiainbcaaaJRegCostsSaid2
import Derived.Maps.AppendAt
import Derived.Defers
import Derived.Recover
import Derived.LaidEqlPtr
import Derived.Deep.RegionHeld3
import Derived.Deep.QuietTactic
import Derived.BigQuiet
import Derived.ProofKit
import Derived.OpenShut
import Derived.Deep.DeepHandedRow
import Derived.WideKeyArgs
import Derived.Carry
import Derived.ChangeSame
import Derived.Lib.SmallJoins
import Derived.Test.YtchahoiainbcaaaRows
import Derived.Deep.DeepCutAuto
import Derived.Deep.RegionHeld2
namespace Go.Proofs.Ytchahoiainbcaaa
open Go.RowKit Kv
set_option maxRecDepth 100000 in
set_option maxHeartbeats 4000000 in
theorem costs_p (r:Reg)(w:World)(h:Fine7 r):Calls Try.prog 6 #[encR r] w fun e w'=>e=.returned (.tuple #[.int .i64 (costW7 r),.int .i64 (costR7 r)])/\Ext w w':=by
 have hC:=fun w=>cells7_p r w h
 obtain⟨hk,hb,hl,hn,hw⟩:=h
 have hm:=mostT_bd r.top
 obtain⟨kind,base,loc,n,wr,rd,top⟩:=r
 simp only at hk hb hl hn hw hm
 unfold encR at hC ⊢
 simp only at hC
 clear hb hl hw
 have hX:=Ext.refl w
 have b1:=Blk.new w (.cells #[.int .i64 kind,.int .i64 base,.int .i64 loc,.int .i64 n,.int .i64 wr,.int .i64 rd,.int .i64 top] 23)
 replace hX:=hX.alloc (.cells #[.int .i64 kind,.int .i64 base,.int .i64 loc,.int .i64 n,.int .i64 wr,.int .i64 rd,.int .i64 top] 23)
 have c_b1:=b1.cells
 have hn8:n=1∨n=2∨n=3∨n=4∨n=5∨n=6∨n=7∨n=8:=by omega
 rcases hk with rfl | rfl | rfl | rfl | rfl | rfl | rfl
 · clear hC
   go_enter Try.func6,Try.ntmps6
   go_wp2_with fail
   go_ret2
   exact⟨rfl,hX⟩
 · clear hC
   go_enter Try.func6,Try.ntmps6
   go_wp2_with fail
   go_ret2
   exact⟨rfl,hX⟩
 · have e1:cells7 ⟨3,base,loc,n,wr,rd,top⟩=mostT top+1:=rfl
   rw [e1] at hC
   have e2:((costW7 ⟨3,base,loc,n,wr,rd,top⟩:Nat):Int)=mostT top+1:=by show (((mostT top+1).toNat:Nat):Int)=_;omega
   have e3:((costR7 ⟨3,base,loc,n,wr,rd,top⟩:Nat):Int)=mostT top+1:=by show (((mostT top+1).toNat:Nat):Int)=_;omega
   rw [e2,e3]
   clear e1 e2 e3 hn8
   go_enter Try.func6,Try.ntmps6
   go_wp2_with fail
   refine (hC _).mono ?_
   rintro e w2 ⟨rfl,hx⟩
   clear c_b1
   replace b1:=b1.ext hx
   have c_b1:=b1.cells
   replace hX:=hX.trans hx
   clear hx
   go_wp2_with fail
   go_ret2
   exact⟨rfl,hX⟩
 · clear hC
   go_enter Try.func6,Try.ntmps6
   go_wp2_with fail
   go_ret2
   exact⟨rfl,hX⟩
 · clear hC
   go_enter Try.func6,Try.ntmps6
   go_wp2_with fail
   go_ret2
   exact⟨rfl,hX⟩
 · clear hC
   rcases hn8 with rfl | rfl | rfl | rfl | rfl | rfl | rfl | rfl
   · have hm8:max (1:Int) (min 1 8)=1:=by decide
     have hm9:max (0:Int) (1-1-1)=0:=by decide
     go_enter Try.func6,Try.ntmps6
     go_wp2_with fail
     go_ret2
     exact⟨rfl,hX⟩
   · have hm8:max (1:Int) (min 2 8)=2:=by decide
     have hm9:max (0:Int) (2-1-1)=0:=by decide
     go_enter Try.func6,Try.ntmps6
     go_wp2_with fail
     go_ret2
     exact⟨rfl,hX⟩
   · have hm8:max (1:Int) (min 3 8)=3:=by decide
     have hm9:max (0:Int) (3-1-1)=1:=by decide
     go_enter Try.func6,Try.ntmps6
     go_wp2_with fail
     go_ret2
     exact⟨rfl,hX⟩
   · have hm8:max (1:Int) (min 4 8)=4:=by decide
     have hm9:max (0:Int) (4-1-1)=2:=by decide
     go_enter Try.func6,Try.ntmps6
     go_wp2_with fail
     go_ret2
     exact⟨rfl,hX⟩
   · have hm8:max (1:Int) (min 5 8)=5:=by decide
     have hm9:max (0:Int) (5-1-1)=3:=by decide
     go_enter Try.func6,Try.ntmps6
     go_wp2_with fail
     go_ret2
     exact⟨rfl,hX⟩
   · have hm8:max (1:Int) (min 6 8)=6:=by decide
     have hm9:max (0:Int) (6-1-1)=4:=by decide
     go_enter Try.func6,Try.ntmps6
     go_wp2_with fail
     go_ret2
     exact⟨rfl,hX⟩
   · have hm8:max (1:Int) (min 7 8)=7:=by decide
     have hm9:max (0:Int) (7-1-1)=5:=by decide
     go_enter Try.func6,Try.ntmps6
     go_wp2_with fail
     go_ret2
     exact⟨rfl,hX⟩
   · have hm8:max (1:Int) 8=8:=by decide
     have hm9:max (0:Int) (8-1-1)=6:=by decide
     go_enter Try.func6,Try.ntmps6
     go_wp2_with fail
     go_ret2
     exact⟨rfl,hX⟩
 · clear hC
   rcases hn8 with rfl | rfl | rfl | rfl | rfl | rfl | rfl | rfl
   · have hm8:max (1:Int) (min 1 8)=1:=by decide
     have hm9:max (0:Int) (1-1-1)=0:=by decide
     go_enter Try.func6,Try.ntmps6
     go_wp2_with fail
     go_ret2
     exact⟨rfl,hX⟩
   · have hm8:max (1:Int) (min 2 8)=2:=by decide
     have hm9:max (0:Int) (2-1-1)=0:=by decide
     go_enter Try.func6,Try.ntmps6
     go_wp2_with fail
     go_ret2
     exact⟨rfl,hX⟩
   · have hm8:max (1:Int) (min 3 8)=3:=by decide
     have hm9:max (0:Int) (3-1-1)=1:=by decide
     go_enter Try.func6,Try.ntmps6
     go_wp2_with fail
     go_ret2
     exact⟨rfl,hX⟩
   · have hm8:max (1:Int) (min 4 8)=4:=by decide
     have hm9:max (0:Int) (4-1-1)=2:=by decide
     go_enter Try.func6,Try.ntmps6
     go_wp2_with fail
     go_ret2
     exact⟨rfl,hX⟩
   · have hm8:max (1:Int) (min 5 8)=5:=by decide
     have hm9:max (0:Int) (5-1-1)=3:=by decide
     go_enter Try.func6,Try.ntmps6
     go_wp2_with fail
     go_ret2
     exact⟨rfl,hX⟩
   · have hm8:max (1:Int) (min 6 8)=6:=by decide
     have hm9:max (0:Int) (6-1-1)=4:=by decide
     go_enter Try.func6,Try.ntmps6
     go_wp2_with fail
     go_ret2
     exact⟨rfl,hX⟩
   · have hm8:max (1:Int) (min 7 8)=7:=by decide
     have hm9:max (0:Int) (7-1-1)=5:=by decide
     go_enter Try.func6,Try.ntmps6
     go_wp2_with fail
     go_ret2
     exact⟨rfl,hX⟩
   · have hm8:max (1:Int) 8=8:=by decide
     have hm9:max (0:Int) (8-1-1)=6:=by decide
     go_enter Try.func6,Try.ntmps6
     go_wp2_with fail
     go_ret2
     exact⟨rfl,hX⟩
theorem slocals7_p (r:Reg)(w:World)(h:Fine7 r):Calls Try.prog 14 #[encR r] w fun e w'=>e=.returned (.int .i64 (locals7 r))/\Ext w w':=by
 by_cases h1:r.kind=1∨r.kind=6∨r.kind=7
 · rw [<- locals7_eq h1 h.n.1]
   exact locals_p r w h1 h.n
 have hk2:r.kind=2∨r.kind=3∨r.kind=4∨r.kind=5:=by have:=h.kind;omega
 clear h h1
 have hm:=mostT_bd r.top
 obtain⟨kind,base,loc,n,wr,rd,top⟩:=r
 simp only at hk2 hm
 unfold encR locals7
 simp only
 have hst:∀ w,Calls Try.prog 41 #[] w fun e w'=>e=.returned (.int .i64 1)/\w=w':=by
  intro w
  go_enter Try.func41,Try.ntmps41
  go_wp2_with fail
  go_ret
  exact⟨rfl,rfl⟩
 have hun:∀ w,Calls Try.prog 42 #[.int .i64 top] w fun e w'=>e=.returned (.int .i64 (mostT top+1))/\w=w':=by
  intro w
  go_enter Try.func42,Try.ntmps42
  go_wp2_with fail
  refine (umost_p top _).mono ?_
  rintro e w' ⟨rfl,rfl⟩
  go_wp2_with fail
  refine (hst _).mono ?_
  rintro e w' ⟨rfl,rfl⟩
  go_wp2_with fail
  go_ret
  exact⟨ret_int (by show _=_;omega),rfl⟩
 have hX:=Ext.refl w
 have b1:=Blk.new w (.cells #[.int .i64 kind,.int .i64 base,.int .i64 loc,.int .i64 n,.int .i64 wr,.int .i64 rd,.int .i64 top] 23)
 replace hX:=hX.alloc (.cells #[.int .i64 kind,.int .i64 base,.int .i64 loc,.int .i64 n,.int .i64 wr,.int .i64 rd,.int .i64 top] 23)
 have c_b1:=b1.cells
 rcases hk2 with rfl | rfl | rfl | rfl
 · go_enter Try.func14,Try.ntmps14
   go_wp2_with fail
   refine (hst _).mono ?_
   rintro e w' ⟨rfl,rfl⟩
   go_wp2_with fail
   go_ret
   exact⟨rfl,hX⟩
 · go_enter Try.func14,Try.ntmps14
   go_wp2_with fail
   refine (hun _).mono ?_
   rintro e w' ⟨rfl,rfl⟩
   go_wp2_with fail
   go_ret
   exact⟨rfl,hX⟩
 · go_enter Try.func14,Try.ntmps14
   go_wp2_with fail
   refine (trlocals_p _).mono ?_
   rintro e w' ⟨rfl,rfl⟩
   go_wp2_with fail
   go_ret
   exact⟨rfl,hX⟩
 · go_enter Try.func14,Try.ntmps14
   go_wp2_with fail
   refine (slocals_p _).mono ?_
   rintro e w' ⟨rfl,rfl⟩
   go_wp2_with fail
   go_ret
   exact⟨rfl,hX⟩
theorem rcl1 (B p:Nat)(S:TS)(bn bt bv:Nat)(r:Reg)(t v:Int)(w:World)(h:Plays B w p S)(hr:Fine7 r)(ht:0<=t/\t<r.n)(c_0:∀ i,w.cell? ⟨bn,i,none⟩=(#[.int .i64 r.kind,.int .i64 r.base,.int .i64 r.loc,.int .i64 r.n,.int .i64 r.wr,.int .i64 r.rd,.int .i64 r.top]:Array Value)[i]?)(c_1:w.cell? ⟨bt,0,none⟩=some (.int .i64 t))(c_2:w.cell? ⟨bv,0,none⟩=some (.int .i64 v)) :
  Calls Try.prog 9 #[.pointer (some ⟨p,0,none⟩),.pointer (some ⟨bn,0,none⟩),.pointer (some ⟨bt,0,none⟩),.pointer (some ⟨bv,0,none⟩)] w (Post encI B p w (((regW7 r t v).bind fun _=>Prog.ret (0:Int)).run S)):=by
 have hq:=reg_write7_p B p S r t v w h hr ht
 generalize hR:Post encI B p w (((regW7 r t v).bind fun _=>Prog.ret (0:Int)).run S)=R
 have hO:Owes R encI B p w (((regW7 r t v).bind fun _=>Prog.ret (0:Int)).run S):=hR▸owes _ _ _ _ _
 clear hR
 have hK:=Keep.refl [2,3,4] B p w
 unfold encR at hq
 go_enter Try.func9,Try.ntmps9
 go_wp2_with fail
 clear c_0 c_1 c_2
 refine tstep hO hK hq (fun _ h=>⟨rfl,h⟩) ?_
 intro u S1 w1 hr hP1 hk1 hK1 hO1
 have hf:=Owes.done (v:=(0:Int)) hO1 hP1 hK1
 clear hO1 hP1 hK1 hr hk1 hO h hK hq
 go_wp2_with fail
 first | exact hf | (go_ret;exact hf)
theorem rcl2 (B p:Nat)(S:TS)(bn bt:Nat)(r:Reg)(t:Int)(w:World)(h:Plays B w p S)(hr:Fine7 r)(ht:0<=t/\t<r.n)(c_0:∀ i,w.cell? ⟨bn,i,none⟩=(#[.int .i64 r.kind,.int .i64 r.base,.int .i64 r.loc,.int .i64 r.n,.int .i64 r.wr,.int .i64 r.rd,.int .i64 r.top]:Array Value)[i]?)(c_1:w.cell? ⟨bt,0,none⟩=some (.int .i64 t)) :
  Calls Try.prog 11 #[.pointer (some ⟨p,0,none⟩),.pointer (some ⟨bn,0,none⟩),.pointer (some ⟨bt,0,none⟩)] w (Post encI B p w ((regR7 r t).run S)):=by
 have hq:=reg_read7_p B p S r t w h hr ht
 generalize hR:Post encI B p w ((regR7 r t).run S)=R
 have hO:Owes R encI B p w ((regR7 r t).run S):=hR▸owes _ _ _ _ _
 clear hR
 have hK:=Keep.refl [2,3,4] B p w
 unfold encR at hq
 go_enter Try.func11,Try.ntmps11
 go_wp2_with fail
 clear c_0 c_1
 refine tlast hO hK hq (fun _ h=>⟨rfl,h⟩) ?_
 intro v S1 w1 hr hP1 hk1 hK1 hO1
 have hf:=hO1.done hP1 hK1
 clear hO1 hP1 hK1 hr hk1 hO h hK hq
 go_wp2_with fail
 first | exact hf | (go_ret;exact hf)
theorem ral1 (B p:Nat)(S:TS)(w:World)(h:Plays B w p S):Calls Try.prog 18 #[.pointer (some ⟨p,0,none⟩)] w (Post encI B p w ((Kv.rd 4).run S)):=by
 have hrr:∀ W,Plays B W p S->Calls Try.prog 12 #[.pointer (some ⟨p,0,none⟩),.agg #[.int .i64 1,.int .i64 4,.int .i64 0,.int .i64 0,.int .i64 0,.int .i64 0,.int .i64 0],.int .i64 0] W (Post encI B p W ((Kv.rd 4).run S)):=by
  intro w h
  generalize hR:Post encI B p w ((Kv.rd 4).run S)=R
  have hO:Owes R encI B p w ((Kv.rd 4).run S):=hR▸owes _ _ _ _ _
  clear hR
  obtain⟨b1,hK,hP⟩:=h.entry (.cells #[.int .i64 1,.int .i64 4,.int .i64 0,.int .i64 0,.int .i64 0,.int .i64 0,.int .i64 0] 23)
  have c_b1:=b1.cells
  clear h
  go_enter Try.func12,Try.ntmps12
  go_wp2_with fail
  refine tlast hO hK (read_p B p S _ _ hP) (fun _ h=>⟨rfl,h⟩) ?_
  clear hO hK hP c_b1
  intro x S w1 hr hP hk hK hO
  replace b1:=b1.keep hk
  have c_b1:=b1.cells
  clear hk hr
  go_wp2_with fail
  exact hO.done hP hK
 generalize hR:Post encI B p w ((Kv.rd 4).run S)=R
 have hO:Owes R encI B p w ((Kv.rd 4).run S):=hR▸owes _ _ _ _ _
 clear hR
 have hK:=Keep.refl [2,3,4] B p w
 go_enter Try.func18,Try.ntmps18
 go_wp2_with fail
 refine tlast hO hK (hrr _ h) (fun _ h=>⟨rfl,h⟩) ?_
 intro v S1 w1 hr hP1 hk1 hK1 hO1
 have hf:=hO1.done hP1 hK1
 clear hO1 hP1 hK1 hr hk1 hO h hK
 go_wp2_with fail
 first | exact hf | (go_ret;exact hf)
set_option maxRecDepth 100000 in
theorem append_all {ops:Array Oper}{rest:List Oper}{o:Oper}{a:Act}{Q:Exit->Act->World->Prop}{w:World}(hgd:o.guard=none)(s x:Operand)
  (ho:o.op=.call { callee:=.builtin .append,args:=#[s,x],argTypes:=#[24,24] })
  (ad:Addr)(c:Nat)(L:List Int)(hL:Ints w (.slice (some ad) L.length c) L)(hs:a.eval s=.slice (some ⟨w.heap.size,0,none⟩) 0 0)(hx:a.eval x=.slice (some ad) L.length c)
  (hlen:L.length<1000000)
  (h:∀ v' w',IntRow w' w.heap.size v' L->Ext w w'->wpList Try.prog ops Q rest (a.put o.dst v') w') :
  wpList Try.prog ops Q (o :: rest) a (w.alloc (.cells #[] 3)):=by
 obtain⟨i0,hi,hz0,hz1,hz2⟩:=info_parts info_int
 have hown:(w.alloc (.cells #[] 3)).ownsRow w.heap.size 3 1 (.slice (some ⟨w.heap.size,0,none⟩) 0 0) 0 [] :=
  ⟨rfl,.inr ⟨w.heap.size,0,#[],rfl,Nat.le_refl _,heap_alloc_new _ _,Nat.le_refl _,Nat.zero_le _,rfl,rfl⟩⟩
 refine wpList_append_own_at _ hgd s x 24 ho w.heap.size 3 i0 (.int .i64 0) 1 8 Try.underlying24 hi hz0 hz1 hz2 rfl (by decide) _ 0 [] hs hown ad L.length c (L.map (Value.int .i64)) hx (by simp) ?_ (by simp [Value.oneCell']) (by unfold maxLen;omega) (by omega) (by simp) fun v' w' h1 h2 _ _=>?_
 · intro j u hu
   obtain⟨A',c',he,_,_,h3⟩:=hL.ext ((Ext.refl w).alloc (.cells #[] 3))
   rw [List.getElem?_map] at hu
   cases hj:L[j]? with
   | none=>rw [hj] at hu;cases hu
   | some y =>
     rw [hj] at hu
     obtain⟨b,off,rfl,_,hc⟩:=h3 (fun e=>by rw [e] at hj;cases hj)
     injection he with e1 e2 e3
     injection e1 with e1
     subst e1
     rw [Addr.add_lit]
     rw [hc j y hj]
     simpa using hu
 · rw [List.nil_append,Nat.zero_add] at h1
   exact h v' w' h1 (Below.grown ((Ext.refl w).alloc (.cells #[] 3)) h2 (by simp) (fun k hk=>by simp [Value.ownBlock] at hk;omega))
set_option maxRecDepth 100000 in
theorem clone_x (a:Addr)(c:Nat)(L:List Int)(w:World)(h:Ints w (.slice (some a) L.length c) L)(hl:L.length<1000000) :
  Calls Try.prog 23 #[.slice (some a) L.length c] w fun e w'=>∃ v',e=.returned v'/\IntRow w' w.heap.size v' L/\Ext w w':=by
 have hcmp:∀ (n:Nat) (w:World),(binOp .eql 24 (.slice (some a) n c) (.slice none 0 0)).run Try.prog w=.ok (.bool false) w:=fun _ _=>rfl
 go_enter Try.func23,Try.ntmps23
 go_wp2_with (at_builtin;refine append_all rfl _ _ rfl a c L h rfl rfl hl ?_)
 intro v' w' h1 h2
 go_wp2_with fail
 go_ret
 exact⟨v',rfl,h1,h2⟩
set_option maxRecDepth 100000 in
theorem clone_nil (c:Nat)(w:World):Calls Try.prog 23 #[.slice none 0 c] w fun e w'=>e=.returned (.slice none 0 0)/\w=w':=by
 have hcmp:∀ (n:Nat) (w:World),(binOp .eql 24 (.slice none n c) (.slice none 0 0)).run Try.prog w=.ok (.bool true) w:=fun _ _=>rfl
 go_enter Try.func23,Try.ntmps23
 go_wp2_with fail
 go_ret
 exact⟨rfl,rfl⟩
theorem clone_any (A:Option Addr)(c:Nat)(L:List Int)(w:World)(h:Ints w (.slice A L.length c) L)(hl:L.length<1000000) :
  Calls Try.prog 23 #[.slice A L.length c] w fun e w'=>∃ v',e=.returned v'/\IntRow w' w.heap.size v' L/\Ext w w':=by
 cases A with
 | some a=>exact clone_x a c L w h hl
 | none =>
   have hL:L=[]:=by
    obtain⟨A',c',he,_,_,h3⟩:=h
    by_cases e:L=[]
    · exact e
    · obtain⟨b,off,rfl,_⟩:=h3 e
      cases he
   subst hL
   refine (clone_nil c w).mono ?_
   rintro e w' ⟨rfl,rfl⟩
   exact⟨_,rfl,IntRow.nil _ _,Ext.refl _⟩
set_option maxRecDepth 100000 in
theorem tshort_p (A:Option Addr)(c:Nat)(L:List Int)(w:World)(h:Ints w (.slice A L.length c) L)(q1:L.length<=c)(_q2:c<=9223372036854775807)(_q3:L.length<1000000) :
  Calls Try.prog 25 #[.slice A L.length c] w fun e w'=>∃ v',e=.returned v'/\IntRow w' w.heap.size v' (shortL L)/\Ext w w':=by
 go_enter Try.func25,Try.ntmps25
 go_wp2_with fail
 go_loopw [3] (fun v wr=>∃ n:Nat,v=.int .i64 n/\n<=L.length/\Hid (shortN L n=shortN L L.length)/\w=wr) (fun v _=>(intOf v).toNat)
 case atStart=>exact⟨L.length,rfl,by omega,rfl,rfl⟩
 case round =>
  obtain⟨n,rfl,hn,hs,rfl⟩:=hrel
  have hlen:∀ m,m<=L.length->(L.take m).length=m:=fun m hm=>by rw [List.length_take];omega
  cases n with
  | zero =>
    have hf:L.take 0=shortL L:=by unfold shortL;rw [<- hs.out];rfl
    have hT:=clone_any A c (L.take 0) w (by have:=h.take 0 (by omega);rw [hlen 0 (by omega)];exact this) (by simp)
    rw [hlen 0 (by omega),hf] at hT
    clear hs h hf hlen
    go_wp2_with fail
    refine hT.mono ?_
    rintro e w1 ⟨v',rfl,h1,h2⟩
    go_wp2_with fail
    go_ret
    exact⟨v',rfl,h1,h2⟩
  | succ n =>
    obtain⟨b,off,rfl,hb,hcell⟩:=h.at_ (show n<L.length by omega)
    by_cases e:L.getD n 0=0
    · have hs2:Hid (shortN L n=shortN L L.length):=Lib.hid (by rw [<- hs.out];show _=(if L.getD n 0=0 then shortN L n else n+1);rw [if_pos e])
      rw [e] at hcell
      clear hs e h hlen
      go_wp2_with fail
      exact⟨⟨n,rfl,by omega,hs2,by trivial⟩,by simp [intOf]⟩
    · have e3:=Lib.hid (show shortN L L.length=n+1 from by rw [<- hs.out];show (if L.getD n 0=0 then shortN L n else n+1)=_;rw [if_neg e])
      have hf:L.take (n+1)=shortL L:=by unfold shortL;rw [e3.out]
      have hT:=clone_any (some ⟨b,off,none⟩) c (L.take (n+1)) w (by have:=h.take (n+1) (by omega);rw [hlen (n+1) (by omega)];exact this) (by rw [hlen (n+1) (by omega)];omega)
      rw [hlen (n+1) (by omega),hf] at hT
      have e2:(L.getD n 0==0)=false:=by rw [beq_eq_false_iff_ne];exact e
      generalize L.getD n 0=E at *
      clear hs e h hf hlen
      go_wp2_with fail
      refine hT.mono ?_
      rintro e w1 ⟨v',rfl,h1,h2⟩
      go_wp2_with fail
      go_ret
      exact⟨v',rfl,h1,h2⟩
structure Near (W:World) (b n:Nat) (t:TypeId) (w:World):Prop where
 os:w.os=W.os
 tape:w.tape=W.tape
 output:w.output=W.output
 size:W.heap.size<=w.heap.size
 rest:∀ k,k<W.heap.size->k≠b->w.heap[k]?=W.heap[k]?
 blk:∃ cs,w.heap[b]?=some (.cells cs t (0,0))/\cs.size=n
section
variable {W w w':World} {b n:Nat} {t:TypeId}
theorem Near.new {cs:Array Value}(h:W.heap[b]?=some (.cells cs t (0,0)))(hn:cs.size=n):Near W b n t W:=⟨rfl,rfl,rfl,Nat.le_refl _,fun _ _ _=>rfl,cs,h,hn⟩
theorem Near.ext (h:Near W b n t w)(hx:Ext w w'):Near W b n t w':=by
 obtain⟨cs,h1,h2⟩:=h.blk
 exact⟨hx.os.trans h.os,hx.tape.trans h.tape,hx.output.trans h.output,Nat.le_trans h.size hx.size,fun k hk hb=>(Below.block hx k (Nat.lt_of_lt_of_le hk h.size)).trans (h.rest k hk hb),cs,(Below.block hx b (Array.getElem?_eq_some_iff.1 h1).1).trans h1,h2⟩
theorem Near.drew (h:Near W b n t w):Near W b n t w.drew:=h.ext (Ext.refl w).drew
theorem Near.set (h:Near W b n t w)(i:Nat)(u:Value):Near W b n t (w.setCell ⟨b,i,none⟩ u):=by
 obtain⟨cs,h1,h2⟩:=h.blk
 refine⟨h.os,h.tape,h.output,by have:=h.size;simpa using this,fun k hk hb=>(heap_setCell_ne _ _ hb).trans (h.rest k hk hb),_,heap_setCell h1 u,by simpa using h2⟩
theorem Near.cell (h:Near W b n t w){k i:Nat}(hk:k<W.heap.size)(hb:k≠b):w.cell? ⟨k,i,none⟩=W.cell? ⟨k,i,none⟩:=World.cell?_of_block (w:=W) (a:=⟨k,i,none⟩) (h.rest k hk hb)
theorem Near.frozen (h:Near W b n t w)(i:Nat):w.frozen? ⟨b,i,none⟩=false:=by
 obtain⟨cs,h1,h2⟩:=h.blk
 exact frozen_of_heap h1 i
theorem Near.below {B:Nat}{w0:World}(h:Near W b n t w)(h0:Below B w0 W)(hb:B<=b)(hB:B<=W.heap.size):Below B w0 w :=
 h0.trans ⟨h.os,h.tape,h.output,h.size,fun k hk=>h.rest k (by omega) (by omega)⟩
def cellD (w:World) (b i:Nat):Value:=(w.cell? ⟨b,i,none⟩).getD undef
theorem Near.four (h:Near W b 4 t w):∀ i,w.cell? ⟨b,i,none⟩=(#[cellD w b 0,cellD w b 1,cellD w b 2,cellD w b 3]:Array Value)[i]?:=by
 obtain⟨cs,h1,h2⟩:=h.blk
 intro i
 have e:=cell_of_heap h1
 unfold cellD
 rw [e,e,e,e,e]
 match i with
 | 0=>simp [h2]
 | 1=>simp [h2]
 | 2=>simp [h2]
 | 3=>simp [h2]
 | i+4=>simp [h2]
theorem Near.five (h:Near W b 5 t w):∀ i,w.cell? ⟨b,i,none⟩=(#[cellD w b 0,cellD w b 1,cellD w b 2,cellD w b 3,cellD w b 4]:Array Value)[i]?:=by
 obtain⟨cs,h1,h2⟩:=h.blk
 intro i
 have e:=cell_of_heap h1
 unfold cellD
 rw [e,e,e,e,e,e]
 match i with
 | 0=>simp [h2]
 | 1=>simp [h2]
 | 2=>simp [h2]
 | 3=>simp [h2]
 | 4=>simp [h2]
 | i+5=>simp [h2]
end
def locOf (L:List Int) (i:Nat):Int:=L.getD i 0
def TS0 (L ans:List Int):TS:=⟨ans,[],[],locOf L⟩
@[go_sem] theorem build_out (x:Bool) (A1 A2 A3:Option Addr) (n1 n2 n3 c1 c2 c3:Nat) (w:World):(Instr.build 33 #[(0,.bool x),(1,.slice A1 n1 c1),(2,.slice A2 n2 c2),(3,.slice A3 n3 c3)]).run Try.prog w=.ok (.agg #[.bool x,.slice A1 n1 c1,.slice A2 n2 c2,.slice A3 n3 c3]) w:=run_build w 33 _ _ (by kernel_rfl)
@[go_sem] theorem as_stop (v:Value) (w:World):(Instr.typeAssert (.iface 51 v) 20 51 true).run Try.prog w=.ok (.tuple #[v,.bool true]) w:=by kernel_rfl
@[go_sem] theorem ne_mem (a:Addr) (w:World):(binOp .neq 36 (.pointer (some a)) (.pointer (some a))).run Try.prog w=.ok (.bool false) w:=by
 have hs:(Try.prog.info? 48).isSome=true:=by kernel_rfl
 obtain⟨j,hj⟩:=Option.isSome_iff_exists.1 hs
 have h:∀ d:Nat,(Op.equalIn (d+1) 36 (.pointer (some a)) (.pointer (some a))).run Try.prog w=.ok true w:=fun d=>by
  simp [Op.equalIn,run_underlying Try.underlying36,sizeOf,typeInfo,hj,run_sameAddr_same]
 simp only [binOp]
 simp [Op.equal,Op.maxDepth,h 9999]
section
variable {B p b bo:Nat} {w w' W:World} {S:TS} {st:Int} {vA vL vC vN vs:Value} {L:List Int}
theorem PMem.setO (h:PMem B w p S st vA vL vC vN L)(hn:¬ ownR [2,3,4] w p b)(hb:B<=b)(i:Nat)(u:Value):PMem B (w.setCell ⟨b,i,none⟩ u) p S st vA vL vC vN L:=by
 have hp:p≠b:=fun e=>hn (.inl e.symm)
 refine { h with heap:=(heap_setCell_ne _ _ hp).trans h.heap,ans:=ints_set h.ans _ _ ?_,rowL:=row_set h.rowL ?_,rowC:=row_set h.rowC ?_,rowN:=row_set h.rowN ?_ }
 · intro k hk e
   have:=h.ansB k hk
   simp only at e
   omega
 · exact fun e=>hn (ownR_at (i:=2) h.heap (by simp) rfl e)
 · exact fun e=>hn (ownR_at (i:=3) h.heap (by simp) rfl e)
 · exact fun e=>hn (ownR_at (i:=4) h.heap (by simp) rfl e)
theorem Held.setO {ix:List Nat}{k:Nat}{o:Obj}(h:Held ix w p k o)(hk:k≠b)(hn:¬ ownR ix w p b)(i:Nat)(u:Value):Held ix (w.setCell ⟨b,i,none⟩ u) p k o :=
 ⟨(heap_setCell_ne _ _ hk).trans h.1,fun h'=>h.2 ((ownR_same (heap_setCell_ne _ _ (fun e=>hn (.inl e.symm))) k).1 h')⟩
theorem end_out {d x0:Bool}{x1 x2 x3:Value}(HM:PMem B W p S st vA vL vC vN L)(ho:W.heap[bo]?=some (.cells #[.bool x0,x1,x2,x3] 33 (0,0)))(h2:Ext W w')(h1:IntRow w' W.heap.size vs (shortL L)) :
  ((((w'.setCell ⟨bo,0,none⟩ (.bool d)).setCell ⟨bo,1,none⟩ vC).setCell ⟨bo,2,none⟩ vN).setCell ⟨bo,3,none⟩ vs).heap[bo]?=some (.cells #[.bool d,vC,vN,vs] 33 (0,0)) /\
    Outs ((((w'.setCell ⟨bo,0,none⟩ (.bool d)).setCell ⟨bo,1,none⟩ vC).setCell ⟨bo,2,none⟩ vN).setCell ⟨bo,3,none⟩ vs) (.agg #[.bool d,vC,vN,vs]) d S:=by
 have hlt:=(Array.getElem?_eq_some_iff.1 ho).1
 have e0:=(Below.block h2 bo hlt).trans ho
 have rC:=row_ext HM.rowC h2
 have rN:=row_ext HM.rowN h2
 have nC:=row_not rC e0 (by decide)
 have nN:=row_not rN e0 (by decide)
 have hv:∀ k,vs.ownBlock=some k->k≠bo:=fun k hk=>by have:=(h1.lt k hk).1;omega
 have e4:=heap_setCell (i:=3) (heap_setCell (i:=2) (heap_setCell (i:=1) (heap_setCell (i:=0) e0 (.bool d)) vC) vN) vs
 refine⟨e4,outs_of (L:=L) (row_set (row_set (row_set (row_set rC nC) nC) nC) nC) (row_set (row_set (row_set (row_set rN nN) nN) nN) nN) (ints_set (ints_set (ints_set (ints_set h1.ints _ _ hv) _ _ hv) _ _ hv) _ _ hv) HM.loc HM.locN⟩
end
def EndAt (B:Nat) (w w':World) (bg bo:Nat) (v:Value) (d:Bool) (S:TS):Prop :=
 w'.heap[bg]?=some (.cells #[v] 3 (0,0))/\(∃ vC vN vs,w'.heap[bo]?=some (.cells #[.bool d,vC,vN,vs] 33 (0,0))/\Outs w' (.agg #[.bool d,vC,vN,vs]) d S)/\Below B w w'
set_option maxRecDepth 100000 in
set_option maxHeartbeats 1000000 in
theorem end_ok (B p:Nat)(S:TS)(bm bg bo:Nat)(v:Value)(w:World)(h:Plays B w p S)(hm:HeldP w p bm (.cells #[.pointer (some ⟨p,0,none⟩)] 36 (0,0)))(hg:HeldP w p bg (.cells #[v] 3 (0,0)))
  (ho:HeldP w p bo (.cells #[.bool false,.slice none 0 0,.slice none 0 0,.slice none 0 0] 33 (0,0)))(hB2:B<=bo) :
  CallsD Try.prog 24 #[.pointer (some ⟨bm,0,none⟩),.pointer (some ⟨bg,0,none⟩),.pointer (some ⟨bo,0,none⟩)] .returning w fun e u' w'=>e=.returned (.tuple #[])/\u'=.returning/\EndAt B w w' bg bo v true S:=by
 obtain⟨h1,vA,vL,vC,vN,L,h⟩:=h
 have hc:=cell_of_heap h.heap
 have hfz:=frozen_of_heap h.heap
 have cm:=hm.cells
 refine callsD_of_wpS Try.func24 rfl fun c₀ cs hu=>?_
 simp only [Try.ntmps24,List.size_toArray,List.length_cons,List.length_nil,Nat.reduceAdd,Nat.reduceSub,Array.replicate_succ,Array.replicate_zero,List.push_toArray,List.append_toArray,List.nil_append,List.cons_append]
 apply wpS_seq
 refine wpS_of_wp ?_
 go_wp2_with fail
 simp only [Exit.thenS]
 apply wpS_seq
 refine wpS_of_wp ?_
 go_wp2_with fail
 simp only [Exit.thenS]
 obtain⟨HM,HK⟩:=h.state 0
 have hmh:=Lib.hid (hm.keep HK)
 have hgh:=Lib.hid (hg.keep HK).1
 have hoh:=Lib.hid (ho.keep HK)
 have hq:=cell_of_heap HM.heap
 have cm2:=hmh.out.cells
 have HMh:=Lib.hid HM
 have hbel:=Lib.hid HK.below
 clear HM HK hc hfz cm hm hg ho h
 generalize w.setCell ⟨p,0,none⟩ (.int .i64 0)=W at *
 apply wpS_seq
 apply wpS_seq
 apply wpS_region
 simp [wpOpsS,go_sem,recoverD,hu,Exit.thenS]
 refine wpS_of_wp ?_
 go_wp2_with fail
 simp only [Exit.thenS]
 refine wpS_of_wp ?_
 go_wp2_with fail
 have hI:Ints W vL L:=IntRow.ints HMh.out.rowL
 obtain⟨Al,cl,rfl,q1,q2⟩:=hI.slice
 have hIh:=Lib.hid hI
 obtain⟨Ac,cc,rfl,-,-,-⟩:=vals_row HMh.out.rowC
 obtain⟨An,cn,rfl,-,-,-⟩:=vals_row HMh.out.rowN
 have hlen:=HMh.out.locN
 have hplt:=HMh.out.lt
 have hmlt:=hmh.out.lt
 clear hI
 have hpo:p≠bo:=fun e=>hoh.out.2 (.inl e.symm)
 have hmo:bm≠bo:=fun e=>by
  have h1:=hmh.out.1
  rw [e,hoh.out.1] at h1
  injection h1 with h1
  injection h1 with _ h2
  cases h2
 have hlo:(Value.slice Al L.length cl).ownBlock≠some bo:=row_not HMh.out.rowL hoh.out.1 (by decide)
 have hS:∀ w',Near W bo 4 33 w'->((∀ i,w'.cell? ⟨p,i,none⟩=(#[.int .i64 0,vA,.slice Al L.length cl,.slice Ac S.acc.length cc,.slice An S.nts.length cn]:Array Value)[i]?)/\(∀ i,w'.cell? ⟨bm,i,none⟩=(#[.pointer (some ⟨p,0,none⟩)]:Array Value)[i]?)/\(∀ i,w'.cell? ⟨bo,i,none⟩=(#[cellD w' bo 0,cellD w' bo 1,cellD w' bo 2,cellD w' bo 3]:Array Value)[i]?)/\(∀ i,w'.frozen? ⟨bo,i,none⟩=false)/\Near W bo 4 33 w'):=fun w' hx =>
  ⟨fun i=>(hx.cell hplt hpo).trans (hq i),fun i=>(hx.cell hmlt hmo).trans (cm2 i),hx.four,hx.frozen,hx⟩
 have hN:Near W bo 4 33 W:=Near.new hoh.out.1 rfl
 go_region_held2 (fun w'=>(∀ i,w'.cell? ⟨p,i,none⟩=(#[.int .i64 0,vA,.slice Al L.length cl,.slice Ac S.acc.length cc,.slice An S.nts.length cn]:Array Value)[i]?)/\(∀ i,w'.cell? ⟨bm,i,none⟩=(#[.pointer (some ⟨p,0,none⟩)]:Array Value)[i]?)/\(∀ i,w'.cell? ⟨bo,i,none⟩=(#[cellD w' bo 0,cellD w' bo 1,cellD w' bo 2,cellD w' bo 3]:Array Value)[i]?)/\(∀ i,w'.frozen? ⟨bo,i,none⟩=false)/\Near W bo 4 33 w') (first | exact hS _ hN.drew | (refine hS _ ?_;(repeat refine Near.set ?_ _ _);exact hN.drew.ext h2))
  (first
    | (go_at_call 25
       refine (tshort_p Al cl L _ (hIh.out.ext (Ext.refl W).drew) q1 q2 (by omega)).mono ?_
       rintro e w' ⟨v',rfl,h1,h2⟩
       obtain⟨As,cs,rfl,hs1,hs2⟩:=h1.ints.slice))
 obtain⟨f1,f2⟩:=end_out (d:=true) HMh.out hoh.out.1 ((Ext.refl W).drew.trans h2) h1
 have fg:bg≠bo:=fun e=>by
  have h1:=hgh.out
  rw [e,hoh.out.1] at h1
  injection h1 with h1
  injection h1 with _ h2
  cases h2
 refine⟨rfl,FrameMode.returning,(by cases c₀;simp only at hu;subst hu;rfl),.tuple #[],(by simp [results,Try.results24,go_sem]),rfl,rfl,?_,⟨_,_,_,f1,f2⟩,?_⟩
 · rw [heap_setCell_ne _ _ fg,heap_setCell_ne _ _ fg,heap_setCell_ne _ _ fg,heap_setCell_ne _ _ fg]
   exact (Below.block ((Ext.refl W).drew.trans h2) bg (Array.getElem?_eq_some_iff.1 hgh.out).1).trans hgh.out
 · exact ((((hN.drew.ext h2).set _ _).set _ _).set _ _ |>.set _ _).below hbel.out hB2 (by have:=HMh.out.ge;omega)
set_option maxRecDepth 100000 in
set_option maxHeartbeats 1000000 in
theorem end_stop (B p:Nat)(S:TS)(bm bg bo:Nat)(v:Value)(older:List PanicEntry)(w:World)(h:Stops B w p S)(hm:HeldP w p bm (.cells #[.pointer (some ⟨p,0,none⟩)] 36 (0,0)))(hg:HeldP w p bg (.cells #[v] 3 (0,0)))
  (ho:HeldP w p bo (.cells #[.bool false,.slice none 0 0,.slice none 0 0,.slice none 0 0] 33 (0,0)))(hB1:B<=bg)(hB2:B<=bo) :
  CallsD Try.prog 24 #[.pointer (some ⟨bm,0,none⟩),.pointer (some ⟨bg,0,none⟩),.pointer (some ⟨bo,0,none⟩)] (.panicking ({ v:=.iface 51 (.agg #[.pointer (some ⟨p,0,none⟩)]),recovered:=false } :: older)) w fun e u' w' =>
   e=.returned (.tuple #[])/\u'=.panicking ({ v:=.iface 51 (.agg #[.pointer (some ⟨p,0,none⟩)]),recovered:=true } :: older)/\EndAt B w w' bg bo (.int .i64 0) false S:=by
 obtain⟨vA,vL,vC,vN,L,h⟩:=h
 have hc:=cell_of_heap h.heap
 have hfz:=frozen_of_heap h.heap
 have cm:=hm.cells
 refine callsD_of_wpS Try.func24 rfl fun c₀ cs hu=>?_
 simp only [Try.ntmps24,List.size_toArray,List.length_cons,List.length_nil,Nat.reduceAdd,Nat.reduceSub,Array.replicate_succ,Array.replicate_zero,List.push_toArray,List.append_toArray,List.nil_append,List.cons_append]
 apply wpS_seq
 refine wpS_of_wp ?_
 go_wp2_with fail
 simp only [Exit.thenS]
 apply wpS_seq
 refine wpS_of_wp ?_
 go_wp2_with fail
 simp only [Exit.thenS]
 obtain⟨HM,HK⟩:=h.state 0
 have hm2:=hm.keep HK
 have hg2:=hg.keep HK
 have ho2:=ho.keep HK
 clear hc hfz cm hm hg ho h
 generalize w.setCell ⟨p,0,none⟩ (.int .i64 0)=W0 at *
 have hX:=(Ext.refl W0).alloc (.cells #[.agg #[.pointer (some ⟨p,0,none⟩)]] 51)
 have hq0:=cell_of_heap HM.heap
 have cm0:=hm2.cells
 have hqa:Hid (∀ O,∀ i,(W0.alloc O).cell? ⟨bm,i,none⟩=(#[.pointer (some ⟨p,0,none⟩)]:Array Value)[i]?):=Lib.hid fun O i=>(((Ext.refl W0).alloc O).cell (p:=⟨bm,i,none⟩) hm2.lt).trans (hm2.cells i)
 have cma:=hqa.out
 have fga:=frozen_of_heap hg2.1
 have cg0:=hg2.cells
 have W0lt:=hg2.lt
 have fgb:Hid (∀ O i,(W0.alloc O).frozen? ⟨bg,i,none⟩=false):=Lib.hid fun O i=>frozen_of_heap ((Below.block ((Ext.refl W0).alloc O) bg hg2.lt).trans hg2.1) i
 have cgb:Hid (∀ O i,(W0.alloc O).cell? ⟨bg,i,none⟩=(#[v]:Array Value)[i]?):=Lib.hid fun O i=>(((Ext.refl W0).alloc O).cell (p:=⟨bg,i,none⟩) hg2.lt).trans (hg2.cells i)
 have fgb':=fgb.out
 have cgb':=cgb.out
 have HMh0:=Lib.hid HM
 have HKh:=Lib.hid HK
 have hmh0:=Lib.hid hm2
 have hgh0:=Lib.hid hg2
 have hoh0:=Lib.hid ho2
 clear HM HK hm2 hg2 ho2
 apply wpS_seq
 apply wpS_seq
 apply wpS_region
 simp [wpOpsS,go_sem,recoverD,hu,Exit.thenS]
 refine wpS_of_wp ?_
 go_wp2_with fail
 simp only [Exit.thenS]
 refine wpS_of_wp ?_
 go_wp2_with fail
 have hgp:=hgh0.out.2
 have hmg:bm≠bg:=fun e=>by
  have h1:=hmh0.out.1
  rw [e,hgh0.out.1] at h1
  injection h1 with h1
  injection h1 with _ h2
  cases h2
 have hog:bo≠bg:=fun e=>by
  have h1:=hoh0.out.1
  rw [e,hgh0.out.1] at h1
  injection h1 with h1
  injection h1 with _ h2
  cases h2
 have HM1:=HMh0.out.setO hgp hB1 0 (.int .i64 0)
 have hm1:=hmh0.out.setO hmg hgp 0 (.int .i64 0)
 have ho1:=hoh0.out.setO hog hgp 0 (.int .i64 0)
 have hg1:=heap_setCell (i:=0) hgh0.out.1 (.int .i64 0)
 have hb1:Below B w (W0.setCell ⟨bg,0,none⟩ (.int .i64 0)):=Below.setCell HKh.out.below (by show B<=bg;exact hB1) _
 have HMh:=Lib.hid (HM1.ext ((Ext.refl _).alloc (.cells #[.pointer (some ⟨p,0,none⟩)] 51)))
 have hmh:=Lib.hid (hm1.alloc (.cells #[.pointer (some ⟨p,0,none⟩)] 51) HM1.lt)
 have hoh:=Lib.hid (ho1.alloc (.cells #[.pointer (some ⟨p,0,none⟩)] 51) HM1.lt)
 have hgh:=Lib.hid ((Below.block ((Ext.refl _).alloc (.cells #[.pointer (some ⟨p,0,none⟩)] 51)) bg (Array.getElem?_eq_some_iff.1 hg1).1).trans hg1)
 have hbel:=Lib.hid (Below.alloc hb1 (by have:=HM1.ge;have:=HM1.lt;omega) (.cells #[.pointer (some ⟨p,0,none⟩)] 51))
 clear hX hq0 cm0 hqa cma fga cg0 fgb cgb fgb' cgb' HMh0 hmh0 hgh0 hoh0 HKh HM1 hm1 ho1 hg1 hb1 hgp W0lt
 generalize (World.alloc (W0.setCell ⟨bg,0,none⟩ (.int .i64 0)) (.cells #[.pointer (some ⟨p,0,none⟩)] 51))=W at *
 have hq:=cell_of_heap HMh.out.heap
 have cm2:=hmh.out.cells
 have hI:Ints W vL L:=IntRow.ints HMh.out.rowL
 obtain⟨Al,cl,rfl,q1,q2⟩:=hI.slice
 have hIh:=Lib.hid hI
 obtain⟨Ac,cc,rfl,-,-,-⟩:=vals_row HMh.out.rowC
 obtain⟨An,cn,rfl,-,-,-⟩:=vals_row HMh.out.rowN
 have hlen:=HMh.out.locN
 have hplt:=HMh.out.lt
 have hmlt:=hmh.out.lt
 clear hI
 have hpo:p≠bo:=fun e=>hoh.out.2 (.inl e.symm)
 have hmo:bm≠bo:=fun e=>by
  have h1:=hmh.out.1
  rw [e,hoh.out.1] at h1
  injection h1 with h1
  injection h1 with _ h2
  cases h2
 have hlo:(Value.slice Al L.length cl).ownBlock≠some bo:=row_not HMh.out.rowL hoh.out.1 (by decide)
 have hS:∀ w',Near W bo 4 33 w'->((∀ i,w'.cell? ⟨p,i,none⟩=(#[.int .i64 0,vA,.slice Al L.length cl,.slice Ac S.acc.length cc,.slice An S.nts.length cn]:Array Value)[i]?)/\(∀ i,w'.cell? ⟨bm,i,none⟩=(#[.pointer (some ⟨p,0,none⟩)]:Array Value)[i]?)/\(∀ i,w'.cell? ⟨bo,i,none⟩=(#[cellD w' bo 0,cellD w' bo 1,cellD w' bo 2,cellD w' bo 3]:Array Value)[i]?)/\(∀ i,w'.frozen? ⟨bo,i,none⟩=false)/\Near W bo 4 33 w'):=fun w' hx =>
  ⟨fun i=>(hx.cell hplt hpo).trans (hq i),fun i=>(hx.cell hmlt hmo).trans (cm2 i),hx.four,hx.frozen,hx⟩
 have hN:Near W bo 4 33 W:=Near.new hoh.out.1 rfl
 go_region_held2 (fun w'=>(∀ i,w'.cell? ⟨p,i,none⟩=(#[.int .i64 0,vA,.slice Al L.length cl,.slice Ac S.acc.length cc,.slice An S.nts.length cn]:Array Value)[i]?)/\(∀ i,w'.cell? ⟨bm,i,none⟩=(#[.pointer (some ⟨p,0,none⟩)]:Array Value)[i]?)/\(∀ i,w'.cell? ⟨bo,i,none⟩=(#[cellD w' bo 0,cellD w' bo 1,cellD w' bo 2,cellD w' bo 3]:Array Value)[i]?)/\(∀ i,w'.frozen? ⟨bo,i,none⟩=false)/\Near W bo 4 33 w') (first | exact hS _ hN.drew | (refine hS _ ?_;(repeat refine Near.set ?_ _ _);exact hN.drew.ext h2))
  (first
    | (go_at_call 25
       refine (tshort_p Al cl L _ (hIh.out.ext (Ext.refl W).drew) q1 q2 (by omega)).mono ?_
       rintro e w' ⟨v',rfl,h1,h2⟩
       obtain⟨As,cs,rfl,hs1,hs2⟩:=h1.ints.slice))
 obtain⟨f1,f2⟩:=end_out (d:=false) HMh.out hoh.out.1 ((Ext.refl W).drew.trans h2) h1
 have fg:bg≠bo:=fun e=>by
  have h1:=hgh.out
  rw [e,hoh.out.1] at h1
  injection h1 with h1
  injection h1 with _ h2
  cases h2
 refine⟨rfl,FrameMode.panicking ({ v:=.iface 51 (.agg #[.pointer (some ⟨p,0,none⟩)]),recovered:=true } :: older),(by cases c₀;simp only at hu;subst hu;rfl),.tuple #[],(by simp [results,Try.results24,go_sem]),rfl,rfl,?_,⟨_,_,_,f1,f2⟩,?_⟩
 · rw [heap_setCell_ne _ _ fg,heap_setCell_ne _ _ fg,heap_setCell_ne _ _ fg,heap_setCell_ne _ _ fg]
   exact (Below.block ((Ext.refl W).drew.trans h2) bg (Array.getElem?_eq_some_iff.1 hgh.out).1).trans hgh.out
 · exact ((((hN.drew.ext h2).set _ _).set _ _).set _ _ |>.set _ _).below hbel.out hB2 (by have:=HMh.out.ge;omega)
theorem row_base {w:World}{B B' e size n:Nat}{v:Value}{xs:List Value}(h:w.ownsRow B' e size v n xs)(hB:B<=B'):w.ownsRow B e size v n xs:=by
 obtain⟨h1,h2⟩:=h
 rcases h2 with h2 | ⟨g,cap,cur,rfl,hg,r⟩
 · exact⟨h1,.inl h2⟩
 · exact⟨h1,.inr ⟨g,cap,cur,rfl,Nat.le_trans hB hg,r⟩⟩
theorem four_boxes (w:World)(o1 o2 o3 o4:Obj):Ext w ((((w.alloc o1).alloc o2).alloc o3).alloc o4)/\((((w.alloc o1).alloc o2).alloc o3).alloc o4).heap[w.heap.size]?=some o1/\((((w.alloc o1).alloc o2).alloc o3).alloc o4).heap[w.heap.size+1]?=some o2 /\
  ((((w.alloc o1).alloc o2).alloc o3).alloc o4).heap[w.heap.size+1+1]?=some o3/\((((w.alloc o1).alloc o2).alloc o3).alloc o4).heap[w.heap.size+1+1+1]?=some o4:=by
 refine⟨((((Ext.refl w).alloc o1).alloc o2).alloc o3).alloc o4,?_,?_,?_,?_⟩
 · exact (Below.block ((((Ext.refl (w.alloc o1)).alloc o2).alloc o3).alloc o4) _ (by simp)).trans (heap_alloc_new w o1)
 · have:=heap_alloc_new (w.alloc o1) o2
   rw [World.size_alloc] at this
   exact (Below.block (((Ext.refl ((w.alloc o1).alloc o2)).alloc o3).alloc o4) _ (by simp)).trans this
 · have:=heap_alloc_new ((w.alloc o1).alloc o2) o3
   rw [World.size_alloc,World.size_alloc] at this
   exact (Below.block ((Ext.refl (((w.alloc o1).alloc o2).alloc o3)).alloc o4) _ (by simp)).trans this
 · have:=heap_alloc_new (((w.alloc o1).alloc o2).alloc o3) o4
   rw [World.size_alloc,World.size_alloc,World.size_alloc] at this
   exact this
structure SameW (w w':World):Prop where
 os:w'.os=w.os
 tape:w'.tape=w.tape
 output:w'.output=w.output
 size:w'.heap.size=w.heap.size
 blocks:∀ k:Nat,w'.heap[k]?=w.heap[k]?
theorem SameW.drew (w:World):SameW w w.drew:=⟨rfl,rfl,rfl,rfl,fun _=>rfl⟩
theorem SameW.drew2 {w w':World}(h:SameW w w'):SameW w w'.drew:=⟨h.os,h.tape,h.output,h.size,h.blocks⟩
theorem SameW.refl (w:World):SameW w w:=⟨rfl,rfl,rfl,rfl,fun _=>rfl⟩
theorem SameW.ext {w w':World}(h:SameW w w'):Ext w w':=⟨h.os,h.tape,h.output,Nat.le_of_eq h.size.symm,fun k _=>h.blocks k⟩
theorem SameW.set {w w':World}{b:Nat}{cs:Array Value}{t:TypeId}(h:SameW w w')(g:w.heap[b]?=some (.cells cs t (0,0))){i:Nat}{v:Value}(hv:cs[i]?=some v):SameW w (w'.setCell ⟨b,i,none⟩ v):=by
 refine⟨h.os,h.tape,h.output,by rw [<- h.size];simp,fun k=>?_⟩
 by_cases e:k=b
 · subst e
   rw [heap_setCell ((h.blocks k).trans g) v,g]
   congr 2
   apply Array.ext_getElem?
   intro j
   rw [Array.getElem?_setIfInBounds]
   split
   · rename_i e
     subst e
     rw [hv]
     split
     · rfl
     · rename_i h2
       rw [Array.getElem?_eq_none (by omega)] at hv
       cases hv
   · rfl
 · rw [heap_setCell_ne _ _ e]
   exact h.blocks k
theorem play_start {w W w':World}{p:Nat}{Aa:Option Addr}{ca:Nat}{ans L:List Int}{v':Value}(hx:Ext w W)(hp:w.heap.size<=p)(g:W.heap[p]?=some (.cells #[.int .i64 1,.slice Aa ans.length ca,.slice none 0 0,.slice none 0 0,.slice none 0 0] 48 (0,0)))
  (h2:Ext W w')(h1:IntRow w' W.heap.size v' L)(hl:L.length<=32768)(ha:Ints w (.slice Aa ans.length ca) ans)(hn:ans.length<=maxAns)(hb:∀ b,(Value.slice Aa ans.length ca).ownBlock=some b->b<w.heap.size) :
  Plays w.heap.size (w'.setCell ⟨p,2,none⟩ v') p (TS0 L ans)/\(∀ b o,W.heap[b]?=some o->b≠p->HeldP (w'.setCell ⟨p,2,none⟩ v') p b o)/\Ext w (w'.setCell ⟨p,2,none⟩ v'):=by
 have hlt:=(Array.getElem?_eq_some_iff.1 g).1
 have g':=heap_setCell (i:=2) ((Below.block h2 p hlt).trans g) v'
 have hv:∀ k,v'.ownBlock=some k->W.heap.size<=k:=fun k hk=>(h1.lt k hk).1
 have ha':=(ha.ext hx).ext h2
 refine⟨⟨Nat.zero_le _,.slice Aa ans.length ca,v',.slice none 0 0,.slice none 0 0,L,{ ge:=hp,heap:=g',ans:=ints_set ha' _ _ ?_,ansB:=hb,rowL:=row_base (row_set h1 ?_) hx.size,rowC:=World.ownsRow_nil _ _ _ _,rowN:=World.ownsRow_nil _ _ _ _,loc:=fun _=>rfl,locN:=hl,accN:=Nat.zero_le _,ansN:=hn,ntsN:=Nat.zero_le _ }⟩,?_,(hx.trans h2).setCell hp _⟩
 · intro k hk e
   have:=hb k hk
   simp only at e
   omega
 · intro e
   have:=hv p e
   omega
 · intro b o hb ho
   have hbl:=(Array.getElem?_eq_some_iff.1 hb).1
   refine⟨(heap_setCell_ne _ _ ho).trans ((Below.block h2 b hbl).trans hb),fun h'=>?_⟩
   rcases h' with e | ⟨i,hi,v,hv1,hv2⟩
   · exact ho e
   · rw [cell_of_heap g'] at hv1
     simp only [List.mem_cons,List.not_mem_nil,or_false] at hi
     rcases hi with rfl | rfl | rfl
     · obtain rfl:v'=v:=by simpa using hv1
       have:=hv b hv2
       omega
     · obtain rfl:Value.slice none 0 0=v:=by simpa using hv1
       simp [Value.ownBlock] at hv2
     · obtain rfl:Value.slice none 0 0=v:=by simpa using hv1
       simp [Value.ownBlock] at hv2
set_option maxRecDepth 100000 in
set_option maxHeartbeats 1000000 in
theorem play_int (f:FuncId)(cap:Array Value)(T:Prog Int)(Al:Option Addr)(cl:Nat)(L:List Int)(Aa:Option Addr)(ca:Nat)(ans:List Int)(w:World)(h:Ints w (.slice Al L.length cl) L)(hl:L.length<=32768)(ha:Ints w (.slice Aa ans.length ca) ans)(hn:ans.length<=maxAns)
  (hb:∀ b,(Value.slice Aa ans.length ca).ownBlock=some b->b<w.heap.size)
  (hcf:∀ (args:Array Value) (w:World),(callFunc f args).run Try.prog w=.ok (.enter f args) w)
  (hdo:∀ w1 p,Ext w w1->Plays w.heap.size w1 p (TS0 L ans)->Calls Try.prog f (#[.pointer (some ⟨p,0,none⟩)]++cap) w1 (Post encI w.heap.size p w1 (T.run (TS0 L ans)))) :
  Calls Try.prog 8 #[.func (.func f) #[] cap,.slice Al L.length cl,.slice Aa ans.length ca] w fun e w'=>∃ v,e=.returned (.tuple #[.int .i64 ((T.run (TS0 L ans)).1.getD 0),v])/\Outs w' v (T.run (TS0 L ans)).1.isSome (T.run (TS0 L ans)).2/\Ext w w':=by
 obtain⟨q1,q2⟩:L.length<=cl/\cl<=9223372036854775807:=by
  obtain⟨A',c',he,q1,q2,_⟩:=h
  injection he with e1 e2 e3
  subst e3
  exact⟨q1,q2⟩
 generalize hR:(fun e w'=>∃ v,e=Ending.returned (.tuple #[.int .i64 ((T.run (TS0 L ans)).1.getD 0),v])/\Outs w' v (T.run (TS0 L ans)).1.isSome (T.run (TS0 L ans)).2/\Ext w w')=R
 have hfin:∀ v w',Outs w' v (T.run (TS0 L ans)).1.isSome (T.run (TS0 L ans)).2->Ext w w'->R (.returned (.tuple #[.int .i64 ((T.run (TS0 L ans)).1.getD 0),v])) w':=fun v w' h1 h2=>hR▸⟨v,rfl,h1,h2⟩
 clear hR
 have hmf:∀ (fn:Fn) (first cap:Array Value) (w:World),(Instr.makeFunc fn first cap).run Try.prog w=.ok (.func fn first cap) w:=fun _ _ _ _=>rfl
 go_enter_defers Try.func8,Try.ntmps8
 go_wp2_with fail
 obtain⟨hx,g1,g2,g3,g4⟩:=four_boxes w (.cells #[.int .i64 0] 3) (.cells #[.bool false,.slice none 0 0,.slice none 0 0,.slice none 0 0] 33) (.cells #[.int .i64 1,.slice Aa ans.length ca,.slice none 0 0,.slice none 0 0,.slice none 0 0] 48) (.cells #[.pointer (some ⟨w.heap.size+1+1,0,none⟩)] 36)
 generalize hW:World.alloc (World.alloc (World.alloc (World.alloc w _) _) _) _=W at *
 clear hW
 have hI:=h.ext hx
 have cm:=cell_of_heap g4
 have hN:Near W (w.heap.size+1+1) 5 48 W:=Near.new g3 rfl
 have hmlt:=(Array.getElem?_eq_some_iff.1 g4).1
 have hmin:min (L.length:Int) 32768=(L.length:Int):=by omega
 have hS:∀ w',Near W (w.heap.size+1+1) 5 48 w'->((∀ i,w'.cell? ⟨w.heap.size+1+1+1,i,none⟩=(#[.pointer (some ⟨w.heap.size+1+1,0,none⟩)]:Array Value)[i]?)/\(∀ i,w'.cell? ⟨w.heap.size+1+1,i,none⟩=(#[cellD w' (w.heap.size+1+1) 0,cellD w' (w.heap.size+1+1) 1,cellD w' (w.heap.size+1+1) 2,cellD w' (w.heap.size+1+1) 3,cellD w' (w.heap.size+1+1) 4]:Array Value)[i]?)/\(∀ i,w'.frozen? ⟨w.heap.size+1+1,i,none⟩=false)):=fun w' hx =>
  ⟨fun i=>(hx.cell hmlt (by omega)).trans (cm i),hx.five,hx.frozen⟩
 go_region_held3 (fun w'=>(∀ i,w'.cell? ⟨w.heap.size+1+1+1,i,none⟩=(#[.pointer (some ⟨w.heap.size+1+1,0,none⟩)]:Array Value)[i]?)/\(∀ i,w'.cell? ⟨w.heap.size+1+1,i,none⟩=(#[cellD w' (w.heap.size+1+1) 0,cellD w' (w.heap.size+1+1) 1,cellD w' (w.heap.size+1+1) 2,cellD w' (w.heap.size+1+1) 3,cellD w' (w.heap.size+1+1) 4]:Array Value)[i]?)/\(∀ i,w'.frozen? ⟨w.heap.size+1+1,i,none⟩=false)) (first | exact hS _ hN.drew | (refine hS _ ?_;(repeat refine Near.set ?_ _ _);exact hN.drew.ext h2))
  (first
    | (go_at_call 23
       refine (clone_any Al cl L _ (hI.ext (Ext.refl W).drew) (by omega)).mono ?_
       rintro e w' ⟨v',rfl,h1,h2⟩
       obtain⟨As,cs,rfl,hs1,hs2⟩:=h1.ints.slice))
 obtain⟨hP,hH,hE⟩:=play_start (p:=w.heap.size+1+1) hx (by omega) g3 ((Ext.refl W).drew.trans h2) h1 hl ha hn hb
 have hbg:=hH _ _ g1 (by omega)
 have hbo:=hH _ _ g2 (by omega)
 have hbm:=hH _ _ g4 (by omega)
 clear hH g1 g2 g3 g4 hS hN h1 h2 hI cm hmin hmlt
 rename_i hh
 clear hh
 have hT:=hdo _ _ hE hP
 clear hdo
 generalize World.setCell _ _ _=W2 at *
 have cbm:=hbm.cells
 have hnf:(binOp .neq 38 (.func (.func f) #[] cap) .nilFunc).run Try.prog W2=.ok (.bool true) W2:=by kernel_rfl
 go_wp2_with fail
 generalize hr:T.run (TS0 L ans)=r at hT hfin
 obtain⟨o,S⟩:=r
 clear hr
 cases o with
 | some a =>
   refine hT.mono ?_
   rintro e w3 ⟨rfl,hP3,hK3⟩
   have hbg3:=hbg.keep hK3
   have hbo3:=hbo.keep hK3
   have hbm3:=hbm.keep hK3
   have hE3:Ext w w3:=Below.trans hE hK3.below
   clear hbg hbo hbm hE hK3 hT hP cbm hnf
   have cbg:=hbg3.cells
   have fbg:=frozen_of_heap hbg3.1
   have cbo:=hbo3.cells
   have fbo:=frozen_of_heap hbo3.1
   go_wp2_with fail
   have fgo:w.heap.size≠w.heap.size+1:=by omega
   have hg4:=heap_setCell (i:=0) hbg3.1 (.int .i64 a)
   have hP4:Plays w.heap.size (w3.setCell ⟨w.heap.size,0,none⟩ (.int .i64 a)) (w.heap.size+1+1) S:=by
    obtain⟨q,vA,vL,vC,vN,L',hM⟩:=hP3
    exact⟨q,vA,vL,vC,vN,L',hM.setO hbg3.2 (Nat.le_refl _) _ _⟩
   have hbm4:=hbm3.setO (b:=w.heap.size) (by omega) hbg3.2 0 (.int .i64 a)
   have hbo4:=hbo3.setO (b:=w.heap.size) (by omega) hbg3.2 0 (.int .i64 a)
   have hbg4:HeldP (w3.setCell ⟨w.heap.size,0,none⟩ (.int .i64 a)) (w.heap.size+1+1) w.heap.size (.cells #[.int .i64 a] 3 (0,0)):=⟨hg4,fun h'=>hbg3.2 ((ownR_same (heap_setCell_ne _ _ (by omega)) _).1 h')⟩
   have hE4:Ext w (w3.setCell ⟨w.heap.size,0,none⟩ (.int .i64 a)):=hE3.setCell (Nat.le_refl _) _
   clear hP3 hbg3 hbo3 hbm3 hE3 cbg fbg cbo fbo hg4
   generalize World.setCell _ _ _=w4 at *
   generalize hbq:w.heap.size+1=bo at hbm4 hbo4 hP4 ⊢
   have fgo1:w.heap.size≠bo:=by omega
   have fgo2:bo≠w.heap.size:=by omega
   clear fgo
   have cbg:=hbg4.cells
   have fbg:=frozen_of_heap hbg4.1
   have cbo:=hbo4.cells
   have fbo:=frozen_of_heap hbo4.1
   go_region
   all_goals
    generalize hW5:World.drew _=W5
    have hsm:SameW w4 W5:=by
     rw [<- hW5]
     repeat first | with_reducible exact SameW.refl _ | with_reducible refine SameW.drew2 ?_ | refine SameW.set ?_ hbg4.1 rfl | refine SameW.set ?_ hbo4.1 rfl
    clear hW5 cbg fbg cbo fbo
    have hP5:=hP4.ext hsm.ext
    have hbm5:=hbm4.ext hsm.ext hP4.lt
    have hbg5:=hbg4.ext hsm.ext (by rw [hbq];exact hP4.lt)
    have hbo5:=hbo4.ext hsm.ext hP4.lt
    have hE5:Ext w W5:=hE4.trans hsm.ext
    clear hP4 hbm4 hbg4 hbo4 hE4 hsm
    go_wp2_with fail
    refine leaves_cons (f:=24) (args:=#[.pointer (some ⟨bo+1+1,0,none⟩),.pointer (some ⟨w.heap.size,0,none⟩),.pointer (some ⟨bo,0,none⟩)]) (by simp) (by simp [go_sem]) ?_
    refine (end_ok w.heap.size _ S _ _ _ _ _ hP5 hbm5 (by rw [<- hbq];exact hbg5) hbo5 (by omega)).mono ?_
    rintro e u' w4 ⟨rfl,rfl,hg,⟨vC,vN,vs,ho,hO⟩,hB⟩
    have cg:=cell_of_heap hg
    have co:=cell_of_heap ho
    have cg0:=cg 0
    have co0:=co 0
    have co1:=co 1
    have co2:=co 2
    have co3:=co 3
    refine⟨.tuple #[.int .i64 a,.agg #[.bool true,vC,vN,vs]],?_,hfin _ _ hO (Below.trans hE5 hB)⟩
    simp [results,Try.results8,go_sem,cg0,co0,co1,co2,co3]
 | none =>
   refine hT.mono ?_
   rintro e w3 ⟨rfl,hP3,hK3⟩
   have hbg3:=hbg.keep hK3
   have hbo3:=hbo.keep hK3
   have hbm3:=hbm.keep hK3
   have hE3:Ext w w3:=Below.trans hE hK3.below
   clear hbg hbo hbm hE hK3 hT hP cbm hnf
   refine leaves_cons (f:=24) (args:=#[.pointer (some ⟨w.heap.size+1+1+1,0,none⟩),.pointer (some ⟨w.heap.size,0,none⟩),.pointer (some ⟨w.heap.size+1,0,none⟩)]) (by simp) (by simp [go_sem]) ?_
   refine (end_stop w.heap.size _ S _ _ _ _ [] _ hP3 hbm3 hbg3 hbo3 (Nat.le_refl _) (by omega)).mono ?_
   rintro e u' w4 ⟨rfl,rfl,hg,⟨vC,vN,vs,ho,hO⟩,hB⟩
   have cg:=cell_of_heap hg
   have co:=cell_of_heap ho
   have cg0:=cg 0
   have co0:=co 0
   have co1:=co 1
   have co2:=co 2
   have co3:=co 3
   refine⟨.tuple #[.int .i64 0,.agg #[.bool false,vC,vN,vs]],?_,hfin _ _ hO (Below.trans hE3 hB)⟩
   simp [results,Try.results8,go_sem,cg0,co0,co1,co2,co3]
   trace_state
theorem RegsAt.ext {ix:List Nat}{p b:Nat}{w w':World}{l:List Reg}(h:RegsAt ix w p b l)(hx:Ext w w')(hp:p<w.heap.size):RegsAt ix w' p b l:=h.keep (B:=0) (Keep.of_ext hx hp (Nat.zero_le _))
end Go.Proofs.Ytchahoiainbcaaa
namespace Go.Proofs.Ytchahoiainbcaaa
open Go.RowKit Go.WideShapes Go.ChangeShapes
section
variable {H:Type} {enc:TypeId × Value->H} {P:Program}
theorem post_of_below {f:Func}{s:ChangeSpec}{apart fresh handsOn again:Bool}{W W':World}{args:Array Value}{v:Value}{ds gs:List (DataW H)}{before pa pv:List MemPlace}
  (hW:DataW.Whole enc P f.params.toList s.vars apart W args.toList ds gs before)
  (hres:∀ (b:Nat) (sp:Nat->Bool) (hd:Bool),DataW.TrodAll enc P W' b sp hd f.resultTypes.toList (v.resultList f.resultTypes.size) (s.fn H (ds++gs)).results [])
  (hargs:∀ sp:Nat->Bool,(∀ p∈before,sp p.block=true)->DataW.TrodAll enc P W' 0 sp true f.params.toList args.toList (s.fn H (ds++gs)).args pa)
  (hvars:∀ sp:Nat->Bool,(∀ p∈before,sp p.block=true)->DataW.TrodVars enc P W' sp s.vars (s.fn H (ds++gs)).vars pv)
  (hps:before=pa++pv)(hb:Below W.heap.size W W')
  (hok:∀ (j:Nat) (t:TypeId) (r:Value),f.resultTypes[j]?=some t->(v.resultList f.resultTypes.size)[j]?=some r->Value.okWide P W' .any 0 t r) :
  s.post enc P f apart fresh handsOn again W args v W':=by
 have hlt:∀ p∈before,p.block<W.heap.size:=fun p hp=>hW.lt p hp
 have hold:∀ p∈before,(fun b=>decide (b<W.heap.size)) p.block=true:=fun p hp=>by simpa using hlt p hp
 refine⟨ds,gs,before,[],pa,pv,hW,hres _ _ _,hargs _ hold,hvars _ hold,World.keptBut_mono (fun p hp=>⟨hp,?_⟩) (hb.frame (·∈before)),fun _=>?_⟩
 · rw [hps,List.mem_append] at hp
   exact Or.inr hp
 · obtain⟨_,_,_,_,_,hz,hn⟩:=hW
   refine⟨hok,_,_,([]++pa)++pv,⟨[]++pa,pv,trodAll_append (hargs _ (fun _ _=>rfl)) (hres _ _ _),hvars _ (fun _ _=>rfl),rfl,?_,?_⟩,?_⟩
   · intro b off hp
     have hin:MemPlace.cell b off∈before:=by rw [hps];simpa using hp
     rw [hb.frozen (hlt _ hin)]
     exact hz b off hin
   · intro ha
     have:=hn ha
     rw [hps] at this
     simpa using this
   · intro p hp _
     rw [hps]
     simpa using hp
end
section
variable {H:Type} {enc:TypeId × Value->H} {P:Program}
theorem trodAll_stays (hl:laidOutB P=true):∀ (ts:List TypeId),(∀ t∈ts,P.readableRec t=true/\t<P.types.size)->∀ {W W':World} {sp:Nat->Bool} {vs:List Value} {ds:List (DataW H)} {ps:List MemPlace},
  DataW.TrodAll enc P W 0 (fun _=>true) true ts vs ds ps->(∀ p∈ps,W.sameAt W' p)->(∀ p∈ps,sp p.block=true)->DataW.TrodAll enc P W' 0 sp true ts vs ds ps
 | [],_,W,W',sp,vs,ds,ps,h,_,_=>by
   cases vs <;> cases ds <;> simp_all [DataW.TrodAll]
 | t :: ts,ht,W,W',sp,vs,ds,ps,h,hs,hsp=>by
   obtain⟨v,vs',d,ds',p,q,rfl,rfl,rfl,hp,hq⟩:=trodAll_cons h
   have h1:=ht t (by simp)
   refine trodAll_cons_mk (WideElems.Trod_stays hl h1.1 h1.2 hp (fun x hx=>hs x (by simp [hx])) (fun x hx=>hsp x (by simp [hx]))) ?_
   exact trodAll_stays hl ts (fun t' h'=>ht t' (by simp [h'])) hq (fun x hx=>hs x (by simp [hx])) (fun x hx=>hsp x (by simp [hx]))
theorem trodAll_length:∀ (ts:List TypeId) {W:World} {b:Nat} {sp:Nat->Bool} {held:Bool} {vs:List Value} {ds:List (DataW H)} {ps:List MemPlace},DataW.TrodAll enc P W b sp held ts vs ds ps->ds.length=ts.length
 | [],W,b,sp,held,vs,ds,ps,h=>by cases vs <;> cases ds <;> simp_all [DataW.TrodAll]
 | t :: ts,W,b,sp,held,vs,ds,ps,h=>by
   obtain⟨v,vs',d,ds',p,q,rfl,rfl,rfl,hp,hq⟩:=trodAll_cons h
   simp [trodAll_length ts hq]
theorem law_post {f:Func}{s:ChangeSpec}{W W':World}{args:Array Value}{ds gs:List (DataW H)}{before:List MemPlace}{tb:TypeId}
  (hl:laidOutB P=true)(hr:∀ t∈f.params.toList,P.readableRec t=true/\t<P.types.size)(hres:f.resultTypes=#[tb])(htb:P.underlying tb=some .bool)
  (hvars:s.vars=[])(hspec:∀ ds:List (DataW H),ds.length=f.params.size->s.fn H ds={ results:=[.lit (.bool true)],args:=ds })
  (hW:DataW.Whole enc P f.params.toList s.vars false W args.toList ds gs before)(hx:Ext W W') :
  s.post enc P f false true false false W args (.bool true) W':=by
 have hWlt:∀ p∈before,p.block<W.heap.size:=fun p hp=>hW.lt p hp
 obtain⟨p,q,hA,hV,hpq,hfz,hnd⟩:=hW
 rw [hvars] at hV
 have hgs:gs=[]/\q=[]:=trodVars_none hV
 obtain⟨rfl,rfl⟩:=hgs
 have hlen:=trodAll_length _ hA
 have hsp:=hspec ds (by rw [hlen];simp)
 have hb:before=p:=by rw [hpq];simp
 subst hb
 have hn:f.resultTypes.size=1:=by rw [hres];rfl
 have hlo:(Value.bool true).resultList f.resultTypes.size=[Value.bool true]:=by rw [hn];rfl
 have e0:ds++([]:List (DataW H))=ds:=List.append_nil _
 refine post_of_below (pa:=before) (pv:=[]) (ds:=ds) (gs:=[]) ⟨before,[],hA,by rw [hvars];exact hV,hpq,hfz,hnd⟩ ?_ ?_ ?_ hpq hx ?_
 · intro b sp hd
   rw [e0,hsp,hlo,hres]
   exact trodAll_cons_mk (shut_bool htb _) trodAll_mk0
 · intro sp hsp'
   rw [e0,hsp]
   exact trodAll_stays hl _ hr hA (fun p hp=>Below.same hx (hWlt p hp)) hsp'
 · intro sp _
   rw [e0,hsp,hvars]
   rfl
 · intro j t r ht hr'
   rw [hres] at ht
   rw [hlo] at hr'
   cases j with
   | zero =>
     obtain rfl:tb=t:=by simpa using ht
     obtain rfl:Value.bool true=r:=by simpa using hr'
     exact okWide_bool_mk htb _
   | succ j=>simp at ht
end
end Go.Proofs.Ytchahoiainbcaaa
namespace Go.Proofs.Ytchahoiainbcaaa
open Go.ChangeShapes Go.WideShapes Go.ChangeAt Go.RowKit Kv
theorem cellsInt:Try.prog.cellsOf 3=1:=by kernel_rfl
theorem cell_lt {w:World}{a:Addr}{v:Value}(h:w.cell? a=some v):a.block<w.heap.size:=by
 rcases Nat.lt_or_ge a.block w.heap.size with hlt | hge
 · exact hlt
 · simp [World.cell?,Array.getElem?_eq_none hge] at h
set_option maxRecDepth 100000 in
theorem ints_arg {H:Type}{enc:TypeId × Value->H}{W:World}{b0:Nat}{r:Reach}{v:Value}{d:DataW H}{p:List MemPlace}
  (hv:Value.okWide Try.prog W r b0 24 v)(h:DataW.Trod enc Try.prog W 0 (fun _=>true) true 24 v d p) :
  ∃ l,Ints W v l/\∀ x∈l,-9223372036854775808<=x/\x<=9223372036854775807:=by
 obtain⟨a0,len,cap,rfl⟩:=okWide_slice Try.underlying24 hv
 obtain⟨fuel,hf⟩:=h
 rcases open_ints Try.underlying24 Try.underlying3 cellsInt hf with⟨hcs,hx⟩ | ⟨a,len',cap',zs,hcs,_,hl,hm,hz,hx,hcell,hwz⟩
 · simp [Value.cells] at hcs
   obtain⟨rfl,rfl,rfl⟩:=hcs
   exact⟨[],Ints.nil W,by simp⟩
 · simp [Value.cells] at hcs
   obtain⟨rfl,rfl,rfl⟩:=hcs
   simp only [if_true] at hz
   refine⟨zs.take len,?_,fun x hx=>bounds_i64 (hwz x (List.mem_of_mem_take hx))⟩
   have hlen:(zs.take len).length=len:=by rw [List.length_take];omega
   refine⟨some a,cap,by rw [hlen],by omega,by unfold maxLen at hm;exact hm,fun hne=>?_⟩
   have hpos:0<zs.length:=by
    rcases Nat.eq_zero_or_pos zs.length with h0 | h0
    · have:zs=[]:=List.eq_nil_of_length_eq_zero h0
      subst this
      simp at hne
    · exact h0
   obtain⟨b,off,rfl,hc⟩:=ints_at hcell hpos
   refine⟨b,off,rfl,cell_lt (hc 0 hpos),fun i x hi=>?_⟩
   have hi2:i<zs.length:=by
    have:=(List.getElem?_eq_some_iff.1 hi).1
    rw [List.length_take] at this
    omega
   rw [hc i hi2]
   have hi3:i<len:=by
    have:=(List.getElem?_eq_some_iff.1 hi).1
    omega
   rw [List.getElem?_take,if_pos hi3] at hi
   rw [List.getD_eq_getElem?_getD,hi]
   rfl
end Go.Proofs.Ytchahoiainbcaaa
namespace Go.Proofs.Ytchahoiainbcaaa
theorem own:ownKnob Try.prog.godebug=none:=by kernel_rfl
end Go.Proofs.Ytchahoiainbcaaa
namespace Go.Proofs.Ytchahoiainbcaaa
open Go.RowKit Kv
theorem ints_new (w:World)(l:List Int)(h:l.length<=9223372036854775807):Ints (w.alloc (.cells (l.map (Value.int .i64)).toArray 3)) (.slice (some ⟨w.heap.size,0,none⟩) l.length l.length) l:=by
 refine⟨_,_,rfl,Nat.le_refl _,h,fun _=>⟨w.heap.size,0,rfl,by simp,fun i x hi=>?_⟩⟩
 have hh:=World.alloc_heap_new w (.cells (l.map (Value.int .i64)).toArray 3)
 simp only [World.cell?,hh,Nat.zero_add]
 simp [hi]
theorem Outs.parts {w:World}{v:Value}{d:Bool}{S:TS}(h:Outs w v d S):∃ A c A' c' As k n,v=.agg #[.bool d,.slice A S.acc.length c,.slice A' S.nts.length c',.slice As n k]:=by
 obtain⟨A,c,A',c',vs,L,rfl,hO⟩:=h
 obtain⟨As,k,rfl,_,_⟩:=hO.locs.slice
 exact⟨A,c,A',c',As,k,_,rfl⟩
theorem finez_p (w:World):Calls Try.prog 19 #[.agg #[.int .i64 0,.int .i64 0,.int .i64 0,.int .i64 0,.int .i64 0,.int .i64 0,.int .i64 0]] w fun e w'=>e=.returned (.bool false)/\Ext w w':=by
 have hX:=Ext.refl w
 have b1:=Blk.new w (.cells #[.int .i64 0,.int .i64 0,.int .i64 0,.int .i64 0,.int .i64 0,.int .i64 0,.int .i64 0] 23)
 replace hX:=hX.alloc (.cells #[.int .i64 0,.int .i64 0,.int .i64 0,.int .i64 0,.int .i64 0,.int .i64 0,.int .i64 0] 23)
 have c_b1:=b1.cells
 go_enter Try.func19,Try.ntmps19
 go_wp2_with fail
 replace b1:=b1.drew
 replace hX:=hX.drew
 refine wp_region_held_drew (S:=fun w'=>∀ i:Nat,w'.cell? ⟨w.heap.size,i,none⟩=(#[.int .i64 0,.int .i64 0,.int .i64 0,.int .i64 0,.int .i64 0,.int .i64 0,.int .i64 0]:Array Value)[i]?) rfl b1.cells (fun hHeld=>?_)
 refine tkb 0 ?_
 iterate 4
  refine tkn (v:=?_) rfl (by kernel_rfl) (fun _ _ _ h=>h) (by assumption) ?_ ?_
  rotate_left
  · (intro w hSw;(try dsimp only at hSw);go_simp;try with_reducible rfl)
  try simp only [put_pack]
 refine tke ?_
 refine sk 4 rfl (by kernel_rfl) (fun _ _ _ h=>h) (by assumption) ?_
 try simp only [put_pack]
 refine sk 5 rfl (by kernel_rfl) (fun _ _ _ h=>h) (by assumption) ?_
 try simp only [put_pack]
 refine sk 6 rfl (by kernel_rfl) (fun _ _ _ h=>h) (by assumption) ?_
 try simp only [put_pack]
 refine tk 7 (v:=?_) rfl (by kernel_rfl) (fun _ _ _ h=>h) (by assumption) ?_ ?_
 rotate_left
 · (intro w hSw;(try dsimp only at hSw);go_simp;try with_reducible rfl)
 try simp only [put_pack]
 refine tk 8 (v:=?_) rfl (by kernel_rfl) (fun _ _ _ h=>h) (by assumption) ?_ ?_
 rotate_left
 · (intro w hSw;(try dsimp only at hSw);go_simp;try with_reducible rfl)
 try simp only [put_pack]
 refine sk 9 rfl (by kernel_rfl) (fun _ _ _ h=>h) (by assumption) ?_
 try simp only [put_pack]
 refine sk 10 rfl (by kernel_rfl) (fun _ _ _ h=>h) (by assumption) ?_
 try simp only [put_pack]
 refine sk 11 rfl (by kernel_rfl) (fun _ _ _ h=>h) (by assumption) ?_
 try simp only [put_pack]
 refine tk 12 (v:=?_) rfl (by kernel_rfl) (fun _ _ _ h=>h) (by assumption) ?_ ?_
 rotate_left
 · (intro w hSw;(try dsimp only at hSw);go_simp;try with_reducible rfl)
 try simp only [put_pack]
 refine tk 13 (v:=?_) rfl (by kernel_rfl) (fun _ _ _ h=>h) (by assumption) ?_ ?_
 rotate_left
 · (intro w hSw;(try dsimp only at hSw);go_simp;try with_reducible rfl)
 try simp only [put_pack]
 refine sk 14 rfl (by kernel_rfl) (fun _ _ _ h=>h) (by assumption) ?_
 try simp only [put_pack]
 refine sk 15 rfl (by kernel_rfl) (fun _ _ _ h=>h) (by assumption) ?_
 try simp only [put_pack]
 refine sk 16 rfl (by kernel_rfl) (fun _ _ _ h=>h) (by assumption) ?_
 try simp only [put_pack]
 refine sk 17 rfl (by kernel_rfl) (fun _ _ _ h=>h) (by assumption) ?_
 try simp only [put_pack]
 refine sk 18 rfl (by kernel_rfl) (fun _ _ _ h=>h) (by assumption) ?_
 try simp only [put_pack]
 refine sk 19 rfl (by kernel_rfl) (fun _ _ _ h=>h) (by assumption) ?_
 try simp only [put_pack]
 refine tk 20 (v:=?_) rfl (by kernel_rfl) (fun _ _ _ h=>h) (by assumption) ?_ ?_
 rotate_left
 · (intro w hSw;(try dsimp only at hSw);go_simp;try with_reducible rfl)
 try simp only [put_pack]
 refine wpAnyH_done (by kernel_rfl) ?_ _
 go_simp
 go_wp2_with fail
 go_ret
 exact⟨rfl,hX⟩
theorem among_p (i:Int)(w:World)(h:0<=i/\i<3):Calls Try.prog 51 #[.agg #[.int .i64 6,.int .i64 0,.int .i64 0,.int .i64 3,.int .i64 0,.int .i64 (-1),.int .i64 9],.int .i64 i] w fun e w'=>e=.returned (.bool true)/\Ext w w':=by
 go_enter Try.func51,Try.ntmps51
 go_wp2_with fail
 go_ret
 exact⟨rfl,(Ext.refl _).alloc _⟩
theorem mayw0_p (w:World):Calls Try.prog 20 #[.agg #[.int .i64 6,.int .i64 0,.int .i64 0,.int .i64 3,.int .i64 0,.int .i64 (-1),.int .i64 9],.int .i64 0] w fun e w'=>e=.returned (.bool true)/\Ext w w':=by
 go_enter Try.func20,Try.ntmps20
 go_wp2_with fail
 go_ret
 exact⟨rfl,(Ext.refl _).alloc _⟩
theorem mayw1_p (w:World):Calls Try.prog 20 #[.agg #[.int .i64 6,.int .i64 0,.int .i64 0,.int .i64 3,.int .i64 0,.int .i64 (-1),.int .i64 9],.int .i64 1] w fun e w'=>e=.returned (.bool false)/\Ext w w':=by
 go_enter Try.func20,Try.ntmps20
 go_wp2_with fail
 go_ret
 exact⟨rfl,(Ext.refl _).alloc _⟩
theorem mayr2_p (w:World):Calls Try.prog 21 #[.agg #[.int .i64 6,.int .i64 0,.int .i64 0,.int .i64 3,.int .i64 0,.int .i64 (-1),.int .i64 9],.int .i64 2] w fun e w'=>e=.returned (.bool true)/\Ext w w':=by
 have x1:=(Ext.refl w).alloc (.cells #[.int .i64 6,.int .i64 0,.int .i64 0,.int .i64 3,.int .i64 0,.int .i64 (-1),.int .i64 9] 23)
 go_enter Try.func21,Try.ntmps21
 go_wp2_with fail
 refine (among_p 2 _ (by omega)).mono ?_
 rintro e w' ⟨rfl,hx⟩
 have hf:=Lib.hid (x1.trans hx)
 clear hx
 go_wp2_with fail
 go_ret
 exact⟨rfl,hf.out⟩
@[go_sem] theorem build_r17 (a b c d:Int) (w:World):(Instr.build 23 #[(0,.int .i64 a),(3,.int .i64 b),(5,.int .i64 c),(6,.int .i64 d)]).run Try.prog w=.ok (.agg #[.int .i64 a,.int .i64 0,.int .i64 0,.int .i64 b,.int .i64 0,.int .i64 c,.int .i64 d]) w:=run_build w 23 _ _ (by kernel_rfl)
@[go_sem] theorem build_rz (w:World):(Instr.build 23 #[]).run Try.prog w=.ok (.agg #[.int .i64 0,.int .i64 0,.int .i64 0,.int .i64 0,.int .i64 0,.int .i64 0,.int .i64 0]) w:=run_build w 23 _ _ (by kernel_rfl)
def r17:Reg:=⟨6,0,0,3,0,-1,9⟩
theorem r17_fine:Fine7 r17:=⟨by decide,by decide,by decide,by decide,by decide⟩
set_option maxRecDepth 100000 in
set_option maxHeartbeats 2000000 in
theorem alive17 (w:World):Calls Try.prog 5 #[] w fun e w'=>e=.returned (.bool true)/\Ext w w':=by
 have hmf:∀ (fn:Fn) (first cap:Array Value) (w:World),(Instr.makeFunc fn first cap).run Try.prog w=.ok (.func fn first cap) w:=fun _ _ _ _=>rfl
 have hC:=fun w=>costs_p r17 w r17_fine
 have hN:=fun w=>cells7_p r17 w r17_fine
 have hL:=fun w=>slocals7_p r17 w r17_fine
 have hF:=fun w=>fine_p r17 w ⟨by decide,by decide,by decide,by decide,by decide,by decide,rfl,by decide⟩ (fun w=>cells_all r17 w (by decide) (by decide))
 rw [show costW7 r17=28 from rfl,show costR7 r17=50 from rfl] at hC
 rw [show cells7 r17=64 from rfl] at hN
 rw [show locals7 r17=74 from rfl] at hL
 rw [show fineM r17=true from rfl] at hF
 unfold encR r17 at hC hN hL hF
 simp only at hC hN hL hF
 have hX:=Ext.refl w
 have b1:=Blk.new w (.cells #[.int .i64 6,.int .i64 0,.int .i64 0,.int .i64 3,.int .i64 0,.int .i64 (-1),.int .i64 9] 23)
 replace hX:=hX.alloc (.cells #[.int .i64 6,.int .i64 0,.int .i64 0,.int .i64 3,.int .i64 0,.int .i64 (-1),.int .i64 9] 23)
 have c_b1:=b1.cells
 go_enter Try.func5,Try.ntmps5
 go_wp2_with fail
 refine (hC _).mono ?_
 rintro e w2 ⟨rfl,hx⟩
 clear c_b1
 replace b1:=b1.ext hx
 have c_b1:=b1.cells
 replace hX:=hX.trans hx
 clear hx
 go_upto_region 3 with fail
 have hA:=ints_new w2 [6] (by simp)
 have x2:=(Ext.refl w2).alloc (.cells (([6]:List Int).map (Value.int .i64)).toArray 3)
 have hsz:w2.heap.size<(World.alloc w2 (.cells (([6]:List Int).map (Value.int .i64)).toArray 3)).heap.size:=by simp
 simp only [List.map_cons,List.map_nil,List.length_cons,List.length_nil] at hA x2 hsz
 replace hX:=hX.trans x2
 replace b1:=b1.ext x2
 clear c_b1 x2 hC
 go_wp2_with fail
 generalize World.alloc w2 _=W1 at *
 have c_b1:=b1.cells
 refine (play_int 18 #[] (Kv.rd 4) none 0 [] (some ⟨w2.heap.size,0,none⟩) 1 [6] W1 (Ints.nil _) (by simp) hA (by decide) (fun k hk=>by simp only [Value.ownBlock,Option.some.injEq] at hk;omega) (fun _ _=>rfl) (fun W p hxW hP=>ral1 _ p _ W hP)).mono ?_
 rintro e y1 ⟨v1,rfl,hO,hx⟩
 have e1:((Kv.rd 4).run (TS0 [] [6])).1=some 6:=by rfl
 rw [e1] at hO ⊢
 generalize ((Kv.rd 4).run (TS0 [] [6])).2=S1 at *
 obtain⟨A1,c1,A1',c1',As1,k1,n1,rfl⟩:=hO.parts
 simp only [Option.getD_some,Option.isSome_some]
 clear e1 hO hA hsz c_b1
 replace b1:=b1.ext hx
 replace hX:=hX.trans hx
 clear hx
 have b2:=Blk.new y1 (.cells #[.bool true,.slice A1 S1.acc.length c1,.slice A1' S1.nts.length c1',.slice As1 n1 k1] 33)
 replace b1:=b1.alloc (.cells #[.bool true,.slice A1 S1.acc.length c1,.slice A1' S1.nts.length c1',.slice As1 n1 k1] 33)
 replace hX:=hX.alloc (.cells #[.bool true,.slice A1 S1.acc.length c1,.slice A1' S1.nts.length c1',.slice As1 n1 k1] 33)
 have c_b1:=b1.cells
 have c_b2:=b2.cells
 go_wp2_with fail
 refine (hF _).mono ?_
 rintro e w2 ⟨rfl,hx⟩
 clear c_b1 c_b2
 replace b1:=b1.ext hx
 have c_b1:=b1.cells
 replace b2:=b2.ext hx
 have c_b2:=b2.cells
 replace hX:=hX.trans hx
 clear hx
 go_wp2_with fail
 refine (hN _).mono ?_
 rintro e w2 ⟨rfl,hx⟩
 clear c_b1 c_b2
 replace b1:=b1.ext hx
 have c_b1:=b1.cells
 replace b2:=b2.ext hx
 have c_b2:=b2.cells
 replace hX:=hX.trans hx
 clear hx
 go_wp2_with fail
 refine (hL _).mono ?_
 rintro e w2 ⟨rfl,hx⟩
 clear c_b1 c_b2
 replace b1:=b1.ext hx
 have c_b1:=b1.cells
 replace b2:=b2.ext hx
 have c_b2:=b2.cells
 replace hX:=hX.trans hx
 clear hx
 go_wp2_with fail
 refine (mayw0_p _).mono ?_
 rintro e w2 ⟨rfl,hx⟩
 clear c_b1 c_b2
 replace b1:=b1.ext hx
 have c_b1:=b1.cells
 replace b2:=b2.ext hx
 have c_b2:=b2.cells
 replace hX:=hX.trans hx
 clear hx
 go_wp2_with fail
 refine (mayw1_p _).mono ?_
 rintro e w2 ⟨rfl,hx⟩
 clear c_b1 c_b2
 replace b1:=b1.ext hx
 have c_b1:=b1.cells
 replace b2:=b2.ext hx
 have c_b2:=b2.cells
 replace hX:=hX.trans hx
 clear hx
 go_wp2_with fail
 refine (mayr2_p _).mono ?_
 rintro e w2 ⟨rfl,hx⟩
 clear c_b1 c_b2
 replace b1:=b1.ext hx
 have c_b1:=b1.cells
 replace b2:=b2.ext hx
 have c_b2:=b2.cells
 replace hX:=hX.trans hx
 clear hx
 go_wp2_with fail
 refine (finez_p _).mono ?_
 rintro e w2 ⟨rfl,hx⟩
 clear c_b1 c_b2
 replace b1:=b1.ext hx
 have c_b1:=b1.cells
 replace b2:=b2.ext hx
 have c_b2:=b2.cells
 replace hX:=hX.trans hx
 clear hx
 go_wp2_with fail
 go_ret
 exact⟨rfl,hX⟩
end Go.Proofs.Ytchahoiainbcaaa
namespace Kv
def thrB (n t:Int) (must:Bool):Bool:=decide (0<=t/\t<n)||(decide (t=-1)&&!must)
theorem clamp_most (t:Int):clamp t 255=mostT t:=by unfold clamp within mostT;omega
end Kv
namespace Go.Proofs.Ytchahoiainbcaaa
open Go.RowKit Kv
def BoolPost (w:World) (Q:Prop) (e:Ending) (w':World):Prop:=∃ b,e=.returned (.bool b)/\Ext w w'/\(b=true->Q)
theorem thread_b (n t:Int)(must:Bool)(w:World):Calls Try.prog 15 #[.int .i64 n,.int .i64 t,.bool must] w fun e w'=>e=.returned (.bool (thrB n t must))/\w=w':=by
 by_cases h:(0<=t/\t<n)∨(t=-1/\must=false)
 · have e:thrB n t must=true:=by unfold thrB;rcases h with h | ⟨h1,h2⟩ <;> simp [*]
   rw [e]
   exact thread_any n t must w h
 · have e:thrB n t must=false:=by
    unfold thrB
    simp only [Bool.or_eq_false_iff,Bool.and_eq_false_iff,decide_eq_false_iff_not,Bool.not_eq_false']
    refine⟨fun h1=>h (.inl h1),?_⟩
    by_cases h1:t=-1
    · right
      cases must
      · exact absurd (.inr ⟨h1,rfl⟩) h
      · rfl
    · left
      exact h1
   rw [e]
   by_cases h0:0<=t
   · have d1:decide (0<=t)=true:=by simpa using h0
     have d2:decide (t<n)=false:=by rw [decide_eq_false_iff_not];exact fun h1=>h (.inl ⟨h0,h1⟩)
     have d3:(t==-1)=false:=by rw [beq_eq_false_iff_ne];omega
     go_enter Try.func15,Try.ntmps15
     go_wp2_with fail
     go_ret
     exact⟨rfl,rfl⟩
   · have d1:decide (0<=t)=false:=by simpa using h0
     by_cases h1:t=-1
     · subst h1
       cases must
       · exact absurd (.inr ⟨rfl,rfl⟩) h
       · go_enter Try.func15,Try.ntmps15
         go_wp2_with fail
         go_ret
         exact⟨rfl,rfl⟩
     · have d3:(t==-1)=false:=by rw [beq_eq_false_iff_ne];exact h1
       go_enter Try.func15,Try.ntmps15
       go_wp2_with fail
       go_ret
       exact⟨rfl,rfl⟩
theorem cells17_r (r:Reg)(w:World)(hk:1<=r.kind/\r.kind<=7)(hn:1<=r.n/\r.n<=8):Calls Try.prog 16 #[encR r] w fun e w'=>e=.returned (.int .i64 (cells7 r))/\Ext w w':=by
 by_cases h:r.kind=1∨r.kind=6∨r.kind=7
 · rw [<- cells7_eq h hn.1]
   exact cells_r r w h hn
 have hk2:r.kind=2∨r.kind=3∨r.kind=4∨r.kind=5:=by omega
 clear h hk
 have hm:=mostT_bd r.top
 obtain⟨kind,base,loc,n,wr,rd,top⟩:=r
 simp only at hk2 hn hm
 unfold encR cells7
 simp only
 have hX:=Ext.refl w
 have b1:=Blk.new w (.cells #[.int .i64 kind,.int .i64 base,.int .i64 loc,.int .i64 n,.int .i64 wr,.int .i64 rd,.int .i64 top] 23)
 replace hX:=hX.alloc (.cells #[.int .i64 kind,.int .i64 base,.int .i64 loc,.int .i64 n,.int .i64 wr,.int .i64 rd,.int .i64 top] 23)
 have c_b1:=b1.cells
 go_enter Try.func16,Try.ntmps16
 go_wp2_with fail
 refine (rn_r ⟨kind,base,loc,n,wr,rd,top⟩ _ hn.1 hn.2).mono ?_
 rintro e w2 ⟨rfl,hx⟩
 clear c_b1
 replace b1:=b1.ext hx
 have c_b1:=b1.cells
 replace hX:=hX.trans hx
 clear hx
 rcases hk2 with rfl | rfl | rfl | rfl
 · go_wp2_with fail
   go_ret
   exact⟨rfl,hX⟩
 · go_wp2_with fail
   refine (clamp_r top 255 _).mono ?_
   rintro e w' ⟨rfl,rfl⟩
   rw [clamp_most]
   go_wp2_with fail
   go_ret
   exact⟨rfl,hX⟩
 · go_wp2_with fail
   go_ret
   exact⟨rfl,hX⟩
 · go_wp2_with fail
   go_ret
   exact⟨rfl,hX⟩
theorem locals17_r (r:Reg)(w:World)(hk:1<=r.kind/\r.kind<=7)(hn:1<=r.n/\r.n<=8):Calls Try.prog 17 #[encR r] w fun e w'=>e=.returned (.int .i64 (locals7 r))/\Ext w w':=by
 by_cases h:r.kind=1∨r.kind=6∨r.kind=7
 · rw [<- locals7_eq h hn.1]
   exact locals_r r w h hn
 have hk2:r.kind=2∨r.kind=3∨r.kind=4∨r.kind=5:=by omega
 clear h hk
 have hm:=mostT_bd r.top
 obtain⟨kind,base,loc,n,wr,rd,top⟩:=r
 simp only at hk2 hn hm
 unfold encR locals7
 simp only
 have hX:=Ext.refl w
 have b1:=Blk.new w (.cells #[.int .i64 kind,.int .i64 base,.int .i64 loc,.int .i64 n,.int .i64 wr,.int .i64 rd,.int .i64 top] 23)
 replace hX:=hX.alloc (.cells #[.int .i64 kind,.int .i64 base,.int .i64 loc,.int .i64 n,.int .i64 wr,.int .i64 rd,.int .i64 top] 23)
 have c_b1:=b1.cells
 go_enter Try.func17,Try.ntmps17
 go_wp2_with fail
 refine (rn_r ⟨kind,base,loc,n,wr,rd,top⟩ _ hn.1 hn.2).mono ?_
 rintro e w2 ⟨rfl,hx⟩
 clear c_b1
 replace b1:=b1.ext hx
 have c_b1:=b1.cells
 replace hX:=hX.trans hx
 clear hx
 rcases hk2 with rfl | rfl | rfl | rfl
 · go_wp2_with fail
   go_ret
   exact⟨rfl,hX⟩
 · go_wp2_with fail
   refine (clamp_r top 255 _).mono ?_
   rintro e w' ⟨rfl,rfl⟩
   rw [clamp_most]
   go_wp2_with fail
   go_ret
   exact⟨rfl,hX⟩
 · go_wp2_with fail
   go_ret
   exact⟨rfl,hX⟩
 · go_wp2_with fail
   go_ret
   exact⟨rfl,hX⟩
set_option maxRecDepth 100000 in
set_option maxHeartbeats 4000000 in
theorem fin1_r (base loc n wr rd top C D:Int)(w:World)(hb:0<=base/\base<=32768)(hl:0<=loc/\loc<=32768)(hn:1<=n/\n<=8)(hz:0<=C/\C<=6272/\0<=D/\D<=7072)
  (hC:∀ w,Calls Try.prog 16 #[.agg #[.int .i64 1,.int .i64 base,.int .i64 loc,.int .i64 n,.int .i64 wr,.int .i64 rd,.int .i64 top]] w fun e w'=>e=.returned (.int .i64 C)/\Ext w w')
  (hL:∀ w,Calls Try.prog 17 #[.agg #[.int .i64 1,.int .i64 base,.int .i64 loc,.int .i64 n,.int .i64 wr,.int .i64 rd,.int .i64 top]] w fun e w'=>e=.returned (.int .i64 D)/\Ext w w') :
  Calls Try.prog 4 #[.agg #[.int .i64 1,.int .i64 base,.int .i64 loc,.int .i64 n,.int .i64 wr,.int .i64 rd,.int .i64 top]] w (BoolPost w (thrB n wr false=true/\thrB n rd false=true/\True/\1<=top/\top<=1099511627776/\base+C<=32768/\loc+D<=32768)):=by
 have d1:decide (base<0)=false:=by simpa using hb.1
 have d2:decide (loc<0)=false:=by simpa using hl.1
 have d3:decide (n<1)=false:=by simpa using hn.1
 have d4:decide (8<n)=false:=by simpa using hn.2
 have d5:decide (32768<base)=false:=by simpa using hb.2
 have d6:decide (32768<loc)=false:=by simpa using hl.2
 have hT:=fun w=>thread_b n wr false w
 have hT2:=fun w=>thread_b n rd false w
 have hX:=Ext.refl w
 have b1:=Blk.new w (.cells #[.int .i64 1,.int .i64 base,.int .i64 loc,.int .i64 n,.int .i64 wr,.int .i64 rd,.int .i64 top] 23)
 replace hX:=hX.alloc (.cells #[.int .i64 1,.int .i64 base,.int .i64 loc,.int .i64 n,.int .i64 wr,.int .i64 rd,.int .i64 top] 23)
 have c_b1:=b1.cells
 cases t1:thrB n wr false
 · rw [t1] at hT
   go_enter Try.func4,Try.ntmps4
   go_wp2_with fail
   refine (hT _).mono ?_
   rintro e w' ⟨rfl,rfl⟩
   go_wp2_with fail
   go_ret
   exact⟨false,rfl,hX,fun h=>nomatch h⟩
 rw [t1] at hT
 cases t2:thrB n rd false
 · rw [t2] at hT2
   go_enter Try.func4,Try.ntmps4
   go_wp2_with fail
   refine (hT _).mono ?_
   rintro e w' ⟨rfl,rfl⟩
   go_wp2_with fail
   refine (hT2 _).mono ?_
   rintro e w' ⟨rfl,rfl⟩
   go_wp2_with fail
   go_ret
   exact⟨false,rfl,hX,fun h=>nomatch h⟩
 rw [t2] at hT2
 have h1w:=IntWalk.i64_in (base+C) (by omega)
 have h2w:=IntWalk.i64_in (loc+D) (by omega)
 have hf:∀ b:Bool,(b=true->1<=top/\top<=1099511627776/\base+C<=32768/\loc+D<=32768)->(b=true->true=true/\true=true/\True/\1<=top/\top<=1099511627776/\base+C<=32768/\loc+D<=32768):=fun b h hb=>⟨rfl,rfl,trivial,h hb⟩
 have hfh:=Lib.hid hf
 clear hf
 go_enter Try.func4,Try.ntmps4
 go_wp2_with fail
 refine (hT _).mono ?_
 rintro e w' ⟨rfl,rfl⟩
 go_wp2_with fail
 refine (hT2 _).mono ?_
 rintro e w' ⟨rfl,rfl⟩
 clear hT hT2 t1 t2
 go_wp2_with fail
 have k1:=b1.alloc (.cells #[.int .i64 0,.int .i64 1099511627776,.int .i64 1,.int .i64 255,.int .i64 1,.int .i64 1099511627776,.int .i64 1048576,.int .i64 255] 3)
 have k2:=Blk.new (w.alloc (.cells #[.int .i64 1,.int .i64 base,.int .i64 loc,.int .i64 n,.int .i64 wr,.int .i64 rd,.int .i64 top] 23)) (.cells #[.int .i64 0,.int .i64 1099511627776,.int .i64 1,.int .i64 255,.int .i64 1,.int .i64 1099511627776,.int .i64 1048576,.int .i64 255] 3)
 have hXW:=hX.alloc (.cells #[.int .i64 0,.int .i64 1099511627776,.int .i64 1,.int .i64 255,.int .i64 1,.int .i64 1099511627776,.int .i64 1048576,.int .i64 255] 3)
 simp only [World.size_alloc] at k2
 clear b1 c_b1 hX
 generalize World.alloc (World.alloc _ _) _=W at *
 have hX:=(Ext.refl W).drew
 have hS:∀ w',Ext W w'->(∀ i,w'.cell? ⟨w.heap.size,i,none⟩=(#[.int .i64 1,.int .i64 base,.int .i64 loc,.int .i64 n,.int .i64 wr,.int .i64 rd,.int .i64 top]:Array Value)[i]?)/\(∀ i,w'.cell? ⟨w.heap.size+1,i,none⟩=(#[.int .i64 0,.int .i64 1099511627776,.int .i64 1,.int .i64 255,.int .i64 1,.int .i64 1099511627776,.int .i64 1048576,.int .i64 255]:Array Value)[i]?):=fun w' hx=>⟨(k1.ext hx).cells,(k2.ext hx).cells⟩
 by_cases e7:1<=top
 · have d7:decide (1<=top)=true:=by simpa using e7
   by_cases e8:top<=1099511627776
   · have d8:decide (top<=1099511627776)=true:=by simpa using e8
     by_cases hc:base+C<=32768
     · have d9:decide (base+C<=32768)=true:=by simpa using hc
       go_region_held2 (fun w'=>(∀ i,w'.cell? ⟨w.heap.size,i,none⟩=(#[.int .i64 1,.int .i64 base,.int .i64 loc,.int .i64 n,.int .i64 wr,.int .i64 rd,.int .i64 top]:Array Value)[i]?)/\(∀ i,w'.cell? ⟨w.heap.size+1,i,none⟩=(#[.int .i64 0,.int .i64 1099511627776,.int .i64 1,.int .i64 255,.int .i64 1,.int .i64 1099511627776,.int .i64 1048576,.int .i64 255]:Array Value)[i]?)) (exact hS _ hX)
       (first
          | (go_at_call 16
             refine (hC _).mono ?_
             rintro e w2 ⟨rfl,hx⟩
             replace hX:=hX.trans hx
             clear hx)
          | (go_at_call 17
             refine (hL _).mono ?_
             rintro e w2 ⟨rfl,hx⟩
             replace hX:=hX.trans hx
             clear hx))
       go_wp2_with fail
       go_ret
       exact⟨_,rfl,hXW.trans hX,hfh.out _ fun h=>⟨e7,e8,hc,by simpa using h⟩⟩
     · have d9:decide (base+C<=32768)=false:=by simpa using hc
       refine wp_region_held_drew (S:=fun w'=>(∀ i,w'.cell? ⟨w.heap.size,i,none⟩=(#[.int .i64 1,.int .i64 base,.int .i64 loc,.int .i64 n,.int .i64 wr,.int .i64 rd,.int .i64 top]:Array Value)[i]?)/\(∀ i,w'.cell? ⟨w.heap.size+1,i,none⟩=(#[.int .i64 0,.int .i64 1099511627776,.int .i64 1,.int .i64 255,.int .i64 1,.int .i64 1099511627776,.int .i64 1048576,.int .i64 255]:Array Value)[i]?)) rfl (hS _ hX) (fun hHeld=>?_)
       refine tkb 0 ?_
       iterate 17
        refine tkn (v:=?_) rfl (by kernel_rfl) (fun _ _ _ h=>h) (by assumption) ?_ ?_
        rotate_left
        · (intro w hSw;(try dsimp only at hSw);go_simp;try with_reducible rfl)
        try simp only [put_pack]
       refine tke ?_
       refine wpAnyH_ready (rs:=[17]) (by kernel_rfl) (by simp) ?_
       refine AllReadyH.cons rfl (fun K hKK=>?_) (AllReadyH.nil)
       go_simp
       refine (hC _).mono ?_
       rintro e w2 ⟨rfl,hx⟩
       replace hX:=hX.trans hx
       clear hx
       refine hKK.out _ _ (hS _ hX) (fun hHeld=>?_)
       clear hKK K
       try dsimp only
       refine tkb 18 ?_
       iterate 4
        refine tkn (v:=?_) rfl (by kernel_rfl) (fun _ _ _ h=>h) (by assumption) ?_ ?_
        rotate_left
        · (intro w hSw;(try dsimp only at hSw);go_simp;try with_reducible rfl)
        try simp only [put_pack]
       refine tke ?_
       refine sk 22 rfl (by kernel_rfl) (fun _ _ _ h=>h) (by assumption) ?_
       try simp only [put_pack]
       refine sk 23 rfl (by kernel_rfl) (fun _ _ _ h=>h) (by assumption) ?_
       try simp only [put_pack]
       refine sk 24 rfl (by kernel_rfl) (fun _ _ _ h=>h) (by assumption) ?_
       try simp only [put_pack]
       refine sk 25 rfl (by kernel_rfl) (fun _ _ _ h=>h) (by assumption) ?_
       try simp only [put_pack]
       refine sk 26 rfl (by kernel_rfl) (fun _ _ _ h=>h) (by assumption) ?_
       try simp only [put_pack]
       refine sk 27 rfl (by kernel_rfl) (fun _ _ _ h=>h) (by assumption) ?_
       try simp only [put_pack]
       refine tk 28 (v:=?_) rfl (by kernel_rfl) (fun _ _ _ h=>h) (by assumption) ?_ ?_
       rotate_left
       · (intro w hSw;(try dsimp only at hSw);go_simp;try with_reducible rfl)
       try simp only [put_pack]
       refine tk 29 (v:=?_) rfl (by kernel_rfl) (fun _ _ _ h=>h) (by assumption) ?_ ?_
       rotate_left
       · (intro w hSw;(try dsimp only at hSw);go_simp;try with_reducible rfl)
       try simp only [put_pack]
       refine wpAnyH_done (by kernel_rfl) ?_ _
       go_simp
       go_wp2_with fail
       go_ret
       exact⟨false,rfl,hXW.trans hX,fun h=>nomatch h⟩
   · have d8:decide (top<=1099511627776)=false:=by simpa using e8
     refine wp_region_held_drew (S:=fun w'=>(∀ i,w'.cell? ⟨w.heap.size,i,none⟩=(#[.int .i64 1,.int .i64 base,.int .i64 loc,.int .i64 n,.int .i64 wr,.int .i64 rd,.int .i64 top]:Array Value)[i]?)/\(∀ i,w'.cell? ⟨w.heap.size+1,i,none⟩=(#[.int .i64 0,.int .i64 1099511627776,.int .i64 1,.int .i64 255,.int .i64 1,.int .i64 1099511627776,.int .i64 1048576,.int .i64 255]:Array Value)[i]?)) rfl (hS _ hX) (fun hHeld=>?_)
     refine tkb 0 ?_
     iterate 14
      refine tkn (v:=?_) rfl (by kernel_rfl) (fun _ _ _ h=>h) (by assumption) ?_ ?_
      rotate_left
      · (intro w hSw;(try dsimp only at hSw);go_simp;try with_reducible rfl)
      try simp only [put_pack]
     refine tke ?_
     refine sk 14 rfl (by kernel_rfl) (fun _ _ _ h=>h) (by assumption) ?_
     try simp only [put_pack]
     refine sk 15 rfl (by kernel_rfl) (fun _ _ _ h=>h) (by assumption) ?_
     try simp only [put_pack]
     refine sk 16 rfl (by kernel_rfl) (fun _ _ _ h=>h) (by assumption) ?_
     try simp only [put_pack]
     refine sk 17 rfl (by kernel_rfl) (fun _ _ _ h=>h) (by assumption) ?_
     try simp only [put_pack]
     refine sk 18 rfl (by kernel_rfl) (fun _ _ _ h=>h) (by assumption) ?_
     try simp only [put_pack]
     refine sk 19 rfl (by kernel_rfl) (fun _ _ _ h=>h) (by assumption) ?_
     try simp only [put_pack]
     refine tk 20 (v:=?_) rfl (by kernel_rfl) (fun _ _ _ h=>h) (by assumption) ?_ ?_
     rotate_left
     · (intro w hSw;(try dsimp only at hSw);go_simp;try with_reducible rfl)
     try simp only [put_pack]
     refine tk 21 (v:=?_) rfl (by kernel_rfl) (fun _ _ _ h=>h) (by assumption) ?_ ?_
     rotate_left
     · (intro w hSw;(try dsimp only at hSw);go_simp;try with_reducible rfl)
     try simp only [put_pack]
     refine sk 22 rfl (by kernel_rfl) (fun _ _ _ h=>h) (by assumption) ?_
     try simp only [put_pack]
     refine sk 23 rfl (by kernel_rfl) (fun _ _ _ h=>h) (by assumption) ?_
     try simp only [put_pack]
     refine sk 24 rfl (by kernel_rfl) (fun _ _ _ h=>h) (by assumption) ?_
     try simp only [put_pack]
     refine sk 25 rfl (by kernel_rfl) (fun _ _ _ h=>h) (by assumption) ?_
     try simp only [put_pack]
     refine sk 26 rfl (by kernel_rfl) (fun _ _ _ h=>h) (by assumption) ?_
     try simp only [put_pack]
     refine sk 27 rfl (by kernel_rfl) (fun _ _ _ h=>h) (by assumption) ?_
     try simp only [put_pack]
     refine tk 28 (v:=?_) rfl (by kernel_rfl) (fun _ _ _ h=>h) (by assumption) ?_ ?_
     rotate_left
     · (intro w hSw;(try dsimp only at hSw);go_simp;try with_reducible rfl)
     try simp only [put_pack]
     refine tk 29 (v:=?_) rfl (by kernel_rfl) (fun _ _ _ h=>h) (by assumption) ?_ ?_
     rotate_left
     · (intro w hSw;(try dsimp only at hSw);go_simp;try with_reducible rfl)
     try simp only [put_pack]
     refine wpAnyH_done (by kernel_rfl) ?_ _
     go_simp
     go_wp2_with fail
     go_ret
     exact⟨false,rfl,hXW.trans hX,fun h=>nomatch h⟩
 · have d7:decide (1<=top)=false:=by simpa using e7
   refine wp_region_held_drew (S:=fun w'=>(∀ i,w'.cell? ⟨w.heap.size,i,none⟩=(#[.int .i64 1,.int .i64 base,.int .i64 loc,.int .i64 n,.int .i64 wr,.int .i64 rd,.int .i64 top]:Array Value)[i]?)/\(∀ i,w'.cell? ⟨w.heap.size+1,i,none⟩=(#[.int .i64 0,.int .i64 1099511627776,.int .i64 1,.int .i64 255,.int .i64 1,.int .i64 1099511627776,.int .i64 1048576,.int .i64 255]:Array Value)[i]?)) rfl (hS _ hX) (fun hHeld=>?_)
   refine tkb 0 ?_
   iterate 4
    refine tkn (v:=?_) rfl (by kernel_rfl) (fun _ _ _ h=>h) (by assumption) ?_ ?_
    rotate_left
    · (intro w hSw;(try dsimp only at hSw);go_simp;try with_reducible rfl)
    try simp only [put_pack]
   refine tke ?_
   refine sk 4 rfl (by kernel_rfl) (fun _ _ _ h=>h) (by assumption) ?_
   try simp only [put_pack]
   refine sk 5 rfl (by kernel_rfl) (fun _ _ _ h=>h) (by assumption) ?_
   try simp only [put_pack]
   refine sk 6 rfl (by kernel_rfl) (fun _ _ _ h=>h) (by assumption) ?_
   try simp only [put_pack]
   refine sk 7 rfl (by kernel_rfl) (fun _ _ _ h=>h) (by assumption) ?_
   try simp only [put_pack]
   refine sk 8 rfl (by kernel_rfl) (fun _ _ _ h=>h) (by assumption) ?_
   try simp only [put_pack]
   refine sk 9 rfl (by kernel_rfl) (fun _ _ _ h=>h) (by assumption) ?_
   try simp only [put_pack]
   refine sk 10 rfl (by kernel_rfl) (fun _ _ _ h=>h) (by assumption) ?_
   try simp only [put_pack]
   refine sk 11 rfl (by kernel_rfl) (fun _ _ _ h=>h) (by assumption) ?_
   try simp only [put_pack]
   refine tk 12 (v:=?_) rfl (by kernel_rfl) (fun _ _ _ h=>h) (by assumption) ?_ ?_
   rotate_left
   · (intro w hSw;(try dsimp only at hSw);go_simp;try with_reducible rfl)
   try simp only [put_pack]
   refine tk 13 (v:=?_) rfl (by kernel_rfl) (fun _ _ _ h=>h) (by assumption) ?_ ?_
   rotate_left
   · (intro w hSw;(try dsimp only at hSw);go_simp;try with_reducible rfl)
   try simp only [put_pack]
   refine sk 14 rfl (by kernel_rfl) (fun _ _ _ h=>h) (by assumption) ?_
   try simp only [put_pack]
   refine sk 15 rfl (by kernel_rfl) (fun _ _ _ h=>h) (by assumption) ?_
   try simp only [put_pack]
   refine sk 16 rfl (by kernel_rfl) (fun _ _ _ h=>h) (by assumption) ?_
   try simp only [put_pack]
   refine sk 17 rfl (by kernel_rfl) (fun _ _ _ h=>h) (by assumption) ?_
   try simp only [put_pack]
   refine sk 18 rfl (by kernel_rfl) (fun _ _ _ h=>h) (by assumption) ?_
   try simp only [put_pack]
   refine sk 19 rfl (by kernel_rfl) (fun _ _ _ h=>h) (by assumption) ?_
   try simp only [put_pack]
   refine tk 20 (v:=?_) rfl (by kernel_rfl) (fun _ _ _ h=>h) (by assumption) ?_ ?_
   rotate_left
   · (intro w hSw;(try dsimp only at hSw);go_simp;try with_reducible rfl)
   try simp only [put_pack]
   refine tk 21 (v:=?_) rfl (by kernel_rfl) (fun _ _ _ h=>h) (by assumption) ?_ ?_
   rotate_left
   · (intro w hSw;(try dsimp only at hSw);go_simp;try with_reducible rfl)
   try simp only [put_pack]
   refine sk 22 rfl (by kernel_rfl) (fun _ _ _ h=>h) (by assumption) ?_
   try simp only [put_pack]
   refine sk 23 rfl (by kernel_rfl) (fun _ _ _ h=>h) (by assumption) ?_
   try simp only [put_pack]
   refine sk 24 rfl (by kernel_rfl) (fun _ _ _ h=>h) (by assumption) ?_
   try simp only [put_pack]
   refine sk 25 rfl (by kernel_rfl) (fun _ _ _ h=>h) (by assumption) ?_
   try simp only [put_pack]
   refine sk 26 rfl (by kernel_rfl) (fun _ _ _ h=>h) (by assumption) ?_
   try simp only [put_pack]
   refine sk 27 rfl (by kernel_rfl) (fun _ _ _ h=>h) (by assumption) ?_
   try simp only [put_pack]
   refine tk 28 (v:=?_) rfl (by kernel_rfl) (fun _ _ _ h=>h) (by assumption) ?_ ?_
   rotate_left
   · (intro w hSw;(try dsimp only at hSw);go_simp;try with_reducible rfl)
   try simp only [put_pack]
   refine tk 29 (v:=?_) rfl (by kernel_rfl) (fun _ _ _ h=>h) (by assumption) ?_ ?_
   rotate_left
   · (intro w hSw;(try dsimp only at hSw);go_simp;try with_reducible rfl)
   try simp only [put_pack]
   refine wpAnyH_done (by kernel_rfl) ?_ _
   go_simp
   go_wp2_with fail
   go_ret
   exact⟨false,rfl,hXW.trans hX,fun h=>nomatch h⟩
set_option maxRecDepth 100000 in
set_option maxHeartbeats 4000000 in
theorem fin2_r (base loc n wr rd top C D:Int)(w:World)(hb:0<=base/\base<=32768)(hl:0<=loc/\loc<=32768)(hn:1<=n/\n<=8)(hz:0<=C/\C<=6272/\0<=D/\D<=7072)
  (hC:∀ w,Calls Try.prog 16 #[.agg #[.int .i64 2,.int .i64 base,.int .i64 loc,.int .i64 n,.int .i64 wr,.int .i64 rd,.int .i64 top]] w fun e w'=>e=.returned (.int .i64 C)/\Ext w w')
  (hL:∀ w,Calls Try.prog 17 #[.agg #[.int .i64 2,.int .i64 base,.int .i64 loc,.int .i64 n,.int .i64 wr,.int .i64 rd,.int .i64 top]] w fun e w'=>e=.returned (.int .i64 D)/\Ext w w') :
  Calls Try.prog 4 #[.agg #[.int .i64 2,.int .i64 base,.int .i64 loc,.int .i64 n,.int .i64 wr,.int .i64 rd,.int .i64 top]] w (BoolPost w (thrB n wr true=true/\thrB n rd false=true/\True/\1<=top/\top<=1/\base+C<=32768/\loc+D<=32768)):=by
 have d1:decide (base<0)=false:=by simpa using hb.1
 have d2:decide (loc<0)=false:=by simpa using hl.1
 have d3:decide (n<1)=false:=by simpa using hn.1
 have d4:decide (8<n)=false:=by simpa using hn.2
 have d5:decide (32768<base)=false:=by simpa using hb.2
 have d6:decide (32768<loc)=false:=by simpa using hl.2
 have hT:=fun w=>thread_b n wr true w
 have hT2:=fun w=>thread_b n rd false w
 have hX:=Ext.refl w
 have b1:=Blk.new w (.cells #[.int .i64 2,.int .i64 base,.int .i64 loc,.int .i64 n,.int .i64 wr,.int .i64 rd,.int .i64 top] 23)
 replace hX:=hX.alloc (.cells #[.int .i64 2,.int .i64 base,.int .i64 loc,.int .i64 n,.int .i64 wr,.int .i64 rd,.int .i64 top] 23)
 have c_b1:=b1.cells
 cases t1:thrB n wr true
 · rw [t1] at hT
   go_enter Try.func4,Try.ntmps4
   go_wp2_with fail
   refine (hT _).mono ?_
   rintro e w' ⟨rfl,rfl⟩
   go_wp2_with fail
   go_ret
   exact⟨false,rfl,hX,fun h=>nomatch h⟩
 rw [t1] at hT
 cases t2:thrB n rd false
 · rw [t2] at hT2
   go_enter Try.func4,Try.ntmps4
   go_wp2_with fail
   refine (hT _).mono ?_
   rintro e w' ⟨rfl,rfl⟩
   go_wp2_with fail
   refine (hT2 _).mono ?_
   rintro e w' ⟨rfl,rfl⟩
   go_wp2_with fail
   go_ret
   exact⟨false,rfl,hX,fun h=>nomatch h⟩
 rw [t2] at hT2
 have h1w:=IntWalk.i64_in (base+C) (by omega)
 have h2w:=IntWalk.i64_in (loc+D) (by omega)
 have hf:∀ b:Bool,(b=true->1<=top/\top<=1/\base+C<=32768/\loc+D<=32768)->(b=true->true=true/\true=true/\True/\1<=top/\top<=1/\base+C<=32768/\loc+D<=32768):=fun b h hb=>⟨rfl,rfl,trivial,h hb⟩
 have hfh:=Lib.hid hf
 clear hf
 go_enter Try.func4,Try.ntmps4
 go_wp2_with fail
 refine (hT _).mono ?_
 rintro e w' ⟨rfl,rfl⟩
 go_wp2_with fail
 refine (hT2 _).mono ?_
 rintro e w' ⟨rfl,rfl⟩
 clear hT hT2 t1 t2
 go_wp2_with fail
 have k1:=b1.alloc (.cells #[.int .i64 0,.int .i64 1099511627776,.int .i64 1,.int .i64 255,.int .i64 1,.int .i64 1099511627776,.int .i64 1048576,.int .i64 255] 3)
 have k2:=Blk.new (w.alloc (.cells #[.int .i64 2,.int .i64 base,.int .i64 loc,.int .i64 n,.int .i64 wr,.int .i64 rd,.int .i64 top] 23)) (.cells #[.int .i64 0,.int .i64 1099511627776,.int .i64 1,.int .i64 255,.int .i64 1,.int .i64 1099511627776,.int .i64 1048576,.int .i64 255] 3)
 have hXW:=hX.alloc (.cells #[.int .i64 0,.int .i64 1099511627776,.int .i64 1,.int .i64 255,.int .i64 1,.int .i64 1099511627776,.int .i64 1048576,.int .i64 255] 3)
 simp only [World.size_alloc] at k2
 clear b1 c_b1 hX
 generalize World.alloc (World.alloc _ _) _=W at *
 have hX:=(Ext.refl W).drew
 have hS:∀ w',Ext W w'->(∀ i,w'.cell? ⟨w.heap.size,i,none⟩=(#[.int .i64 2,.int .i64 base,.int .i64 loc,.int .i64 n,.int .i64 wr,.int .i64 rd,.int .i64 top]:Array Value)[i]?)/\(∀ i,w'.cell? ⟨w.heap.size+1,i,none⟩=(#[.int .i64 0,.int .i64 1099511627776,.int .i64 1,.int .i64 255,.int .i64 1,.int .i64 1099511627776,.int .i64 1048576,.int .i64 255]:Array Value)[i]?):=fun w' hx=>⟨(k1.ext hx).cells,(k2.ext hx).cells⟩
 by_cases e7:1<=top
 · have d7:decide (1<=top)=true:=by simpa using e7
   by_cases e8:top<=1
   · have d8:decide (top<=1)=true:=by simpa using e8
     by_cases hc:base+C<=32768
     · have d9:decide (base+C<=32768)=true:=by simpa using hc
       go_region_held2 (fun w'=>(∀ i,w'.cell? ⟨w.heap.size,i,none⟩=(#[.int .i64 2,.int .i64 base,.int .i64 loc,.int .i64 n,.int .i64 wr,.int .i64 rd,.int .i64 top]:Array Value)[i]?)/\(∀ i,w'.cell? ⟨w.heap.size+1,i,none⟩=(#[.int .i64 0,.int .i64 1099511627776,.int .i64 1,.int .i64 255,.int .i64 1,.int .i64 1099511627776,.int .i64 1048576,.int .i64 255]:Array Value)[i]?)) (exact hS _ hX)
       (first
          | (go_at_call 16
             refine (hC _).mono ?_
             rintro e w2 ⟨rfl,hx⟩
             replace hX:=hX.trans hx
             clear hx)
          | (go_at_call 17
             refine (hL _).mono ?_
             rintro e w2 ⟨rfl,hx⟩
             replace hX:=hX.trans hx
             clear hx))
       go_wp2_with fail
       go_ret
       exact⟨_,rfl,hXW.trans hX,hfh.out _ fun h=>⟨e7,e8,hc,by simpa using h⟩⟩
     · have d9:decide (base+C<=32768)=false:=by simpa using hc
       refine wp_region_held_drew (S:=fun w'=>(∀ i,w'.cell? ⟨w.heap.size,i,none⟩=(#[.int .i64 2,.int .i64 base,.int .i64 loc,.int .i64 n,.int .i64 wr,.int .i64 rd,.int .i64 top]:Array Value)[i]?)/\(∀ i,w'.cell? ⟨w.heap.size+1,i,none⟩=(#[.int .i64 0,.int .i64 1099511627776,.int .i64 1,.int .i64 255,.int .i64 1,.int .i64 1099511627776,.int .i64 1048576,.int .i64 255]:Array Value)[i]?)) rfl (hS _ hX) (fun hHeld=>?_)
       refine tkb 0 ?_
       iterate 17
        refine tkn (v:=?_) rfl (by kernel_rfl) (fun _ _ _ h=>h) (by assumption) ?_ ?_
        rotate_left
        · (intro w hSw;(try dsimp only at hSw);go_simp;try with_reducible rfl)
        try simp only [put_pack]
       refine tke ?_
       refine wpAnyH_ready (rs:=[17]) (by kernel_rfl) (by simp) ?_
       refine AllReadyH.cons rfl (fun K hKK=>?_) (AllReadyH.nil)
       go_simp
       refine (hC _).mono ?_
       rintro e w2 ⟨rfl,hx⟩
       replace hX:=hX.trans hx
       clear hx
       refine hKK.out _ _ (hS _ hX) (fun hHeld=>?_)
       clear hKK K
       try dsimp only
       refine tkb 18 ?_
       iterate 4
        refine tkn (v:=?_) rfl (by kernel_rfl) (fun _ _ _ h=>h) (by assumption) ?_ ?_
        rotate_left
        · (intro w hSw;(try dsimp only at hSw);go_simp;try with_reducible rfl)
        try simp only [put_pack]
       refine tke ?_
       refine sk 22 rfl (by kernel_rfl) (fun _ _ _ h=>h) (by assumption) ?_
       try simp only [put_pack]
       refine sk 23 rfl (by kernel_rfl) (fun _ _ _ h=>h) (by assumption) ?_
       try simp only [put_pack]
       refine sk 24 rfl (by kernel_rfl) (fun _ _ _ h=>h) (by assumption) ?_
       try simp only [put_pack]
       refine sk 25 rfl (by kernel_rfl) (fun _ _ _ h=>h) (by assumption) ?_
       try simp only [put_pack]
       refine sk 26 rfl (by kernel_rfl) (fun _ _ _ h=>h) (by assumption) ?_
       try simp only [put_pack]
       refine sk 27 rfl (by kernel_rfl) (fun _ _ _ h=>h) (by assumption) ?_
       try simp only [put_pack]
       refine tk 28 (v:=?_) rfl (by kernel_rfl) (fun _ _ _ h=>h) (by assumption) ?_ ?_
       rotate_left
       · (intro w hSw;(try dsimp only at hSw);go_simp;try with_reducible rfl)
       try simp only [put_pack]
       refine tk 29 (v:=?_) rfl (by kernel_rfl) (fun _ _ _ h=>h) (by assumption) ?_ ?_
       rotate_left
       · (intro w hSw;(try dsimp only at hSw);go_simp;try with_reducible rfl)
       try simp only [put_pack]
       refine wpAnyH_done (by kernel_rfl) ?_ _
       go_simp
       go_wp2_with fail
       go_ret
       exact⟨false,rfl,hXW.trans hX,fun h=>nomatch h⟩
   · have d8:decide (top<=1)=false:=by simpa using e8
     refine wp_region_held_drew (S:=fun w'=>(∀ i,w'.cell? ⟨w.heap.size,i,none⟩=(#[.int .i64 2,.int .i64 base,.int .i64 loc,.int .i64 n,.int .i64 wr,.int .i64 rd,.int .i64 top]:Array Value)[i]?)/\(∀ i,w'.cell? ⟨w.heap.size+1,i,none⟩=(#[.int .i64 0,.int .i64 1099511627776,.int .i64 1,.int .i64 255,.int .i64 1,.int .i64 1099511627776,.int .i64 1048576,.int .i64 255]:Array Value)[i]?)) rfl (hS _ hX) (fun hHeld=>?_)
     refine tkb 0 ?_
     iterate 14
      refine tkn (v:=?_) rfl (by kernel_rfl) (fun _ _ _ h=>h) (by assumption) ?_ ?_
      rotate_left
      · (intro w hSw;(try dsimp only at hSw);go_simp;try with_reducible rfl)
      try simp only [put_pack]
     refine tke ?_
     refine sk 14 rfl (by kernel_rfl) (fun _ _ _ h=>h) (by assumption) ?_
     try simp only [put_pack]
     refine sk 15 rfl (by kernel_rfl) (fun _ _ _ h=>h) (by assumption) ?_
     try simp only [put_pack]
     refine sk 16 rfl (by kernel_rfl) (fun _ _ _ h=>h) (by assumption) ?_
     try simp only [put_pack]
     refine sk 17 rfl (by kernel_rfl) (fun _ _ _ h=>h) (by assumption) ?_
     try simp only [put_pack]
     refine sk 18 rfl (by kernel_rfl) (fun _ _ _ h=>h) (by assumption) ?_
     try simp only [put_pack]
     refine sk 19 rfl (by kernel_rfl) (fun _ _ _ h=>h) (by assumption) ?_
     try simp only [put_pack]
     refine tk 20 (v:=?_) rfl (by kernel_rfl) (fun _ _ _ h=>h) (by assumption) ?_ ?_
     rotate_left
     · (intro w hSw;(try dsimp only at hSw);go_simp;try with_reducible rfl)
     try simp only [put_pack]
     refine tk 21 (v:=?_) rfl (by kernel_rfl) (fun _ _ _ h=>h) (by assumption) ?_ ?_
     rotate_left
     · (intro w hSw;(try dsimp only at hSw);go_simp;try with_reducible rfl)
     try simp only [put_pack]
     refine sk 22 rfl (by kernel_rfl) (fun _ _ _ h=>h) (by assumption) ?_
     try simp only [put_pack]
     refine sk 23 rfl (by kernel_rfl) (fun _ _ _ h=>h) (by assumption) ?_
     try simp only [put_pack]
     refine sk 24 rfl (by kernel_rfl) (fun _ _ _ h=>h) (by assumption) ?_
     try simp only [put_pack]
     refine sk 25 rfl (by kernel_rfl) (fun _ _ _ h=>h) (by assumption) ?_
     try simp only [put_pack]
     refine sk 26 rfl (by kernel_rfl) (fun _ _ _ h=>h) (by assumption) ?_
     try simp only [put_pack]
     refine sk 27 rfl (by kernel_rfl) (fun _ _ _ h=>h) (by assumption) ?_
     try simp only [put_pack]
     refine tk 28 (v:=?_) rfl (by kernel_rfl) (fun _ _ _ h=>h) (by assumption) ?_ ?_
     rotate_left
     · (intro w hSw;(try dsimp only at hSw);go_simp;try with_reducible rfl)
     try simp only [put_pack]
     refine tk 29 (v:=?_) rfl (by kernel_rfl) (fun _ _ _ h=>h) (by assumption) ?_ ?_
     rotate_left
     · (intro w hSw;(try dsimp only at hSw);go_simp;try with_reducible rfl)
     try simp only [put_pack]
     refine wpAnyH_done (by kernel_rfl) ?_ _
     go_simp
     go_wp2_with fail
     go_ret
     exact⟨false,rfl,hXW.trans hX,fun h=>nomatch h⟩
 · have d7:decide (1<=top)=false:=by simpa using e7
   refine wp_region_held_drew (S:=fun w'=>(∀ i,w'.cell? ⟨w.heap.size,i,none⟩=(#[.int .i64 2,.int .i64 base,.int .i64 loc,.int .i64 n,.int .i64 wr,.int .i64 rd,.int .i64 top]:Array Value)[i]?)/\(∀ i,w'.cell? ⟨w.heap.size+1,i,none⟩=(#[.int .i64 0,.int .i64 1099511627776,.int .i64 1,.int .i64 255,.int .i64 1,.int .i64 1099511627776,.int .i64 1048576,.int .i64 255]:Array Value)[i]?)) rfl (hS _ hX) (fun hHeld=>?_)
   refine tkb 0 ?_
   iterate 4
    refine tkn (v:=?_) rfl (by kernel_rfl) (fun _ _ _ h=>h) (by assumption) ?_ ?_
    rotate_left
    · (intro w hSw;(try dsimp only at hSw);go_simp;try with_reducible rfl)
    try simp only [put_pack]
   refine tke ?_
   refine sk 4 rfl (by kernel_rfl) (fun _ _ _ h=>h) (by assumption) ?_
   try simp only [put_pack]
   refine sk 5 rfl (by kernel_rfl) (fun _ _ _ h=>h) (by assumption) ?_
   try simp only [put_pack]
   refine sk 6 rfl (by kernel_rfl) (fun _ _ _ h=>h) (by assumption) ?_
   try simp only [put_pack]
   refine sk 7 rfl (by kernel_rfl) (fun _ _ _ h=>h) (by assumption) ?_
   try simp only [put_pack]
   refine sk 8 rfl (by kernel_rfl) (fun _ _ _ h=>h) (by assumption) ?_
   try simp only [put_pack]
   refine sk 9 rfl (by kernel_rfl) (fun _ _ _ h=>h) (by assumption) ?_
   try simp only [put_pack]
   refine sk 10 rfl (by kernel_rfl) (fun _ _ _ h=>h) (by assumption) ?_
   try simp only [put_pack]
   refine sk 11 rfl (by kernel_rfl) (fun _ _ _ h=>h) (by assumption) ?_
   try simp only [put_pack]
   refine tk 12 (v:=?_) rfl (by kernel_rfl) (fun _ _ _ h=>h) (by assumption) ?_ ?_
   rotate_left
   · (intro w hSw;(try dsimp only at hSw);go_simp;try with_reducible rfl)
   try simp only [put_pack]
   refine tk 13 (v:=?_) rfl (by kernel_rfl) (fun _ _ _ h=>h) (by assumption) ?_ ?_
   rotate_left
   · (intro w hSw;(try dsimp only at hSw);go_simp;try with_reducible rfl)
   try simp only [put_pack]
   refine sk 14 rfl (by kernel_rfl) (fun _ _ _ h=>h) (by assumption) ?_
   try simp only [put_pack]
   refine sk 15 rfl (by kernel_rfl) (fun _ _ _ h=>h) (by assumption) ?_
   try simp only [put_pack]
   refine sk 16 rfl (by kernel_rfl) (fun _ _ _ h=>h) (by assumption) ?_
   try simp only [put_pack]
   refine sk 17 rfl (by kernel_rfl) (fun _ _ _ h=>h) (by assumption) ?_
   try simp only [put_pack]
   refine sk 18 rfl (by kernel_rfl) (fun _ _ _ h=>h) (by assumption) ?_
   try simp only [put_pack]
   refine sk 19 rfl (by kernel_rfl) (fun _ _ _ h=>h) (by assumption) ?_
   try simp only [put_pack]
   refine tk 20 (v:=?_) rfl (by kernel_rfl) (fun _ _ _ h=>h) (by assumption) ?_ ?_
   rotate_left
   · (intro w hSw;(try dsimp only at hSw);go_simp;try with_reducible rfl)
   try simp only [put_pack]
   refine tk 21 (v:=?_) rfl (by kernel_rfl) (fun _ _ _ h=>h) (by assumption) ?_ ?_
   rotate_left
   · (intro w hSw;(try dsimp only at hSw);go_simp;try with_reducible rfl)
   try simp only [put_pack]
   refine sk 22 rfl (by kernel_rfl) (fun _ _ _ h=>h) (by assumption) ?_
   try simp only [put_pack]
   refine sk 23 rfl (by kernel_rfl) (fun _ _ _ h=>h) (by assumption) ?_
   try simp only [put_pack]
   refine sk 24 rfl (by kernel_rfl) (fun _ _ _ h=>h) (by assumption) ?_
   try simp only [put_pack]
   refine sk 25 rfl (by kernel_rfl) (fun _ _ _ h=>h) (by assumption) ?_
   try simp only [put_pack]
   refine sk 26 rfl (by kernel_rfl) (fun _ _ _ h=>h) (by assumption) ?_
   try simp only [put_pack]
   refine sk 27 rfl (by kernel_rfl) (fun _ _ _ h=>h) (by assumption) ?_
   try simp only [put_pack]
   refine tk 28 (v:=?_) rfl (by kernel_rfl) (fun _ _ _ h=>h) (by assumption) ?_ ?_
   rotate_left
   · (intro w hSw;(try dsimp only at hSw);go_simp;try with_reducible rfl)
   try simp only [put_pack]
   refine tk 29 (v:=?_) rfl (by kernel_rfl) (fun _ _ _ h=>h) (by assumption) ?_ ?_
   rotate_left
   · (intro w hSw;(try dsimp only at hSw);go_simp;try with_reducible rfl)
   try simp only [put_pack]
   refine wpAnyH_done (by kernel_rfl) ?_ _
   go_simp
   go_wp2_with fail
   go_ret
   exact⟨false,rfl,hXW.trans hX,fun h=>nomatch h⟩
set_option maxRecDepth 100000 in
set_option maxHeartbeats 4000000 in
theorem fin3_r (base loc n wr rd top C D:Int)(w:World)(hb:0<=base/\base<=32768)(hl:0<=loc/\loc<=32768)(hn:1<=n/\n<=8)(hz:0<=C/\C<=6272/\0<=D/\D<=7072)
  (hC:∀ w,Calls Try.prog 16 #[.agg #[.int .i64 3,.int .i64 base,.int .i64 loc,.int .i64 n,.int .i64 wr,.int .i64 rd,.int .i64 top]] w fun e w'=>e=.returned (.int .i64 C)/\Ext w w')
  (hL:∀ w,Calls Try.prog 17 #[.agg #[.int .i64 3,.int .i64 base,.int .i64 loc,.int .i64 n,.int .i64 wr,.int .i64 rd,.int .i64 top]] w fun e w'=>e=.returned (.int .i64 D)/\Ext w w') :
  Calls Try.prog 4 #[.agg #[.int .i64 3,.int .i64 base,.int .i64 loc,.int .i64 n,.int .i64 wr,.int .i64 rd,.int .i64 top]] w (BoolPost w (thrB n wr true=true/\thrB n rd false=true/\True/\1<=top/\top<=255/\base+C<=32768/\loc+D<=32768)):=by
 have d1:decide (base<0)=false:=by simpa using hb.1
 have d2:decide (loc<0)=false:=by simpa using hl.1
 have d3:decide (n<1)=false:=by simpa using hn.1
 have d4:decide (8<n)=false:=by simpa using hn.2
 have d5:decide (32768<base)=false:=by simpa using hb.2
 have d6:decide (32768<loc)=false:=by simpa using hl.2
 have hT:=fun w=>thread_b n wr true w
 have hT2:=fun w=>thread_b n rd false w
 have hX:=Ext.refl w
 have b1:=Blk.new w (.cells #[.int .i64 3,.int .i64 base,.int .i64 loc,.int .i64 n,.int .i64 wr,.int .i64 rd,.int .i64 top] 23)
 replace hX:=hX.alloc (.cells #[.int .i64 3,.int .i64 base,.int .i64 loc,.int .i64 n,.int .i64 wr,.int .i64 rd,.int .i64 top] 23)
 have c_b1:=b1.cells
 cases t1:thrB n wr true
 · rw [t1] at hT
   go_enter Try.func4,Try.ntmps4
   go_wp2_with fail
   refine (hT _).mono ?_
   rintro e w' ⟨rfl,rfl⟩
   go_wp2_with fail
   go_ret
   exact⟨false,rfl,hX,fun h=>nomatch h⟩
 rw [t1] at hT
 cases t2:thrB n rd false
 · rw [t2] at hT2
   go_enter Try.func4,Try.ntmps4
   go_wp2_with fail
   refine (hT _).mono ?_
   rintro e w' ⟨rfl,rfl⟩
   go_wp2_with fail
   refine (hT2 _).mono ?_
   rintro e w' ⟨rfl,rfl⟩
   go_wp2_with fail
   go_ret
   exact⟨false,rfl,hX,fun h=>nomatch h⟩
 rw [t2] at hT2
 have h1w:=IntWalk.i64_in (base+C) (by omega)
 have h2w:=IntWalk.i64_in (loc+D) (by omega)
 have hf:∀ b:Bool,(b=true->1<=top/\top<=255/\base+C<=32768/\loc+D<=32768)->(b=true->true=true/\true=true/\True/\1<=top/\top<=255/\base+C<=32768/\loc+D<=32768):=fun b h hb=>⟨rfl,rfl,trivial,h hb⟩
 have hfh:=Lib.hid hf
 clear hf
 go_enter Try.func4,Try.ntmps4
 go_wp2_with fail
 refine (hT _).mono ?_
 rintro e w' ⟨rfl,rfl⟩
 go_wp2_with fail
 refine (hT2 _).mono ?_
 rintro e w' ⟨rfl,rfl⟩
 clear hT hT2 t1 t2
 go_wp2_with fail
 have k1:=b1.alloc (.cells #[.int .i64 0,.int .i64 1099511627776,.int .i64 1,.int .i64 255,.int .i64 1,.int .i64 1099511627776,.int .i64 1048576,.int .i64 255] 3)
 have k2:=Blk.new (w.alloc (.cells #[.int .i64 3,.int .i64 base,.int .i64 loc,.int .i64 n,.int .i64 wr,.int .i64 rd,.int .i64 top] 23)) (.cells #[.int .i64 0,.int .i64 1099511627776,.int .i64 1,.int .i64 255,.int .i64 1,.int .i64 1099511627776,.int .i64 1048576,.int .i64 255] 3)
 have hXW:=hX.alloc (.cells #[.int .i64 0,.int .i64 1099511627776,.int .i64 1,.int .i64 255,.int .i64 1,.int .i64 1099511627776,.int .i64 1048576,.int .i64 255] 3)
 simp only [World.size_alloc] at k2
 clear b1 c_b1 hX
 generalize World.alloc (World.alloc _ _) _=W at *
 have hX:=(Ext.refl W).drew
 have hS:∀ w',Ext W w'->(∀ i,w'.cell? ⟨w.heap.size,i,none⟩=(#[.int .i64 3,.int .i64 base,.int .i64 loc,.int .i64 n,.int .i64 wr,.int .i64 rd,.int .i64 top]:Array Value)[i]?)/\(∀ i,w'.cell? ⟨w.heap.size+1,i,none⟩=(#[.int .i64 0,.int .i64 1099511627776,.int .i64 1,.int .i64 255,.int .i64 1,.int .i64 1099511627776,.int .i64 1048576,.int .i64 255]:Array Value)[i]?):=fun w' hx=>⟨(k1.ext hx).cells,(k2.ext hx).cells⟩
 by_cases e7:1<=top
 · have d7:decide (1<=top)=true:=by simpa using e7
   by_cases e8:top<=255
   · have d8:decide (top<=255)=true:=by simpa using e8
     by_cases hc:base+C<=32768
     · have d9:decide (base+C<=32768)=true:=by simpa using hc
       go_region_held2 (fun w'=>(∀ i,w'.cell? ⟨w.heap.size,i,none⟩=(#[.int .i64 3,.int .i64 base,.int .i64 loc,.int .i64 n,.int .i64 wr,.int .i64 rd,.int .i64 top]:Array Value)[i]?)/\(∀ i,w'.cell? ⟨w.heap.size+1,i,none⟩=(#[.int .i64 0,.int .i64 1099511627776,.int .i64 1,.int .i64 255,.int .i64 1,.int .i64 1099511627776,.int .i64 1048576,.int .i64 255]:Array Value)[i]?)) (exact hS _ hX)
       (first
          | (go_at_call 16
             refine (hC _).mono ?_
             rintro e w2 ⟨rfl,hx⟩
             replace hX:=hX.trans hx
             clear hx)
          | (go_at_call 17
             refine (hL _).mono ?_
             rintro e w2 ⟨rfl,hx⟩
             replace hX:=hX.trans hx
             clear hx))
       go_wp2_with fail
       go_ret
       exact⟨_,rfl,hXW.trans hX,hfh.out _ fun h=>⟨e7,e8,hc,by simpa using h⟩⟩
     · have d9:decide (base+C<=32768)=false:=by simpa using hc
       refine wp_region_held_drew (S:=fun w'=>(∀ i,w'.cell? ⟨w.heap.size,i,none⟩=(#[.int .i64 3,.int .i64 base,.int .i64 loc,.int .i64 n,.int .i64 wr,.int .i64 rd,.int .i64 top]:Array Value)[i]?)/\(∀ i,w'.cell? ⟨w.heap.size+1,i,none⟩=(#[.int .i64 0,.int .i64 1099511627776,.int .i64 1,.int .i64 255,.int .i64 1,.int .i64 1099511627776,.int .i64 1048576,.int .i64 255]:Array Value)[i]?)) rfl (hS _ hX) (fun hHeld=>?_)
       refine tkb 0 ?_
       iterate 17
        refine tkn (v:=?_) rfl (by kernel_rfl) (fun _ _ _ h=>h) (by assumption) ?_ ?_
        rotate_left
        · (intro w hSw;(try dsimp only at hSw);go_simp;try with_reducible rfl)
        try simp only [put_pack]
       refine tke ?_
       refine wpAnyH_ready (rs:=[17]) (by kernel_rfl) (by simp) ?_
       refine AllReadyH.cons rfl (fun K hKK=>?_) (AllReadyH.nil)
       go_simp
       refine (hC _).mono ?_
       rintro e w2 ⟨rfl,hx⟩
       replace hX:=hX.trans hx
       clear hx
       refine hKK.out _ _ (hS _ hX) (fun hHeld=>?_)
       clear hKK K
       try dsimp only
       refine tkb 18 ?_
       iterate 4
        refine tkn (v:=?_) rfl (by kernel_rfl) (fun _ _ _ h=>h) (by assumption) ?_ ?_
        rotate_left
        · (intro w hSw;(try dsimp only at hSw);go_simp;try with_reducible rfl)
        try simp only [put_pack]
       refine tke ?_
       refine sk 22 rfl (by kernel_rfl) (fun _ _ _ h=>h) (by assumption) ?_
       try simp only [put_pack]
       refine sk 23 rfl (by kernel_rfl) (fun _ _ _ h=>h) (by assumption) ?_
       try simp only [put_pack]
       refine sk 24 rfl (by kernel_rfl) (fun _ _ _ h=>h) (by assumption) ?_
       try simp only [put_pack]
       refine sk 25 rfl (by kernel_rfl) (fun _ _ _ h=>h) (by assumption) ?_
       try simp only [put_pack]
       refine sk 26 rfl (by kernel_rfl) (fun _ _ _ h=>h) (by assumption) ?_
       try simp only [put_pack]
       refine sk 27 rfl (by kernel_rfl) (fun _ _ _ h=>h) (by assumption) ?_
       try simp only [put_pack]
       refine tk 28 (v:=?_) rfl (by kernel_rfl) (fun _ _ _ h=>h) (by assumption) ?_ ?_
       rotate_left
       · (intro w hSw;(try dsimp only at hSw);go_simp;try with_reducible rfl)
       try simp only [put_pack]
       refine tk 29 (v:=?_) rfl (by kernel_rfl) (fun _ _ _ h=>h) (by assumption) ?_ ?_
       rotate_left
       · (intro w hSw;(try dsimp only at hSw);go_simp;try with_reducible rfl)
       try simp only [put_pack]
       refine wpAnyH_done (by kernel_rfl) ?_ _
       go_simp
       go_wp2_with fail
       go_ret
       exact⟨false,rfl,hXW.trans hX,fun h=>nomatch h⟩
   · have d8:decide (top<=255)=false:=by simpa using e8
     refine wp_region_held_drew (S:=fun w'=>(∀ i,w'.cell? ⟨w.heap.size,i,none⟩=(#[.int .i64 3,.int .i64 base,.int .i64 loc,.int .i64 n,.int .i64 wr,.int .i64 rd,.int .i64 top]:Array Value)[i]?)/\(∀ i,w'.cell? ⟨w.heap.size+1,i,none⟩=(#[.int .i64 0,.int .i64 1099511627776,.int .i64 1,.int .i64 255,.int .i64 1,.int .i64 1099511627776,.int .i64 1048576,.int .i64 255]:Array Value)[i]?)) rfl (hS _ hX) (fun hHeld=>?_)
     refine tkb 0 ?_
     iterate 14
      refine tkn (v:=?_) rfl (by kernel_rfl) (fun _ _ _ h=>h) (by assumption) ?_ ?_
      rotate_left
      · (intro w hSw;(try dsimp only at hSw);go_simp;try with_reducible rfl)
      try simp only [put_pack]
     refine tke ?_
     refine sk 14 rfl (by kernel_rfl) (fun _ _ _ h=>h) (by assumption) ?_
     try simp only [put_pack]
     refine sk 15 rfl (by kernel_rfl) (fun _ _ _ h=>h) (by assumption) ?_
     try simp only [put_pack]
     refine sk 16 rfl (by kernel_rfl) (fun _ _ _ h=>h) (by assumption) ?_
     try simp only [put_pack]
     refine sk 17 rfl (by kernel_rfl) (fun _ _ _ h=>h) (by assumption) ?_
     try simp only [put_pack]
     refine sk 18 rfl (by kernel_rfl) (fun _ _ _ h=>h) (by assumption) ?_
     try simp only [put_pack]
     refine sk 19 rfl (by kernel_rfl) (fun _ _ _ h=>h) (by assumption) ?_
     try simp only [put_pack]
     refine tk 20 (v:=?_) rfl (by kernel_rfl) (fun _ _ _ h=>h) (by assumption) ?_ ?_
     rotate_left
     · (intro w hSw;(try dsimp only at hSw);go_simp;try with_reducible rfl)
     try simp only [put_pack]
     refine tk 21 (v:=?_) rfl (by kernel_rfl) (fun _ _ _ h=>h) (by assumption) ?_ ?_
     rotate_left
     · (intro w hSw;(try dsimp only at hSw);go_simp;try with_reducible rfl)
     try simp only [put_pack]
     refine sk 22 rfl (by kernel_rfl) (fun _ _ _ h=>h) (by assumption) ?_
     try simp only [put_pack]
     refine sk 23 rfl (by kernel_rfl) (fun _ _ _ h=>h) (by assumption) ?_
     try simp only [put_pack]
     refine sk 24 rfl (by kernel_rfl) (fun _ _ _ h=>h) (by assumption) ?_
     try simp only [put_pack]
     refine sk 25 rfl (by kernel_rfl) (fun _ _ _ h=>h) (by assumption) ?_
     try simp only [put_pack]
     refine sk 26 rfl (by kernel_rfl) (fun _ _ _ h=>h) (by assumption) ?_
     try simp only [put_pack]
     refine sk 27 rfl (by kernel_rfl) (fun _ _ _ h=>h) (by assumption) ?_
     try simp only [put_pack]
     refine tk 28 (v:=?_) rfl (by kernel_rfl) (fun _ _ _ h=>h) (by assumption) ?_ ?_
     rotate_left
     · (intro w hSw;(try dsimp only at hSw);go_simp;try with_reducible rfl)
     try simp only [put_pack]
     refine tk 29 (v:=?_) rfl (by kernel_rfl) (fun _ _ _ h=>h) (by assumption) ?_ ?_
     rotate_left
     · (intro w hSw;(try dsimp only at hSw);go_simp;try with_reducible rfl)
     try simp only [put_pack]
     refine wpAnyH_done (by kernel_rfl) ?_ _
     go_simp
     go_wp2_with fail
     go_ret
     exact⟨false,rfl,hXW.trans hX,fun h=>nomatch h⟩
 · have d7:decide (1<=top)=false:=by simpa using e7
   refine wp_region_held_drew (S:=fun w'=>(∀ i,w'.cell? ⟨w.heap.size,i,none⟩=(#[.int .i64 3,.int .i64 base,.int .i64 loc,.int .i64 n,.int .i64 wr,.int .i64 rd,.int .i64 top]:Array Value)[i]?)/\(∀ i,w'.cell? ⟨w.heap.size+1,i,none⟩=(#[.int .i64 0,.int .i64 1099511627776,.int .i64 1,.int .i64 255,.int .i64 1,.int .i64 1099511627776,.int .i64 1048576,.int .i64 255]:Array Value)[i]?)) rfl (hS _ hX) (fun hHeld=>?_)
   refine tkb 0 ?_
   iterate 4
    refine tkn (v:=?_) rfl (by kernel_rfl) (fun _ _ _ h=>h) (by assumption) ?_ ?_
    rotate_left
    · (intro w hSw;(try dsimp only at hSw);go_simp;try with_reducible rfl)
    try simp only [put_pack]
   refine tke ?_
   refine sk 4 rfl (by kernel_rfl) (fun _ _ _ h=>h) (by assumption) ?_
   try simp only [put_pack]
   refine sk 5 rfl (by kernel_rfl) (fun _ _ _ h=>h) (by assumption) ?_
   try simp only [put_pack]
   refine sk 6 rfl (by kernel_rfl) (fun _ _ _ h=>h) (by assumption) ?_
   try simp only [put_pack]
   refine sk 7 rfl (by kernel_rfl) (fun _ _ _ h=>h) (by assumption) ?_
   try simp only [put_pack]
   refine sk 8 rfl (by kernel_rfl) (fun _ _ _ h=>h) (by assumption) ?_
   try simp only [put_pack]
   refine sk 9 rfl (by kernel_rfl) (fun _ _ _ h=>h) (by assumption) ?_
   try simp only [put_pack]
   refine sk 10 rfl (by kernel_rfl) (fun _ _ _ h=>h) (by assumption) ?_
   try simp only [put_pack]
   refine sk 11 rfl (by kernel_rfl) (fun _ _ _ h=>h) (by assumption) ?_
   try simp only [put_pack]
   refine tk 12 (v:=?_) rfl (by kernel_rfl) (fun _ _ _ h=>h) (by assumption) ?_ ?_
   rotate_left
   · (intro w hSw;(try dsimp only at hSw);go_simp;try with_reducible rfl)
   try simp only [put_pack]
   refine tk 13 (v:=?_) rfl (by kernel_rfl) (fun _ _ _ h=>h) (by assumption) ?_ ?_
   rotate_left
   · (intro w hSw;(try dsimp only at hSw);go_simp;try with_reducible rfl)
   try simp only [put_pack]
   refine sk 14 rfl (by kernel_rfl) (fun _ _ _ h=>h) (by assumption) ?_
   try simp only [put_pack]
   refine sk 15 rfl (by kernel_rfl) (fun _ _ _ h=>h) (by assumption) ?_
   try simp only [put_pack]
   refine sk 16 rfl (by kernel_rfl) (fun _ _ _ h=>h) (by assumption) ?_
   try simp only [put_pack]
   refine sk 17 rfl (by kernel_rfl) (fun _ _ _ h=>h) (by assumption) ?_
   try simp only [put_pack]
   refine sk 18 rfl (by kernel_rfl) (fun _ _ _ h=>h) (by assumption) ?_
   try simp only [put_pack]
   refine sk 19 rfl (by kernel_rfl) (fun _ _ _ h=>h) (by assumption) ?_
   try simp only [put_pack]
   refine tk 20 (v:=?_) rfl (by kernel_rfl) (fun _ _ _ h=>h) (by assumption) ?_ ?_
   rotate_left
   · (intro w hSw;(try dsimp only at hSw);go_simp;try with_reducible rfl)
   try simp only [put_pack]
   refine tk 21 (v:=?_) rfl (by kernel_rfl) (fun _ _ _ h=>h) (by assumption) ?_ ?_
   rotate_left
   · (intro w hSw;(try dsimp only at hSw);go_simp;try with_reducible rfl)
   try simp only [put_pack]
   refine sk 22 rfl (by kernel_rfl) (fun _ _ _ h=>h) (by assumption) ?_
   try simp only [put_pack]
   refine sk 23 rfl (by kernel_rfl) (fun _ _ _ h=>h) (by assumption) ?_
   try simp only [put_pack]
   refine sk 24 rfl (by kernel_rfl) (fun _ _ _ h=>h) (by assumption) ?_
   try simp only [put_pack]
   refine sk 25 rfl (by kernel_rfl) (fun _ _ _ h=>h) (by assumption) ?_
   try simp only [put_pack]
   refine sk 26 rfl (by kernel_rfl) (fun _ _ _ h=>h) (by assumption) ?_
   try simp only [put_pack]
   refine sk 27 rfl (by kernel_rfl) (fun _ _ _ h=>h) (by assumption) ?_
   try simp only [put_pack]
   refine tk 28 (v:=?_) rfl (by kernel_rfl) (fun _ _ _ h=>h) (by assumption) ?_ ?_
   rotate_left
   · (intro w hSw;(try dsimp only at hSw);go_simp;try with_reducible rfl)
   try simp only [put_pack]
   refine tk 29 (v:=?_) rfl (by kernel_rfl) (fun _ _ _ h=>h) (by assumption) ?_ ?_
   rotate_left
   · (intro w hSw;(try dsimp only at hSw);go_simp;try with_reducible rfl)
   try simp only [put_pack]
   refine wpAnyH_done (by kernel_rfl) ?_ _
   go_simp
   go_wp2_with fail
   go_ret
   exact⟨false,rfl,hXW.trans hX,fun h=>nomatch h⟩
end Go.Proofs.Ytchahoiainbcaaa
