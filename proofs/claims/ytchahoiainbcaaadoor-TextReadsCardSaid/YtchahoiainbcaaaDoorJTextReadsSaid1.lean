/-
  TextReadsSaid: part 1 of its proof.
-/
import Derived.Test.YtchahoiainbcaaaDoorJTextReadsSaid0
import Derived.RangeFuncNested
import Derived.RangeFuncBound
import Derived.RangeFuncCalls
import Derived.RangeFuncLeaves
import Derived.Shelf.Abstract
import Derived.OwnWalkIn
import Derived.TacticsInMore
import Derived.LoopNIn
import Derived.LoopIn
import Derived.OrdersIn
import Derived.RangeFuncWrites
import Derived.Deep.RegionHeld2
namespace Kv
theorem evW_a {a k t c:Bs}{rest:List Bs}(h:numW a=none):evW a k t c rest=none:=by unfold evW;rw [h];rfl
theorem evW_t {a k t c:Bs}{rest:List Bs}{x:Int}(ha:numW a=some x)(h:numW t=none):evW a k t c rest=none:=by unfold evW;rw [ha,h];rfl
theorem evW_c {a k t c:Bs}{rest:List Bs}{x y:Int}(ha:numW a=some x)(ht:numW t=some y)(h:numW c=none):evW a k t c rest=none:=by unfold evW;rw [ha,ht,h];rfl
theorem evW_r {a k t c:Bs}{rest:List Bs}{kd:Int}(hk:placeF k kindsW 0=kd)(h:restE kd rest=none):evW a k t c rest=none:=by
 unfold evW
 rw [hk,h]
 cases numW a <;> cases numW t <;> cases numW c <;> rfl
theorem evW_go {a k t c:Bs}{rest:List Bs}{x y z kd v e r:Int}(ha:numW a=some x)(ht:numW t=some y)(hc:numW c=some z)(hk:placeF k kindsW 0=kd)(h:restE kd rest=some (v,e,r))(hf:fineE ⟨x,kd,y,z,v,e,r⟩=true):evW a k t c rest=some ⟨x,kd,y,z,v,e,r⟩:=by
 unfold evW
 rw [ha,ht,hc,hk,h]
 simp only [Option.bind_some]
 rw [if_pos hf]
theorem evW_no {a k t c:Bs}{rest:List Bs}{x y z kd v e r:Int}(ha:numW a=some x)(ht:numW t=some y)(hc:numW c=some z)(hk:placeF k kindsW 0=kd)(h:restE kd rest=some (v,e,r))(hf:fineE ⟨x,kd,y,z,v,e,r⟩=false):evW a k t c rest=none:=by
 unfold evW
 rw [ha,ht,hc,hk,h]
 simp only [Option.bind_some]
 rw [if_neg (by rw [hf];decide)]
end Kv
namespace Go.Proofs.YtchahoiainbcaaaDoor
open Go.RowKit Kv
def oneR (o:Option Ev):Value:=.tuple #[encE (o.getD ev0),.int .i64 (if o.isSome then 0 else 3)]
def MaxI (w:World):Prop:=0<w.heap.size/\∃ m,w.cell? ⟨0,0,none⟩=some (.int .i64 m)
theorem MaxI.ext {w w':World}(h:MaxI w)(hx:Ext w w'):MaxI w':=by
 obtain⟨h0,m,hm⟩:=h
 exact⟨Nat.lt_of_lt_of_le h0 hx.size,m,(hx.cell (p:=⟨0,0,none⟩) h0).trans hm⟩
theorem words_of {w:World}{b:Nat}{cs:Array Value}{t:TypeId}{ss:List Bs}(h:Blk w b (.cells cs t))(hc:cs=(ss.map fun x=>Value.string ⟨x.toArray⟩).toArray):WordsAt w b 0 ss :=
 ⟨h.lt,fun j x hj=>by rw [Nat.zero_add,h.cells j,hc,List.getElem?_toArray,List.getElem?_map,hj];rfl⟩
theorem place_k (wd:Bs)(b:Nat)(w:World)(h:Blk w b (.cells #[.string ⟨#[99,97,108,108]⟩,.string ⟨#[114,101,116,117,114,110]⟩,.string ⟨#[110,111,116,101]⟩,.string ⟨#[104,97,108,116]⟩] 42)):Calls Tryd.prog 23 #[.string ⟨wd.toArray⟩,.slice (some ⟨b,0,none⟩) 4 4] w fun e w'=>e=.returned (.int .i64 (placeF wd kindsW 0))/\w=w':=place_p wd b 4 kindsW w (words_of h rfl) (by decide) (by decide)
theorem place_n (wd:Bs)(b:Nat)(w:World)(h:Blk w b (.cells #[.string ⟨#[100,111,111,114]⟩,.string ⟨#[98,101,104,105,110,100]⟩,.string ⟨#[105,110]⟩,.string ⟨#[108,101,102,116]⟩,.string ⟨#[111,117,116]⟩] 44)):Calls Tryd.prog 23 #[.string ⟨wd.toArray⟩,.slice (some ⟨b,0,none⟩) 5 5] w fun e w'=>e=.returned (.int .i64 (placeF wd notesW 0))/\w=w':=place_p wd b 5 notesW w (words_of h rfl) (by decide) (by decide)
theorem Blk.setO {w:World}{b c i:Nat}{o:Obj}(h:Blk w b o)(hb:b≠c)(v:Value):Blk (w.setCell ⟨c,i,none⟩ v) b o:=(heap_setCell_ne w v hb).trans h
theorem numbers1 (b0 o0 c bp be f:Nat)(s:Bs)(w:World)(hc:1<=c)(hb:b0<w.heap.size)(hw:w.cell? ⟨b0,o0,none⟩=some (.string ⟨s.toArray⟩))(hp:w.cell? ⟨bp,0,none⟩=some (.pointer (some ⟨be,f,none⟩)))(h1:b0≠be)(h2:bp≠be)(hm:May w (be,f))(ho:o0<=100) :
  Calls Tryd.prog 24 #[.slice (some ⟨b0,o0,none⟩) 1 c,.slice (some ⟨bp,0,none⟩) 1 1] w fun e w'=>e=.returned (.bool (numsRun w [s] [(be,f)]).2)/\(numsRun w [s] [(be,f)]).1=w' :=
 numbers_p b0 o0 c bp 1 [s] [(be,f)] w rfl (by simp) hc (by simp) ⟨hb,fun j x hj=>by match j,hj with | 0,hj=>cases hj;exact hw⟩ (fun j g hj=>by match j,hj with | 0,hj=>cases hj;exact hp) (fun g hg=>by rw [List.mem_singleton] at hg;subst hg;exact h1) (fun g hg=>by rw [List.mem_singleton] at hg;subst hg;exact h2) (fun g hg=>by rw [List.mem_singleton] at hg;subst hg;exact hm) ho
theorem numbers2 (b0 o0 c bp:Nat)(f g:Nat × Nat)(s t:Bs)(w:World)(hc:2<=c)(hb:b0<w.heap.size)(hw:w.cell? ⟨b0,o0,none⟩=some (.string ⟨s.toArray⟩))(hw2:w.cell? ⟨b0,o0+1,none⟩=some (.string ⟨t.toArray⟩))(hp:w.cell? ⟨bp,0,none⟩=some (.pointer (some ⟨f.1,f.2,none⟩)))(hp2:w.cell? ⟨bp,1,none⟩=some (.pointer (some ⟨g.1,g.2,none⟩)))
  (h1:b0≠f.1/\b0≠g.1)(h2:bp≠f.1/\bp≠g.1)(hm:May w f)(hm2:May w g)(ho:o0<=100) :
  Calls Tryd.prog 24 #[.slice (some ⟨b0,o0,none⟩) 2 c,.slice (some ⟨bp,0,none⟩) 2 2] w fun e w'=>e=.returned (.bool (numsRun w [s,t] [f,g]).2)/\(numsRun w [s,t] [f,g]).1=w' :=
 numbers_p b0 o0 c bp 2 [s,t] [f,g] w rfl (by simp) hc (by simp) ⟨hb,fun j x hj=>by match j,hj with | 0,hj=>cases hj;exact hw | 1,hj=>cases hj;exact hw2⟩ (fun j q hj=>by match j,hj with | 0,hj=>cases hj;exact hp | 1,hj=>cases hj;exact hp2)
  (fun q hq=>by simp only [List.mem_cons,List.not_mem_nil,or_false] at hq;rcases hq with rfl | rfl;exact h1.1;exact h1.2) (fun q hq=>by simp only [List.mem_cons,List.not_mem_nil,or_false] at hq;rcases hq with rfl | rfl;exact h2.1;exact h2.2) (fun q hq=>by simp only [List.mem_cons,List.not_mem_nil,or_false] at hq;rcases hq with rfl | rfl;exact hm;exact hm2) ho
theorem set7 {w:World}{b:Nat}{a0 a1 a2 a3 a4 a5 a6:Value}{t:TypeId}(h:Blk w b (.cells #[a0,a1,a2,a3,a4,a5,a6] t))(v0 v1 v2 v3 v4 v5 v6:Value) :
  Blk (((((((w.setCell ⟨b,0,none⟩ v0).setCell ⟨b,1,none⟩ v1).setCell ⟨b,2,none⟩ v2).setCell ⟨b,3,none⟩ v3).setCell ⟨b,4,none⟩ v4).setCell ⟨b,5,none⟩ v5).setCell ⟨b,6,none⟩ v6) b (.cells #[v0,v1,v2,v3,v4,v5,v6] t):=by
 have h0:Blk (World.setCell w ⟨b,0,none⟩ v0) b (.cells #[v0,a1,a2,a3,a4,a5,a6] t):=heap_setCell h v0
 have h1:Blk (World.setCell (World.setCell w ⟨b,0,none⟩ v0) ⟨b,1,none⟩ v1) b (.cells #[v0,v1,a2,a3,a4,a5,a6] t):=heap_setCell h0 v1
 have h2:Blk (World.setCell (World.setCell (World.setCell w ⟨b,0,none⟩ v0) ⟨b,1,none⟩ v1) ⟨b,2,none⟩ v2) b (.cells #[v0,v1,v2,a3,a4,a5,a6] t):=heap_setCell h1 v2
 have h3:Blk (World.setCell (World.setCell (World.setCell (World.setCell w ⟨b,0,none⟩ v0) ⟨b,1,none⟩ v1) ⟨b,2,none⟩ v2) ⟨b,3,none⟩ v3) b (.cells #[v0,v1,v2,v3,a4,a5,a6] t):=heap_setCell h2 v3
 have h4:Blk (World.setCell (World.setCell (World.setCell (World.setCell (World.setCell w ⟨b,0,none⟩ v0) ⟨b,1,none⟩ v1) ⟨b,2,none⟩ v2) ⟨b,3,none⟩ v3) ⟨b,4,none⟩ v4) b (.cells #[v0,v1,v2,v3,v4,a5,a6] t):=heap_setCell h3 v4
 have h5:Blk (World.setCell (World.setCell (World.setCell (World.setCell (World.setCell (World.setCell w ⟨b,0,none⟩ v0) ⟨b,1,none⟩ v1) ⟨b,2,none⟩ v2) ⟨b,3,none⟩ v3) ⟨b,4,none⟩ v4) ⟨b,5,none⟩ v5) b (.cells #[v0,v1,v2,v3,v4,v5,a6] t):=heap_setCell h4 v5
 have h6:Blk (World.setCell (World.setCell (World.setCell (World.setCell (World.setCell (World.setCell (World.setCell w ⟨b,0,none⟩ v0) ⟨b,1,none⟩ v1) ⟨b,2,none⟩ v2) ⟨b,3,none⟩ v3) ⟨b,4,none⟩ v4) ⟨b,5,none⟩ v5) ⟨b,6,none⟩ v6) b (.cells #[v0,v1,v2,v3,v4,v5,v6] t):=heap_setCell h5 v6
 exact h6
theorem ext7 {w0 w:World}(h:Ext w0 w){b:Nat}(hb:w0.heap.size<=b)(v0 v1 v2 v3 v4 v5 v6:Value) :
  Ext w0 (((((((w.setCell ⟨b,0,none⟩ v0).setCell ⟨b,1,none⟩ v1).setCell ⟨b,2,none⟩ v2).setCell ⟨b,3,none⟩ v3).setCell ⟨b,4,none⟩ v4).setCell ⟨b,5,none⟩ v5).setCell ⟨b,6,none⟩ v6) :=
 ((((((h.setCell hb v0).setCell hb v1).setCell hb v2).setCell hb v3).setCell hb v4).setCell hb v5).setCell hb v6
set_option maxRecDepth 100000 in
set_option maxHeartbeats 4000000 in
theorem one_bad (line:Bs)(L:List Bs)(w:World)(hsp:Calls Tryd.prog 22 #[.string ⟨line.toArray⟩,.string ⟨#[32]⟩,.int .i64 7] (w.alloc (.cells #[.int .i64 0,.int .i64 0,.int .i64 0,.int .i64 0,.int .i64 0,.int .i64 0,.int .i64 0] 26)) fun e w'=>∃ cp:Nat,e=.returned (.slice (some ⟨w.heap.size+1,0,none⟩) L.length cp)/\L.length<=cp/\cp<=7/\WordsAt w' (w.heap.size+1) 0 L/\Ext (w.alloc (.cells #[.int .i64 0,.int .i64 0,.int .i64 0,.int .i64 0,.int .i64 0,.int .i64 0,.int .i64 0] 26)) w'/\w'.heap.size=w.heap.size+1+1)(hL:L.length<4∨6<L.length):Calls Tryd.prog 9 #[.string ⟨line.toArray⟩] w fun e w'=>e=.returned (oneR (oneWs L))/\Ext w w':=by
 have hX:=(Ext.refl w).alloc (.cells #[.int .i64 0,.int .i64 0,.int .i64 0,.int .i64 0,.int .i64 0,.int .i64 0,.int .i64 0] 26)
 have b1:=Blk.new w (.cells #[.int .i64 0,.int .i64 0,.int .i64 0,.int .i64 0,.int .i64 0,.int .i64 0,.int .i64 0] 26)
 go_enter Tryd.func9,Tryd.ntmps9
 go_wp2_with fail
 refine hsp.mono ?_
 rintro e w2 ⟨cp,rfl,q1,q2,hW,hx,hsz⟩
 replace b1:=b1.ext hx
 replace hX:=hX.trans hx
 clear hx hsp
 by_cases hl4:L.length<4
 · have e1:oneWs L=none:=by
    match L,hl4 with
    | [],_=>rfl
    | [_],_=>rfl
    | [_,_],_=>rfl
    | [_,_,_],_=>rfl
   have e1h:=Lib.hid e1
   have d1:decide ((L.length:Int)<4)=true:=by rw [decide_eq_true_eq];omega
   have d2:decide (L.length<4)=true:=by rw [decide_eq_true_eq];omega
   have hc1:=b1.cells
   have hfz:=frozen_of_heap (show w2.heap[w.heap.size]?=_ from b1)
   clear e1 hl4
   go_wp2_with fail
   have g7:=set7 b1 (.int .i64 0) (.int .i64 0) (.int .i64 0) (.int .i64 0) (.int .i64 0) (.int .i64 0) (.int .i64 0)
   have x7:=ext7 hX (Nat.le_refl _) (.int .i64 0) (.int .i64 0) (.int .i64 0) (.int .i64 0) (.int .i64 0) (.int .i64 0) (.int .i64 0)
   generalize World.setCell (World.setCell (World.setCell (World.setCell (World.setCell (World.setCell (World.setCell _ _ _) _ _) _ _) _ _) _ _) _ _) _ _=W7 at g7 x7 ⊢
   have c7:=g7.cells
   refine bodyPost_ret (v:=oneR (oneWs L)) (by rw [e1h.out];simp [results,Tryd.results9,go_sem,oneR,encE,ev0,c7]) rfl ⟨rfl,x7⟩
 have d1:decide ((L.length:Int)<4)=false:=by rw [decide_eq_false_iff_not];omega
 have d2:decide (L.length<4)=false:=by rw [decide_eq_false_iff_not];omega
 by_cases hl6:6<L.length
 · have e1:oneWs L=none:=by
    match L,hl6 with
    | _ :: _ :: _ :: _ :: rest,h =>
      show (if rest.length<=2 then _ else none)=none
      rw [if_neg (by simp at h;omega)]
   have e1h:=Lib.hid e1
   have d3:decide ((6:Int)<(L.length:Int))=true:=by rw [decide_eq_true_eq];omega
   have d4:decide (6<L.length)=true:=by rw [decide_eq_true_eq];omega
   have hc1:=b1.cells
   have hfz:=frozen_of_heap (show w2.heap[w.heap.size]?=_ from b1)
   clear e1 hl4 hl6
   go_wp2_with fail
   have g7:=set7 b1 (.int .i64 0) (.int .i64 0) (.int .i64 0) (.int .i64 0) (.int .i64 0) (.int .i64 0) (.int .i64 0)
   have x7:=ext7 hX (Nat.le_refl _) (.int .i64 0) (.int .i64 0) (.int .i64 0) (.int .i64 0) (.int .i64 0) (.int .i64 0) (.int .i64 0)
   generalize World.setCell (World.setCell (World.setCell (World.setCell (World.setCell (World.setCell (World.setCell _ _ _) _ _) _ _) _ _) _ _) _ _) _ _=W7 at g7 x7 ⊢
   have c7:=g7.cells
   refine bodyPost_ret (v:=oneR (oneWs L)) (by rw [e1h.out];simp [results,Tryd.results9,go_sem,oneR,encE,ev0,c7]) rfl ⟨rfl,x7⟩
 exact absurd hL (by omega)
def strLen:Value->Nat | .string s=>s.size | _=>0
theorem bytes_cat (a b:List UInt8):(⟨a.toArray⟩:ByteArray)++⟨b.toArray⟩=⟨(a++b).toArray⟩:=by
 apply ByteArray.ext
 simp
theorem digit_cut:∀ d:Fin 10,(⟨#[48,49,50,51,52,53,54,55,56,57]⟩:ByteArray).extract d.val (d.val+1)=⟨[UInt8.ofNat (48+d.val)].toArray⟩:=by
 decide +kernel
theorem digit_cat (d:Nat)(h:d<10)(l:List UInt8):(⟨#[48,49,50,51,52,53,54,55,56,57]⟩:ByteArray).extract d (d+1)++⟨l.toArray⟩=⟨(UInt8.ofNat (48+d) :: l).toArray⟩:=by
 have:=digit_cut ⟨d,h⟩
 simp only at this
 rw [this,bytes_cat]
 rfl
theorem digits_keep (M m:Nat)(l:List UInt8)(hm:0<m∨l=[])(h:Go.Lib.decDigits M=(if m=0/\l≠[] then [] else Go.Lib.decDigits m)++l) :
  Go.Lib.decDigits M=(if m / 10=0/\UInt8.ofNat (48+m % 10) :: l≠[] then [] else Go.Lib.decDigits (m / 10))++(UInt8.ofNat (48+m % 10) :: l):=by
 rw [if_neg (fun hh=>hm.elim (fun h3=>by omega) (fun h3=>hh.2 h3))] at h
 rw [h]
 by_cases h10:10<=m
 · rw [decDigits_step m h10,if_neg (by omega)]
   simp
 · rw [decDigits_one m (by omega),if_pos (by simp;omega),show m % 10=m from by omega]
   rfl
theorem digits_room (M m k:Nat)(hM:M<=9223372036854775808)(h:10 ^ k*m<=M)(hm:0<m):k<=18:=by
 rcases Nat.lt_or_ge 18 k with hk | hk
 · have h1:10 ^ 19<=10 ^ k:=Nat.pow_le_pow_right (by omega) hk
   have h2:10 ^ k*1<=10 ^ k*m:=Nat.mul_le_mul_left _ hm
   omega
 · exact hk
theorem digits_room' (M m k:Nat)(h:10 ^ k*m<=M):10 ^ (k+1)*(m / 10)<=M:=by
 have h2:10 ^ k*(10*(m / 10))<=10 ^ k*m:=Nat.mul_le_mul_left _ (Nat.mul_div_le m 10)
 rw [Nat.pow_succ,Nat.mul_assoc]
 omega
def DigitsRel (M:Nat) (x s:Value):Prop:=∃ (m:Nat) (l:List UInt8),x=.int .i64 (-(m:Int))/\s=.string ⟨l.toArray⟩/\m<=M/\l.length<=20 /\
 Hid (Go.Lib.decDigits M=(if m=0/\l≠[] then [] else Go.Lib.decDigits m)++l)/\10 ^ l.length*m<=M
theorem digits_r (n0:Int)(h0:-9223372036854775808<=n0)(h1:n0<=9223372036854775807)(w:World) :
  Calls Tryd.prog 25 #[.int .i64 n0] w fun e w'=>e=.returned (.string ⟨(digits n0).toArray⟩)/\w=w':=by
 obtain⟨M,hM,hMn⟩:∃ M:Nat,M<=9223372036854775808/\M=n0.natAbs:=⟨n0.natAbs,by omega,rfl⟩
 have Hd:Hid (digits n0=(if n0<0 then [45] else [])++Go.Lib.decDigits M):=by
  unfold Hid digits Go.Lib.itoa
  subst hMn
  by_cases hneg:n0<0
  · rw [if_pos hneg,if_pos hneg];rfl
  · rw [if_neg hneg,if_neg hneg,show n0.natAbs=n0.toNat from by omega];rfl
 by_cases hneg:n0<0
 · obtain rfl:n0=-(M:Int):=by omega
   clear hMn
   rw [if_pos hneg] at Hd
   go_enter Tryd.func25,Tryd.ntmps25
   go_wp2
   go_loop [0,4] (fun x s=>DigitsRel M x s) (fun x s=>(-(intOf x)).toNat+(1-min 1 (strLen s)))
   case atStart=>exact⟨M,[],rfl,rfl,by omega,by simp,by unfold Hid;simp,by simp⟩
   case round =>
    obtain⟨m,l,rfl,rfl,hm,hl,H,hr⟩:=hrel
    by_cases hlt:0<m
    · have hlt':(-(m:Int)<0):=by omega
      have hd:decide (-(m:Int)<0)=true:=by simp;omega
      have hk:=digits_room M m l.length hM hr hlt
      have hc:=Lib.hid (digit_cat (m % 10) (by omega) l)
      have hr2:=digits_room' M m l.length hr
      have H2:=Lib.hid (digits_keep M m l (.inl hlt) H.out)
      clear H
      go_wp2
      all_goals (rw [hc.out])
      all_goals refine⟨⟨m / 10,UInt8.ofNat (48+m % 10) :: l,by simp,rfl,by omega,by simp;omega,H2.out,by simpa using hr2⟩,?_⟩
      all_goals simp [intOf,strLen,ByteArray.size]
      all_goals omega
    · obtain rfl:m=0:=by omega
      cases l with
      | nil =>
        have hc:=Lib.hid (digit_cat 0 (by omega) [])
        have hr2:=digits_room' M 0 0 hr
        have H2:=Lib.hid (digits_keep M 0 [] (.inr rfl) H.out)
        clear H
        go_wp2
        all_goals (rw [show (⟨#[]⟩:ByteArray)=⟨([]:List UInt8).toArray⟩ from rfl,hc.out])
        all_goals refine⟨⟨0,[UInt8.ofNat (48+0)],rfl,rfl,by omega,by simp,H2.out,by simp⟩,?_⟩
        all_goals simp [intOf,strLen,ByteArray.size]
      | cons x l =>
        have H2:Hid (Go.Lib.decDigits M=x :: l):=by
         have:=H.out
         rw [if_pos (by simp)] at this
         exact this
        have hl2:l.length<=19:=by simpa using hl
        clear H hl hr
        go_wp2
        go_ret
        refine⟨?_,rfl⟩
        rw [Hd.out,H2.out]
        exact congrArg (fun b=>Ending.returned (.string b)) (bytes_cat [45] (x :: l))
 · obtain rfl:n0=(M:Int):=by omega
   clear hMn
   rw [if_neg hneg] at Hd
   go_enter Tryd.func25,Tryd.ntmps25
   go_wp2
   go_loop [0,4] (fun x s=>DigitsRel M x s) (fun x s=>(-(intOf x)).toNat+(1-min 1 (strLen s)))
   case atStart=>exact⟨M,[],rfl,rfl,by omega,by simp,by unfold Hid;simp,by simp⟩
   case round =>
    obtain⟨m,l,rfl,rfl,hm,hl,H,hr⟩:=hrel
    by_cases hlt:0<m
    · have hlt':(-(m:Int)<0):=by omega
      have hd:decide (-(m:Int)<0)=true:=by simp;omega
      have hk:=digits_room M m l.length hM hr hlt
      have hc:=Lib.hid (digit_cat (m % 10) (by omega) l)
      have hr2:=digits_room' M m l.length hr
      have H2:=Lib.hid (digits_keep M m l (.inl hlt) H.out)
      clear H
      go_wp2
      all_goals (rw [hc.out])
      all_goals refine⟨⟨m / 10,UInt8.ofNat (48+m % 10) :: l,by simp,rfl,by omega,by simp;omega,H2.out,by simpa using hr2⟩,?_⟩
      all_goals simp [intOf,strLen,ByteArray.size]
      all_goals omega
    · obtain rfl:m=0:=by omega
      cases l with
      | nil =>
        have hc:=Lib.hid (digit_cat 0 (by omega) [])
        have hr2:=digits_room' M 0 0 hr
        have H2:=Lib.hid (digits_keep M 0 [] (.inr rfl) H.out)
        clear H
        go_wp2
        all_goals (rw [show (⟨#[]⟩:ByteArray)=⟨([]:List UInt8).toArray⟩ from rfl,hc.out])
        all_goals refine⟨⟨0,[UInt8.ofNat (48+0)],rfl,rfl,by omega,by simp,H2.out,by simp⟩,?_⟩
        all_goals simp [intOf,strLen,ByteArray.size]
      | cons x l =>
        have H2:Hid (Go.Lib.decDigits M=x :: l):=by
         have:=H.out
         rw [if_pos (by simp)] at this
         exact this
        have hl2:l.length<=19:=by simpa using hl
        clear H hl hr
        go_wp2
        go_ret
        refine⟨?_,rfl⟩
        rw [Hd.out,H2.out]
        exact congrArg (fun b=>Ending.returned (.string b)) (bytes_cat [] (x :: l))
end Go.Proofs.YtchahoiainbcaaaDoor
namespace Kv
open Go.Lib
def cutF:Nat->Bs->List (Bs × Bool)
 | 0,_=>[]
 | n+1,s=>if s=[] then [] else ((cut s [10]).1,(cut s [10]).2.2) :: cutF n (cut s [10]).2.1
def linesL (s:Bs):List (Bs × Bool):=cutF s.length s
theorem cut_short (s:Bs)(h:s≠[]):(cut s [10]).2.1.length<s.length/\(cut s [10]).1.length<=s.length:=by
 have hp:0<s.length:=by cases s with | nil=>exact absurd rfl h | cons=>simp
 unfold cut
 split
 · simp only [List.length_drop,List.length_take,List.length_singleton]
   omega
 · simp only [List.length_nil]
   omega
theorem cutF_more:∀ (n m:Nat) (s:Bs),s.length<=n->s.length<=m->cutF n s=cutF m s
 | 0,0,_,_,_=>rfl
 | 0,m+1,s,hn,_=>by
   have:s=[]:=List.eq_nil_of_length_eq_zero (by omega)
   subst this
   rfl
 | n+1,0,s,_,hm=>by
   have:s=[]:=List.eq_nil_of_length_eq_zero (by omega)
   subst this
   rfl
 | n+1,m+1,s,hn,hm=>by
   unfold cutF
   split
   · rfl
   · rename_i h
     have:=(cut_short s h).1
     rw [cutF_more n m _ (by omega) (by omega)]
theorem linesL_nil:linesL []=[]:=rfl
theorem linesL_cons (s:Bs)(h:s≠[]):linesL s=((cut s [10]).1,(cut s [10]).2.2) :: linesL (cut s [10]).2.1:=by
 have h1:=(cut_short s h).1
 obtain⟨n,hn⟩:∃ n,s.length=n+1:=⟨s.length-1,by have:s.length≠0:=fun e=>h (List.eq_nil_of_length_eq_zero e);omega⟩
 unfold linesL
 rw [hn]
 show (if s=[] then [] else _)=_
 rw [if_neg h,cutF_more n _ _ (by omega) (Nat.le_refl _)]
abbrev Pc:={x:Bs × Bool // x.1.length<4294967281}
end Kv
namespace Go.Proofs.YtchahoiainbcaaaDoor
open Go.RowKit Kv
attribute [local go_sem] Oper.semAt_some
theorem lines_p (s:Bs)(w:World):Calls Tryd.prog 27 #[.string ⟨s.toArray⟩] w fun e w'=>e=.returned (.func (.func 40) #[] #[.pointer (some ⟨w.heap.size,0,none⟩)])/\w.alloc (.cells #[.string ⟨s.toArray⟩] 9)=w':=by
 have hmf:∀ (fn:Fn) (first cap:Array Value) (w:World),(Instr.makeFunc fn first cap).run Tryd.prog w=.ok (.func fn first cap) w:=fun _ _ _ _=>rfl
 go_enter Tryd.func27,Tryd.ntmps27
 go_wp2
 go_ret
 exact⟨rfl,rfl⟩
theorem cut_tp (s:Bs)(w:World)(hs:s.length<4294967281)(M:MaxI w):Calls Tryd.prog 41 #[.string ⟨s.toArray⟩,.string ⟨#[10]⟩] w fun e w'=>e=.returned (.tuple #[.string ⟨(Go.Lib.cut s [10]).1.toArray⟩,.string ⟨(Go.Lib.cut s [10]).2.1.toArray⟩,.bool (Go.Lib.cut s [10]).2.2])/\∃ n,w'=w.drewN n:=by
 obtain⟨_,m,hm⟩:=M
 exact Tryd.strings_Cut ⟨s.toArray⟩ ⟨#[10]⟩ m w hs hm
theorem grown_drew (w:World)(n:Nat):w.grownBy (w.drewN n) none:=⟨rfl,rfl,rfl,Nat.le_refl _,fun _ _ _=>rfl⟩
set_option maxRecDepth 100000 in
set_option maxHeartbeats 1000000 in
theorem lines1_in (F:Fence)(n:Nat)(h6:F.fn 40)(hro:F.round=none)(hwide:F=Fence.wide)(hn:1<=n)(l Bn n₀:Nat)(s:Bs)(hs:s.length<4294967281)(J Jx:List Pc->World->Prop)
  (hY:∀ pre x W,J pre W->pre.length<(linesL s).length->YieldAt F (n-1) Tryd.prog l #[.string ⟨x.1.1.toArray⟩,.bool x.1.2] W fun e W' =>
    (e=.returned (.bool true)/\J (pre++[x]) W'/\Below n₀ W W')∨(e=.returned (.bool false)/\Jx (pre++[x]) W'))
  (W:World)(hBn:W.cell? ⟨Bn,0,none⟩=some (.string ⟨s.toArray⟩))(hJd:∀ pre W n,J pre W->J pre (W.drewN n))(hT:∀ W',Below n₀ W W'->MaxI W')(h0:J [] W) :
  CallsIn F n Tryd.prog 40 #[.func (.yield l) #[] #[],.pointer (some ⟨Bn,0,none⟩)] W fun e W'=>(∃ v,e=.returned v) /\
   ((∃ ys:List Pc,ys.map (·.1)=linesL s/\J ys W')∨(∃ pre:List Pc,pre.map (·.1) <+: linesL s/\Jx pre W')):=by
 subst hwide
 refine callsIn_of_wp Tryd.func40 rfl h6 ?_ hro
 simp only [Tryd.ntmps40,List.size_toArray,List.length_cons,List.length_nil,Nat.reduceAdd,Nat.reduceSub,Array.replicate_succ,Array.replicate_zero,List.push_toArray,List.append_toArray,List.nil_append,List.cons_append]
 gi_wp2
 gi_loopw [3] (fun p wr=>∃ (pre:List Pc) (x:Bs),p=.string ⟨x.toArray⟩/\x.length<4294967281/\Hid (linesL s=pre.map (·.1)++linesL x)/\Below n₀ W wr/\J pre wr)
  (fun p _=>strLen p)
 case atStart =>
  exact⟨[],s,rfl,hs,rfl,Below.refl _ _,h0⟩
 case round =>
  obtain⟨pre,x,rfl,hx,hp,hB,hJs⟩:=hrel
  by_cases hz:x=[]
  · subst hz
    gi_wp2
    go_end0
    exact⟨⟨_,rfl⟩,.inl ⟨pre,by rw [hp.out,linesL_nil,List.append_nil],hJs⟩⟩
  · have hd:(x != [])=true:=by rw [bne_iff_ne];exact hz
    have hd2:(x==[])=false:=by rw [beq_eq_false_iff_ne];exact hz
    obtain⟨hsh,hlo⟩:=cut_short x hz
    have hcons:=Lib.hid (linesL_cons x hz)
    have hcut:=(callsIn_wide.2 (cut_tp x wr hx (hT _ hB)):CallsIn Fence.wide (n-1) _ _ _ _ _)
    generalize hc1:(Go.Lib.cut x [10]).1=c1 at *
    generalize hc2:(Go.Lib.cut x [10]).2.1=c2 at *
    generalize hc3:(Go.Lib.cut x [10]).2.2=c3 at *
    clear hc1 hc2 hc3 hz
    have hY2:=fun k=>hY pre ⟨(c1,c3),by show c1.length<_;omega⟩ (wr.drewN k) (hJd _ _ _ hJs) (by rw [hp.out,hcons.out];simp)
    gi_wp2_with fail
    refine⟨trivial,?_⟩
    refine hcut.mono ?_
    rintro e w' ⟨rfl,k,rfl⟩
    clear hcut
    obtain⟨fn,tmps,assign,body,hy,hR⟩:=hY2 k
    clear hY2
    gi_wp2_with fail
    refine hR.mono ?_
    rintro e W3 (⟨rfl,hJ3,hk3⟩ | ⟨rfl,hJx3⟩)
    · gi_wp2_with fail
      refine⟨⟨pre++[⟨(c1,c3),by show c1.length<_;omega⟩],c2,rfl,by omega,?_,(hB.trans (show Below n₀ wr (wr.drewN k) from ⟨rfl,rfl,rfl,Nat.le_refl _,fun _ _=>rfl⟩)).trans hk3,hJ3⟩,?_⟩
      · unfold Hid
        rw [hp.out,hcons.out]
        simp
      · simp [strLen,ByteArray.size]
        omega
    · gi_wp2_with fail
      refine bodyPost_ret (results_none rfl _ _ _) rfl ?_
      exact⟨⟨_,rfl⟩,.inr ⟨pre++[_],⟨linesL c2,by rw [hp.out,hcons.out];simp⟩,hJx3⟩⟩
theorem lines_stops (n:Nat)(hn:1<=n)(Bn n₀:Nat)(s:Bs)(hs:s.length<4294967281)(w:World)(hBn:Bn<w.heap.size)(hn₀:n₀<=w.heap.size)
  (hc:w.cell? ⟨Bn,0,none⟩=some (.string ⟨s.toArray⟩))(hT:∀ W',Below n₀ w W'->MaxI W') :
  SeqStopsK Fence.wide n Tryd.prog 40 #[.pointer (some ⟨Bn,0,none⟩)] (fun x:Pc=>#[Value.string ⟨x.1.1.toArray⟩,Value.bool x.1.2]) (Below n₀) (fun ys=>ys.map (·.1)=linesL s) (fun pre=>pre.map (·.1) <+: linesL s) (linesL s).length w:=fun l J Jx W hW hJ _ hY h0 =>
 lines1_in Fence.wide n trivial rfl rfl hn l Bn n₀ s hs J Jx hY W ((hW.cell (p:=⟨Bn,0,none⟩) hBn).trans hc) (fun pre V k h=>hJ pre V _ none h (grown_drew V k) (fun _ e=>nomatch e)) (fun W' hB=>hT W' ((hW.mono hn₀).trans hB)) h0
end Go.Proofs.YtchahoiainbcaaaDoor
namespace Kv
open Go.Lib
theorem cutP_miss (z:UInt8):∀ (s cur:Bs),z ∉ s->cutP z s cur=[cur++s]
 | [],cur,_=>by simp [cutP]
 | c :: s,cur,h=>by
   have hc:c≠z:=fun e=>h (by simp [e])
   unfold cutP
   rw [if_neg hc,cutP_miss z s _ (fun hm=>h (by simp [hm]))]
   simp
theorem cutP_hit (z:UInt8)(r:Bs):∀ (p cur:Bs),z ∉ p->cutP z (p++z :: r) cur=(cur++p) :: cutP z r []
 | [],cur,_=>by
   show (if z=z then cur :: cutP z r [] else _)=_
   rw [if_pos rfl,List.append_nil]
 | c :: p,cur,h=>by
   have hc:c≠z:=fun e=>h (by simp [e])
   show (if c=z then _ else cutP z (p++z :: r) (cur++[c]))=_
   rw [if_neg hc,cutP_hit z r p _ (fun hm=>h (by simp [hm]))]
   simp
theorem indexZ_hit (z:UInt8):∀ (w rest:Bs),z ∉ w->index (w++z :: rest) [z]=w.length
 | [],rest,_=>by
   show index (z :: rest) [z]=0
   unfold index
   rw [if_pos (by simp [List.isPrefixOf])]
 | b :: l,rest,h=>by
   have hb:b≠z:=fun e=>h (by simp [e])
   have ih:=indexZ_hit z l rest fun hm=>h (by simp [hm])
   show index (b :: (l++z :: rest)) [z]=_
   unfold index
   rw [if_neg (by simp [List.isPrefixOf];exact fun e=>hb e.symm),ih,if_neg (by rw [beq_iff_eq];omega)]
   rw [List.length_cons]
   omega
theorem indexZ_no (z:UInt8):∀ (w:Bs),z ∉ w->index w [z]=-1
 | [],_=>rfl
 | b :: l,h=>by
   have hb:b≠z:=fun e=>h (by simp [e])
   have ih:=indexZ_no z l fun hm=>h (by simp [hm])
   unfold index
   rw [if_neg (by simp [List.isPrefixOf];exact fun e=>hb e.symm),ih]
   rfl
theorem split_at (z:UInt8):∀ (s:Bs),z∈s->∃ p r,s=p++z :: r/\z ∉ p
 | [],h=>by cases h
 | c :: s,h=>by
   by_cases hc:c=z
   · exact⟨[],s,by rw [hc];rfl,by simp⟩
   · obtain⟨p,r,hs,hp⟩:=split_at z s (by rcases List.mem_cons.1 h with h | h;exact absurd h.symm hc;exact h)
     exact⟨c :: p,r,by rw [hs];rfl,by simp only [List.mem_cons,not_or];exact⟨fun e=>hc e.symm,hp⟩⟩
def linesOf:List Bs->List (Bs × Bool)
 | []=>[]
 | [x]=>if x=[] then [] else [(x,false)]
 | x :: y :: l=>(x,true) :: linesOf (y :: l)
theorem lines_cut:∀ (n:Nat) (s:Bs),s.length<=n->cutF n s=linesOf (cutP 10 s [])
 | 0,s,h=>by
   obtain rfl:s=[]:=List.length_eq_zero_iff.1 (by omega)
   rfl
 | n+1,s,h=>by
   by_cases hs:s=[]
   · subst hs;rfl
   · unfold cutF
     rw [if_neg hs]
     by_cases hz:(10:UInt8)∈s
     · obtain⟨p,r,rfl,hp⟩:=split_at 10 s hz
       have e:cut (p++10 :: r) [10]=(p,r,true):=by
        unfold cut
        rw [indexZ_hit 10 p r hp]
        simp
       rw [e,cutP_hit 10 r p [] hp]
       simp only [List.length_append,List.length_cons] at h
       rw [lines_cut n r (by omega)]
       cases hx:cutP 10 r [] with
       | nil=>exact absurd hx (cutP_ne _ _ _)
       | cons y l=>rfl
     · have e:cut s [10]=(s,[],false):=by
        unfold cut
        rw [indexZ_no 10 s hz]
        rfl
       rw [e,cutP_miss 10 s [] hz]
       simp only [List.nil_append]
       rw [lines_cut n [] (by simp)]
       show _=if s=[] then [] else [(s,false)]
       rw [if_neg hs]
       rfl
theorem lines_parts (s:Bs):linesL s=linesOf (cutP 10 s []):=lines_cut s.length s (Nat.le_refl _)
end Kv
namespace Go.Proofs.YtchahoiainbcaaaDoor
open Go.RowKit Kv
set_option maxRecDepth 100000 in
set_option maxHeartbeats 8000000 in
theorem one_0 (line a k tt c:Bs)(w:World)(hcq:True)
  (hsp:Calls Tryd.prog 22 #[.string ⟨line.toArray⟩,.string ⟨#[32]⟩,.int .i64 7] (w.alloc (.cells #[.int .i64 0,.int .i64 0,.int .i64 0,.int .i64 0,.int .i64 0,.int .i64 0,.int .i64 0] 26)) fun e w'=>e=.returned (.slice (some ⟨w.heap.size+1,0,none⟩) 4 4)/\WordsAt w' (w.heap.size+1) 0 [a,k,tt,c]/\Ext (w.alloc (.cells #[.int .i64 0,.int .i64 0,.int .i64 0,.int .i64 0,.int .i64 0,.int .i64 0,.int .i64 0] 26)) w'/\w'.heap.size=w.heap.size+1+1) :
  Calls Tryd.prog 9 #[.string ⟨line.toArray⟩] w fun e w'=>e=.returned (oneR (evW a k tt c []))/\Ext w w':=by
 have hX:=(Ext.refl w).alloc (.cells #[.int .i64 0,.int .i64 0,.int .i64 0,.int .i64 0,.int .i64 0,.int .i64 0,.int .i64 0] 26)
 have b1:=Blk.new w (.cells #[.int .i64 0,.int .i64 0,.int .i64 0,.int .i64 0,.int .i64 0,.int .i64 0,.int .i64 0] 26)
 go_enter Tryd.func9,Tryd.ntmps9
 go_wp2_with fail
 refine hsp.mono ?_
 rintro e w2 ⟨rfl,hW,hx,hsz⟩
 replace b1:=b1.ext hx
 replace hX:=hX.trans hx
 clear hx hsp
 obtain⟨hwl,hW⟩:=hW
 have hws:∀ W,Ext w2 W->W.cell? ⟨w.heap.size+1,0,none⟩=some (.string ⟨a.toArray⟩)/\W.cell? ⟨w.heap.size+1,1,none⟩=some (.string ⟨k.toArray⟩)/\W.cell? ⟨w.heap.size+1,2,none⟩=some (.string ⟨tt.toArray⟩)/\W.cell? ⟨w.heap.size+1,3,none⟩=some (.string ⟨c.toArray⟩):=by
  intro W hx
  have g:=fun j x hj=>(hx.cell (p:=⟨w.heap.size+1,0+j,none⟩) hwl).trans (hW j x hj)
  simp only [Nat.zero_add] at g
  exact⟨g 0 _ rfl,g 1 _ rfl,g 2 _ rfl,g 3 _ rfl⟩
 have hws2:=hws
 clear hW
 have b5:=Blk.new w2 (.cells #[.int .i64 0,.int .i64 0,.int .i64 0,.int .i64 0,.int .i64 0,.int .i64 0,.int .i64 0] 26)
 have hy:=(Ext.refl w2).alloc (.cells #[.int .i64 0,.int .i64 0,.int .i64 0,.int .i64 0,.int .i64 0,.int .i64 0,.int .i64 0] 26)
 rw [hsz] at b5
 go_wp2_with fail
 refine (kwords_p _).mono ?_
 rintro e w3 ⟨rfl,hx3⟩
 replace b5:=b5.ext hx3
 replace hy:=hy.trans hx3
 clear hx3
 go_wp2_with fail
 refine (nwords_p _).mono ?_
 rintro e w4 ⟨rfl,hx4⟩
 replace b5:=b5.ext hx4
 replace hy:=hy.trans hx4
 clear hx4
 have b6:=(Blk.new w4 (.cells #[.string ⟨#[99,97,108,108]⟩,.string ⟨#[114,101,116,117,114,110]⟩,.string ⟨#[110,111,116,101]⟩,.string ⟨#[104,97,108,116]⟩] 42)).alloc (.cells #[.string ⟨#[100,111,111,114]⟩,.string ⟨#[98,101,104,105,110,100]⟩,.string ⟨#[105,110]⟩,.string ⟨#[108,101,102,116]⟩,.string ⟨#[111,117,116]⟩] 44)
 have b7:=Blk.new (w4.alloc (.cells #[.string ⟨#[99,97,108,108]⟩,.string ⟨#[114,101,116,117,114,110]⟩,.string ⟨#[110,111,116,101]⟩,.string ⟨#[104,97,108,116]⟩] 42)) (.cells #[.string ⟨#[100,111,111,114]⟩,.string ⟨#[98,101,104,105,110,100]⟩,.string ⟨#[105,110]⟩,.string ⟨#[108,101,102,116]⟩,.string ⟨#[111,117,116]⟩] 44)
 have x4:=((Ext.refl w4).alloc (.cells #[.string ⟨#[99,97,108,108]⟩,.string ⟨#[114,101,116,117,114,110]⟩,.string ⟨#[110,111,116,101]⟩,.string ⟨#[104,97,108,116]⟩] 42)).alloc (.cells #[.string ⟨#[100,111,111,114]⟩,.string ⟨#[98,101,104,105,110,100]⟩,.string ⟨#[105,110]⟩,.string ⟨#[108,101,102,116]⟩,.string ⟨#[111,117,116]⟩] 44)
 simp only [World.size_alloc] at b7
 have hz5:w.heap.size+1+1<w4.heap.size:=b5.lt
 replace b5:=b5.ext x4
 replace hy:=hy.trans x4
 clear x4
 go_upto_region 6 with fail
 generalize hz6:w4.heap.size=z6 at *
 generalize World.alloc (World.alloc w4 _) _=V at *
 have hb5:w2.heap.size<=w.heap.size+1+1:=by rw [hsz];exact Nat.le_refl _
 clear hsz
 have hfz:=frozen_of_heap (show V.heap[w.heap.size+1+1]?=_ from b5)
 have hyV:=hy
 replace hy:=hy.drew
 replace b5:=b5.drew
 replace b6:=b6.drew
 replace b7:=b7.drew
 have c5:=b5.cells
 replace hfz:∀ i,V.drew.frozen? ⟨w.heap.size+1+1,i,none⟩=false:=hfz
 go_region_held2 (fun w'=>w'.cell? ⟨w.heap.size+1,1,none⟩=some (.string ⟨k.toArray⟩)) (first | exact (hws _ hy).2.1 | exact (hws _ (hy.setCell hb5 _)).2.1)
  (first
    | (go_at_call 23
       refine (place_k k z6 _ b6).mono ?_
       rintro e w' ⟨rfl,rfl⟩))
 have b5':Blk ((V.setCell ⟨w.heap.size+1+1,1,none⟩ (.int .i64 (placeF k kindsW 0))).drew) (w.heap.size+1+1) (.cells #[.int .i64 0,.int .i64 (placeF k kindsW 0),.int .i64 0,.int .i64 0,.int .i64 0,.int .i64 0,.int .i64 0] 26):=heap_setCell (show V.heap[w.heap.size+1+1]?=_ from b5) _
 have b6':Blk ((V.setCell ⟨w.heap.size+1+1,1,none⟩ (.int .i64 (placeF k kindsW 0))).drew) z6 (.cells #[.string ⟨#[99,97,108,108]⟩,.string ⟨#[114,101,116,117,114,110]⟩,.string ⟨#[110,111,116,101]⟩,.string ⟨#[104,97,108,116]⟩] 42):=Blk.setO (w:=V) b6 (by omega) _
 have b7':Blk ((V.setCell ⟨w.heap.size+1+1,1,none⟩ (.int .i64 (placeF k kindsW 0))).drew) (z6+1) (.cells #[.string ⟨#[100,111,111,114]⟩,.string ⟨#[98,101,104,105,110,100]⟩,.string ⟨#[105,110]⟩,.string ⟨#[108,101,102,116]⟩,.string ⟨#[111,117,116]⟩] 44):=Blk.setO (w:=V) b7 (by omega) _
 replace hy:Ext w2 ((V.setCell ⟨w.heap.size+1+1,1,none⟩ (.int .i64 (placeF k kindsW 0))).drew):=(hyV.setCell (p:=⟨w.heap.size+1+1,1,none⟩) hb5 _).drew
 clear b5 b6 b7 hyV c5 hfz
 generalize World.drew (World.setCell V _ _)=V6 at *
 generalize hkd:placeF k kindsW 0=kd at *
 have hkdh:=Lib.hid hkd
 clear hkd
 obtain⟨m0,m1,m2,m3⟩:=hws _ hy
 replace b5:=b5'.alloc (.cells #[.pointer (some ⟨w.heap.size+1+1,0,none⟩)] 54)
 have bp:=Blk.new V6 (.cells #[.pointer (some ⟨w.heap.size+1+1,0,none⟩)] 54)
 replace b6:=b6'.alloc (.cells #[.pointer (some ⟨w.heap.size+1+1,0,none⟩)] 54)
 replace b7:=b7'.alloc (.cells #[.pointer (some ⟨w.heap.size+1+1,0,none⟩)] 54)
 replace hy:=hy.alloc (.cells #[.pointer (some ⟨w.heap.size+1+1,0,none⟩)] 54)
 have hV6:z6+1<V6.heap.size:=b7'.lt
 clear b5' b6' b7' m0 m1 m2 m3
 go_wp2_with fail
 generalize hz8:V6.heap.size=z8 at *
 generalize World.alloc V6 _=V7 at *
 obtain⟨m0,m1,m2,m3⟩:=hws _ hy
 have hbw:w.heap.size+1<V7.heap.size:=Nat.lt_of_lt_of_le hwl hy.size
 have hN1:=numbers1 (w.heap.size+1) 0 4 z8 (w.heap.size+1+1) 0 a V7 (by omega) hbw m0 (bp.cells 0) (by omega) (by omega) ⟨_,_,by simp,b5⟩ (by omega)
 refine hN1.mono ?_
 rintro e w' ⟨rfl,rfl⟩
 clear hN1
 cases ha:numW a with
 | none =>
   rw [numsRun_none ha]
   simp only
   have e1h:=Lib.hid (show evW a k tt c []=none from (evW_a ha))
   replace b1:=b1.ext hy
   replace hX:=hX.trans hy
   have hc1:=b1.cells
   have hfz:=frozen_of_heap (show _ from b1)
   clear m0 m1 m2 m3 hws hws2
   go_wp2_with fail
   have g7:=set7 b1 (.int .i64 0) (.int .i64 0) (.int .i64 0) (.int .i64 0) (.int .i64 0) (.int .i64 0) (.int .i64 0)
   have x7:=ext7 hX (Nat.le_refl _) (.int .i64 0) (.int .i64 0) (.int .i64 0) (.int .i64 0) (.int .i64 0) (.int .i64 0) (.int .i64 0)
   generalize World.setCell (World.setCell (World.setCell (World.setCell (World.setCell (World.setCell (World.setCell _ _ _) _ _) _ _) _ _) _ _) _ _) _ _=W7 at g7 x7 ⊢
   have c7:=g7.cells
   refine bodyPost_ret (v:=oneR (evW a k tt c [])) (by rw [e1h.out];simp [results,Tryd.results9,go_sem,oneR,encE,ev0,c7]) rfl ⟨rfl,x7⟩
 | some na =>
 rw [numsRun_some ha]
 simp only [numsRun]
 have b5':Blk (V7.setCell ⟨w.heap.size+1+1,0,none⟩ (.int .i64 na)) (w.heap.size+1+1) (.cells #[.int .i64 na,.int .i64 kd,.int .i64 0,.int .i64 0,.int .i64 0,.int .i64 0,.int .i64 0] 26):=heap_setCell b5 _
 have b6':=b6.setO (i:=0) (show z6≠w.heap.size+1+1 by omega) (.int .i64 na)
 have b7':=b7.setO (i:=0) (show z6+1≠w.heap.size+1+1 by omega) (.int .i64 na)
 replace hy:=hy.setCell (p:=⟨w.heap.size+1+1,0,none⟩) hb5 (.int .i64 na)
 clear b5 b6 b7 bp m0 m1 m2 m3 hbw
 generalize World.setCell V7 _ _=V8 at *
 replace b5:=b5'.alloc (.cells #[.pointer (some ⟨w.heap.size+1+1,2,none⟩),.pointer (some ⟨w.heap.size+1+1,3,none⟩)] 54)
 have bp:=Blk.new V8 (.cells #[.pointer (some ⟨w.heap.size+1+1,2,none⟩),.pointer (some ⟨w.heap.size+1+1,3,none⟩)] 54)
 replace b6:=b6'.alloc (.cells #[.pointer (some ⟨w.heap.size+1+1,2,none⟩),.pointer (some ⟨w.heap.size+1+1,3,none⟩)] 54)
 replace b7:=b7'.alloc (.cells #[.pointer (some ⟨w.heap.size+1+1,2,none⟩),.pointer (some ⟨w.heap.size+1+1,3,none⟩)] 54)
 replace hy:=hy.alloc (.cells #[.pointer (some ⟨w.heap.size+1+1,2,none⟩),.pointer (some ⟨w.heap.size+1+1,3,none⟩)] 54)
 have hV8:z6+1<V8.heap.size:=b7'.lt
 clear b5' b6' b7'
 go_wp2_with fail
 generalize hz9:V8.heap.size=z9 at *
 generalize World.alloc V8 _=V9 at *
 obtain⟨m0,m1,m2,m3⟩:=hws _ hy
 have hbw:w.heap.size+1<V9.heap.size:=Nat.lt_of_lt_of_le hwl hy.size
 have hN2:=numbers2 (w.heap.size+1) 2 2 z9 (w.heap.size+1+1,2) (w.heap.size+1+1,3) tt c V9 (by omega) hbw m2 m3 (bp.cells 0) (bp.cells 1) ⟨by simp only;omega,by simp only;omega⟩ ⟨by simp only;omega,by simp only;omega⟩ ⟨_,_,by simp,b5⟩ ⟨_,_,by simp,b5⟩ (by omega)
 refine hN2.mono ?_
 rintro e w' ⟨rfl,rfl⟩
 clear hN2
 cases htt:numW tt with
 | none =>
   rw [numsRun_none htt]
   simp only
   have e1h:=Lib.hid (show evW a k tt c []=none from (evW_t ha htt))
   replace b1:=b1.ext hy
   replace hX:=hX.trans hy
   have hc1:=b1.cells
   have hfz:=frozen_of_heap (show _ from b1)
   clear m0 m1 m2 m3 hws hws2
   go_wp2_with fail
   have g7:=set7 b1 (.int .i64 0) (.int .i64 0) (.int .i64 0) (.int .i64 0) (.int .i64 0) (.int .i64 0) (.int .i64 0)
   have x7:=ext7 hX (Nat.le_refl _) (.int .i64 0) (.int .i64 0) (.int .i64 0) (.int .i64 0) (.int .i64 0) (.int .i64 0) (.int .i64 0)
   generalize World.setCell (World.setCell (World.setCell (World.setCell (World.setCell (World.setCell (World.setCell _ _ _) _ _) _ _) _ _) _ _) _ _) _ _=W7 at g7 x7 ⊢
   have c7:=g7.cells
   refine bodyPost_ret (v:=oneR (evW a k tt c [])) (by rw [e1h.out];simp [results,Tryd.results9,go_sem,oneR,encE,ev0,c7]) rfl ⟨rfl,x7⟩
 | some nt =>
 rw [numsRun_some htt]
 simp only
 have b5':Blk (V9.setCell ⟨w.heap.size+1+1,2,none⟩ (.int .i64 nt)) (w.heap.size+1+1) (.cells #[.int .i64 na,.int .i64 kd,.int .i64 nt,.int .i64 0,.int .i64 0,.int .i64 0,.int .i64 0] 26):=heap_setCell b5 _
 have b6':=b6.setO (i:=2) (show z6≠w.heap.size+1+1 by omega) (.int .i64 nt)
 have b7':=b7.setO (i:=2) (show z6+1≠w.heap.size+1+1 by omega) (.int .i64 nt)
 replace hy:=hy.setCell (p:=⟨w.heap.size+1+1,2,none⟩) hb5 (.int .i64 nt)
 clear b5 b6 b7 bp m0 m1 m2 m3 hbw
 cases hcc:numW c with
 | none =>
   rw [numsRun_none hcc]
   simp only
   generalize World.setCell V9 _ _=V10 at *
   obtain⟨m0,m1,m2,m3⟩:=hws _ hy
   have e1h:=Lib.hid (show evW a k tt c []=none from (evW_c ha htt hcc))
   replace b1:=b1.ext hy
   replace hX:=hX.trans hy
   have hc1:=b1.cells
   have hfz:=frozen_of_heap (show _ from b1)
   clear m0 m1 m2 m3 hws hws2
   go_wp2_with fail
   have g7:=set7 b1 (.int .i64 0) (.int .i64 0) (.int .i64 0) (.int .i64 0) (.int .i64 0) (.int .i64 0) (.int .i64 0)
   have x7:=ext7 hX (Nat.le_refl _) (.int .i64 0) (.int .i64 0) (.int .i64 0) (.int .i64 0) (.int .i64 0) (.int .i64 0) (.int .i64 0)
   generalize World.setCell (World.setCell (World.setCell (World.setCell (World.setCell (World.setCell (World.setCell _ _ _) _ _) _ _) _ _) _ _) _ _) _ _=W7 at g7 x7 ⊢
   have c7:=g7.cells
   refine bodyPost_ret (v:=oneR (evW a k tt c [])) (by rw [e1h.out];simp [results,Tryd.results9,go_sem,oneR,encE,ev0,c7]) rfl ⟨rfl,x7⟩
 | some nc =>
 rw [numsRun_some hcc]
 simp only [numsRun]
 have b5:Blk ((V9.setCell ⟨w.heap.size+1+1,2,none⟩ (.int .i64 nt)).setCell ⟨w.heap.size+1+1,3,none⟩ (.int .i64 nc)) (w.heap.size+1+1) (.cells #[.int .i64 na,.int .i64 kd,.int .i64 nt,.int .i64 nc,.int .i64 0,.int .i64 0,.int .i64 0] 26):=heap_setCell b5' _
 have b6:=b6'.setO (i:=3) (show z6≠w.heap.size+1+1 by omega) (.int .i64 nc)
 have b7:=b7'.setO (i:=3) (show z6+1≠w.heap.size+1+1 by omega) (.int .i64 nc)
 replace hy:=hy.setCell (p:=⟨w.heap.size+1+1,3,none⟩) hb5 (.int .i64 nc)
 clear b5' b6' b7'
 generalize World.setCell (World.setCell V9 _ _) _ _=V10 at *
 obtain⟨m0,m1,m2,m3⟩:=hws _ hy
 have c5:=b5.cells
 have hV10:z6+1<V10.heap.size:=b7.lt
 by_cases k3:kd=3
 · subst k3
   have hre:restE 3 []=none:=by rfl
   have e1h:=Lib.hid (show evW a k tt c []=none from (evW_r hkdh.out hre))
   replace b1:=b1.ext hy
   replace hX:=hX.trans hy
   have hc1:=b1.cells
   have hfz:=frozen_of_heap (show _ from b1)
   clear m0 m1 m2 m3 hws hws2
   go_wp2_with fail
   have g7:=set7 b1 (.int .i64 0) (.int .i64 0) (.int .i64 0) (.int .i64 0) (.int .i64 0) (.int .i64 0) (.int .i64 0)
   have x7:=ext7 hX (Nat.le_refl _) (.int .i64 0) (.int .i64 0) (.int .i64 0) (.int .i64 0) (.int .i64 0) (.int .i64 0) (.int .i64 0)
   generalize World.setCell (World.setCell (World.setCell (World.setCell (World.setCell (World.setCell (World.setCell _ _ _) _ _) _ _) _ _) _ _) _ _) _ _=W7 at g7 x7 ⊢
   have c7:=g7.cells
   refine bodyPost_ret (v:=oneR (evW a k tt c [])) (by rw [e1h.out];simp [results,Tryd.results9,go_sem,oneR,encE,ev0,c7]) rfl ⟨rfl,x7⟩
 have k3b:(kd==3)=false:=by rw [beq_eq_false_iff_ne];exact k3
 by_cases k2:kd=2
 · subst k2
   clear k3
   have hre:restE 2 []=none:=by rfl
   have bi:=(Blk.new V10 (.cells #[.int .i64 0] 3)).alloc (.cells #[.pointer (some ⟨V10.heap.size,0,none⟩),.pointer (some ⟨w.heap.size+1+1,6,none⟩)] 54)
   have x10:=((Ext.refl V10).alloc (.cells #[.int .i64 0] 3)).alloc (.cells #[.pointer (some ⟨V10.heap.size,0,none⟩),.pointer (some ⟨w.heap.size+1+1,6,none⟩)] 54)
   go_wp2_with fail
   replace b5:=b5.ext x10
   replace hy:=hy.trans x10
   clear c5 b6 b7 x10
   generalize hzi:V10.heap.size=zi at *
   generalize World.alloc (World.alloc V10 _) _=V11 at *
   refine (numbers_ne _ _ 0 _ 2 _ _ (by decide)).mono ?_
   rintro e w' ⟨rfl,rfl⟩
   have ci:=bi.cells
   have c5:=b5.cells
   have hfz:=frozen_of_heap (show V11.heap[w.heap.size+1+1]?=_ from b5)
   go_upto_region 19 with fail
   replace hy:=hy.setCell (p:=⟨w.heap.size+1+1,5,none⟩) hb5 (.int .i64 0)
   clear ci c5 hfz m0 m1 m2 m3
   generalize World.setCell V11 _ _=V12 at *
   obtain⟨m0,m1,m2,m3⟩:=hws _ hy
   have e1h:=Lib.hid (show evW a k tt c []=none from (evW_r hkdh.out hre))
   replace b1:=b1.ext hy
   replace hX:=hX.trans hy
   have hc1:=b1.cells
   have hfz:=frozen_of_heap (show _ from b1)
   clear m0 m1 m2 m3 hws hws2
   go_wp2_with fail
   have g7:=set7 b1 (.int .i64 0) (.int .i64 0) (.int .i64 0) (.int .i64 0) (.int .i64 0) (.int .i64 0) (.int .i64 0)
   have x7:=ext7 hX (Nat.le_refl _) (.int .i64 0) (.int .i64 0) (.int .i64 0) (.int .i64 0) (.int .i64 0) (.int .i64 0) (.int .i64 0)
   generalize World.setCell (World.setCell (World.setCell (World.setCell (World.setCell (World.setCell (World.setCell _ _ _) _ _) _ _) _ _) _ _) _ _) _ _=W7 at g7 x7 ⊢
   have c7:=g7.cells
   refine bodyPost_ret (v:=oneR (evW a k tt c [])) (by rw [e1h.out];simp [results,Tryd.results9,go_sem,oneR,encE,ev0,c7]) rfl ⟨rfl,x7⟩
 have k2b:(kd==2)=false:=by rw [beq_eq_false_iff_ne];exact k2
 have hre:restE kd []=some (0,0,0):=by unfold restE;rw [if_neg k3,if_neg k2]
 clear k3 k2 b6 b7
 have hfi:=fun w=>fine45_p ⟨na,kd,nt,nc,0,0,0⟩ w
 unfold encE at hfi
 simp only at hfi
 have c5:=b5.cells
 clear m0 m1 m2 m3 hws hws2
 cases hf:fineE ⟨na,kd,nt,nc,0,0,0⟩ with
 | false =>
   have e1h:=Lib.hid (evW_no ha htt hcc hkdh.out hre hf)
   rw [hf] at hfi
   clear hf
   go_wp2_with fail
   refine (hfi _).mono ?_
   rintro e w9 ⟨rfl,hx9⟩
   clear hfi c5
   replace hy:=hy.trans hx9
   replace b1:=b1.ext hy
   replace hX:=hX.trans hy
   have hc1:=b1.cells
   have hfz:=frozen_of_heap (show _ from b1)
   go_wp2_with fail
   have g7:=set7 b1 (.int .i64 0) (.int .i64 0) (.int .i64 0) (.int .i64 0) (.int .i64 0) (.int .i64 0) (.int .i64 0)
   have x7:=ext7 hX (Nat.le_refl _) (.int .i64 0) (.int .i64 0) (.int .i64 0) (.int .i64 0) (.int .i64 0) (.int .i64 0) (.int .i64 0)
   generalize World.setCell (World.setCell (World.setCell (World.setCell (World.setCell (World.setCell (World.setCell _ _ _) _ _) _ _) _ _) _ _) _ _) _ _=W7 at g7 x7 ⊢
   have c7:=g7.cells
   refine bodyPost_ret (v:=oneR (evW a k tt c [])) (by rw [e1h.out];simp [results,Tryd.results9,go_sem,oneR,encE,ev0,c7]) rfl ⟨rfl,x7⟩
 | true =>
   have e1h:=Lib.hid (evW_go ha htt hcc hkdh.out hre hf)
   rw [hf] at hfi
   clear hf
   go_wp2_with fail
   refine (hfi _).mono ?_
   rintro e w9 ⟨rfl,hx9⟩
   clear hfi c5
   replace b5:=b5.ext hx9
   replace hy:=hy.trans hx9
   replace b1:=b1.ext hy
   replace hX:=hX.trans hy
   have c5:=b5.cells
   have hc1:=b1.cells
   have hfz:=frozen_of_heap (show _ from b1)
   go_wp2_with fail
   have g7:=set7 b1 (.int .i64 na) (.int .i64 kd) (.int .i64 nt) (.int .i64 nc) (.int .i64 0) (.int .i64 0) (.int .i64 0)
   have x7:=ext7 hX (Nat.le_refl _) (.int .i64 na) (.int .i64 kd) (.int .i64 nt) (.int .i64 nc) (.int .i64 0) (.int .i64 0) (.int .i64 0)
   generalize World.setCell (World.setCell (World.setCell (World.setCell (World.setCell (World.setCell (World.setCell _ _ _) _ _) _ _) _ _) _ _) _ _) _ _=W7 at g7 x7 ⊢
   have c7:=g7.cells
   refine bodyPost_ret (v:=oneR (evW a k tt c [])) (by rw [e1h.out];simp [results,Tryd.results9,go_sem,oneR,encE,c7]) rfl ⟨rfl,x7⟩
set_option maxRecDepth 100000 in
set_option maxHeartbeats 8000000 in
theorem one_1 (line a k tt c:Bs)(cq:Nat)(w:World)(hcq:cq<=2)
  (hsp:Calls Tryd.prog 22 #[.string ⟨line.toArray⟩,.string ⟨#[32]⟩,.int .i64 7] (w.alloc (.cells #[.int .i64 0,.int .i64 0,.int .i64 0,.int .i64 0,.int .i64 0,.int .i64 0,.int .i64 0] 26)) fun e w'=>e=.returned (.slice (some ⟨w.heap.size+1,0,none⟩) 4 (cq+5))/\WordsAt w' (w.heap.size+1) 0 [a,k,tt,c]/\Ext (w.alloc (.cells #[.int .i64 0,.int .i64 0,.int .i64 0,.int .i64 0,.int .i64 0,.int .i64 0,.int .i64 0] 26)) w'/\w'.heap.size=w.heap.size+1+1) :
  Calls Tryd.prog 9 #[.string ⟨line.toArray⟩] w fun e w'=>e=.returned (oneR (evW a k tt c []))/\Ext w w':=by
 have hX:=(Ext.refl w).alloc (.cells #[.int .i64 0,.int .i64 0,.int .i64 0,.int .i64 0,.int .i64 0,.int .i64 0,.int .i64 0] 26)
 have b1:=Blk.new w (.cells #[.int .i64 0,.int .i64 0,.int .i64 0,.int .i64 0,.int .i64 0,.int .i64 0,.int .i64 0] 26)
 go_enter Tryd.func9,Tryd.ntmps9
 go_wp2_with fail
 refine hsp.mono ?_
 rintro e w2 ⟨rfl,hW,hx,hsz⟩
 replace b1:=b1.ext hx
 replace hX:=hX.trans hx
 clear hx hsp
 obtain⟨hwl,hW⟩:=hW
 have hws:∀ W,Ext w2 W->W.cell? ⟨w.heap.size+1,0,none⟩=some (.string ⟨a.toArray⟩)/\W.cell? ⟨w.heap.size+1,1,none⟩=some (.string ⟨k.toArray⟩)/\W.cell? ⟨w.heap.size+1,2,none⟩=some (.string ⟨tt.toArray⟩)/\W.cell? ⟨w.heap.size+1,3,none⟩=some (.string ⟨c.toArray⟩):=by
  intro W hx
  have g:=fun j x hj=>(hx.cell (p:=⟨w.heap.size+1,0+j,none⟩) hwl).trans (hW j x hj)
  simp only [Nat.zero_add] at g
  exact⟨g 0 _ rfl,g 1 _ rfl,g 2 _ rfl,g 3 _ rfl⟩
 have hws2:=hws
 clear hW
 have b5:=Blk.new w2 (.cells #[.int .i64 0,.int .i64 0,.int .i64 0,.int .i64 0,.int .i64 0,.int .i64 0,.int .i64 0] 26)
 have hy:=(Ext.refl w2).alloc (.cells #[.int .i64 0,.int .i64 0,.int .i64 0,.int .i64 0,.int .i64 0,.int .i64 0,.int .i64 0] 26)
 rw [hsz] at b5
 go_wp2_with fail
 refine (kwords_p _).mono ?_
 rintro e w3 ⟨rfl,hx3⟩
 replace b5:=b5.ext hx3
 replace hy:=hy.trans hx3
 clear hx3
 go_wp2_with fail
 refine (nwords_p _).mono ?_
 rintro e w4 ⟨rfl,hx4⟩
 replace b5:=b5.ext hx4
 replace hy:=hy.trans hx4
 clear hx4
 have b6:=(Blk.new w4 (.cells #[.string ⟨#[99,97,108,108]⟩,.string ⟨#[114,101,116,117,114,110]⟩,.string ⟨#[110,111,116,101]⟩,.string ⟨#[104,97,108,116]⟩] 42)).alloc (.cells #[.string ⟨#[100,111,111,114]⟩,.string ⟨#[98,101,104,105,110,100]⟩,.string ⟨#[105,110]⟩,.string ⟨#[108,101,102,116]⟩,.string ⟨#[111,117,116]⟩] 44)
 have b7:=Blk.new (w4.alloc (.cells #[.string ⟨#[99,97,108,108]⟩,.string ⟨#[114,101,116,117,114,110]⟩,.string ⟨#[110,111,116,101]⟩,.string ⟨#[104,97,108,116]⟩] 42)) (.cells #[.string ⟨#[100,111,111,114]⟩,.string ⟨#[98,101,104,105,110,100]⟩,.string ⟨#[105,110]⟩,.string ⟨#[108,101,102,116]⟩,.string ⟨#[111,117,116]⟩] 44)
 have x4:=((Ext.refl w4).alloc (.cells #[.string ⟨#[99,97,108,108]⟩,.string ⟨#[114,101,116,117,114,110]⟩,.string ⟨#[110,111,116,101]⟩,.string ⟨#[104,97,108,116]⟩] 42)).alloc (.cells #[.string ⟨#[100,111,111,114]⟩,.string ⟨#[98,101,104,105,110,100]⟩,.string ⟨#[105,110]⟩,.string ⟨#[108,101,102,116]⟩,.string ⟨#[111,117,116]⟩] 44)
 simp only [World.size_alloc] at b7
 have hz5:w.heap.size+1+1<w4.heap.size:=b5.lt
 replace b5:=b5.ext x4
 replace hy:=hy.trans x4
 clear x4
 go_upto_region 6 with fail
 generalize hz6:w4.heap.size=z6 at *
 generalize World.alloc (World.alloc w4 _) _=V at *
 have hb5:w2.heap.size<=w.heap.size+1+1:=by rw [hsz];exact Nat.le_refl _
 clear hsz
 have hfz:=frozen_of_heap (show V.heap[w.heap.size+1+1]?=_ from b5)
 have hyV:=hy
 replace hy:=hy.drew
 replace b5:=b5.drew
 replace b6:=b6.drew
 replace b7:=b7.drew
 have c5:=b5.cells
 replace hfz:∀ i,V.drew.frozen? ⟨w.heap.size+1+1,i,none⟩=false:=hfz
 go_region_held2 (fun w'=>w'.cell? ⟨w.heap.size+1,1,none⟩=some (.string ⟨k.toArray⟩)) (first | exact (hws _ hy).2.1 | exact (hws _ (hy.setCell hb5 _)).2.1)
  (first
    | (go_at_call 23
       refine (place_k k z6 _ b6).mono ?_
       rintro e w' ⟨rfl,rfl⟩))
 have b5':Blk ((V.setCell ⟨w.heap.size+1+1,1,none⟩ (.int .i64 (placeF k kindsW 0))).drew) (w.heap.size+1+1) (.cells #[.int .i64 0,.int .i64 (placeF k kindsW 0),.int .i64 0,.int .i64 0,.int .i64 0,.int .i64 0,.int .i64 0] 26):=heap_setCell (show V.heap[w.heap.size+1+1]?=_ from b5) _
 have b6':Blk ((V.setCell ⟨w.heap.size+1+1,1,none⟩ (.int .i64 (placeF k kindsW 0))).drew) z6 (.cells #[.string ⟨#[99,97,108,108]⟩,.string ⟨#[114,101,116,117,114,110]⟩,.string ⟨#[110,111,116,101]⟩,.string ⟨#[104,97,108,116]⟩] 42):=Blk.setO (w:=V) b6 (by omega) _
 have b7':Blk ((V.setCell ⟨w.heap.size+1+1,1,none⟩ (.int .i64 (placeF k kindsW 0))).drew) (z6+1) (.cells #[.string ⟨#[100,111,111,114]⟩,.string ⟨#[98,101,104,105,110,100]⟩,.string ⟨#[105,110]⟩,.string ⟨#[108,101,102,116]⟩,.string ⟨#[111,117,116]⟩] 44):=Blk.setO (w:=V) b7 (by omega) _
 replace hy:Ext w2 ((V.setCell ⟨w.heap.size+1+1,1,none⟩ (.int .i64 (placeF k kindsW 0))).drew):=(hyV.setCell (p:=⟨w.heap.size+1+1,1,none⟩) hb5 _).drew
 clear b5 b6 b7 hyV c5 hfz
 generalize World.drew (World.setCell V _ _)=V6 at *
 generalize hkd:placeF k kindsW 0=kd at *
 have hkdh:=Lib.hid hkd
 clear hkd
 obtain⟨m0,m1,m2,m3⟩:=hws _ hy
 replace b5:=b5'.alloc (.cells #[.pointer (some ⟨w.heap.size+1+1,0,none⟩)] 54)
 have bp:=Blk.new V6 (.cells #[.pointer (some ⟨w.heap.size+1+1,0,none⟩)] 54)
 replace b6:=b6'.alloc (.cells #[.pointer (some ⟨w.heap.size+1+1,0,none⟩)] 54)
 replace b7:=b7'.alloc (.cells #[.pointer (some ⟨w.heap.size+1+1,0,none⟩)] 54)
 replace hy:=hy.alloc (.cells #[.pointer (some ⟨w.heap.size+1+1,0,none⟩)] 54)
 have hV6:z6+1<V6.heap.size:=b7'.lt
 clear b5' b6' b7' m0 m1 m2 m3
 go_wp2_with fail
 generalize hz8:V6.heap.size=z8 at *
 generalize World.alloc V6 _=V7 at *
 obtain⟨m0,m1,m2,m3⟩:=hws _ hy
 have hbw:w.heap.size+1<V7.heap.size:=Nat.lt_of_lt_of_le hwl hy.size
 have hN1:=numbers1 (w.heap.size+1) 0 (cq+5) z8 (w.heap.size+1+1) 0 a V7 (by omega) hbw m0 (bp.cells 0) (by omega) (by omega) ⟨_,_,by simp,b5⟩ (by omega)
 refine hN1.mono ?_
 rintro e w' ⟨rfl,rfl⟩
 clear hN1
 cases ha:numW a with
 | none =>
   rw [numsRun_none ha]
   simp only
   have e1h:=Lib.hid (show evW a k tt c []=none from (evW_a ha))
   replace b1:=b1.ext hy
   replace hX:=hX.trans hy
   have hc1:=b1.cells
   have hfz:=frozen_of_heap (show _ from b1)
   clear m0 m1 m2 m3 hws hws2
   go_wp2_with fail
   have g7:=set7 b1 (.int .i64 0) (.int .i64 0) (.int .i64 0) (.int .i64 0) (.int .i64 0) (.int .i64 0) (.int .i64 0)
   have x7:=ext7 hX (Nat.le_refl _) (.int .i64 0) (.int .i64 0) (.int .i64 0) (.int .i64 0) (.int .i64 0) (.int .i64 0) (.int .i64 0)
   generalize World.setCell (World.setCell (World.setCell (World.setCell (World.setCell (World.setCell (World.setCell _ _ _) _ _) _ _) _ _) _ _) _ _) _ _=W7 at g7 x7 ⊢
   have c7:=g7.cells
   refine bodyPost_ret (v:=oneR (evW a k tt c [])) (by rw [e1h.out];simp [results,Tryd.results9,go_sem,oneR,encE,ev0,c7]) rfl ⟨rfl,x7⟩
 | some na =>
 rw [numsRun_some ha]
 simp only [numsRun]
 have b5':Blk (V7.setCell ⟨w.heap.size+1+1,0,none⟩ (.int .i64 na)) (w.heap.size+1+1) (.cells #[.int .i64 na,.int .i64 kd,.int .i64 0,.int .i64 0,.int .i64 0,.int .i64 0,.int .i64 0] 26):=heap_setCell b5 _
 have b6':=b6.setO (i:=0) (show z6≠w.heap.size+1+1 by omega) (.int .i64 na)
 have b7':=b7.setO (i:=0) (show z6+1≠w.heap.size+1+1 by omega) (.int .i64 na)
 replace hy:=hy.setCell (p:=⟨w.heap.size+1+1,0,none⟩) hb5 (.int .i64 na)
 clear b5 b6 b7 bp m0 m1 m2 m3 hbw
 generalize World.setCell V7 _ _=V8 at *
 replace b5:=b5'.alloc (.cells #[.pointer (some ⟨w.heap.size+1+1,2,none⟩),.pointer (some ⟨w.heap.size+1+1,3,none⟩)] 54)
 have bp:=Blk.new V8 (.cells #[.pointer (some ⟨w.heap.size+1+1,2,none⟩),.pointer (some ⟨w.heap.size+1+1,3,none⟩)] 54)
 replace b6:=b6'.alloc (.cells #[.pointer (some ⟨w.heap.size+1+1,2,none⟩),.pointer (some ⟨w.heap.size+1+1,3,none⟩)] 54)
 replace b7:=b7'.alloc (.cells #[.pointer (some ⟨w.heap.size+1+1,2,none⟩),.pointer (some ⟨w.heap.size+1+1,3,none⟩)] 54)
 replace hy:=hy.alloc (.cells #[.pointer (some ⟨w.heap.size+1+1,2,none⟩),.pointer (some ⟨w.heap.size+1+1,3,none⟩)] 54)
 have hV8:z6+1<V8.heap.size:=b7'.lt
 clear b5' b6' b7'
 go_wp2_with fail
 generalize hz9:V8.heap.size=z9 at *
 generalize World.alloc V8 _=V9 at *
 obtain⟨m0,m1,m2,m3⟩:=hws _ hy
 have hbw:w.heap.size+1<V9.heap.size:=Nat.lt_of_lt_of_le hwl hy.size
 have hN2:=numbers2 (w.heap.size+1) 2 (cq+3) z9 (w.heap.size+1+1,2) (w.heap.size+1+1,3) tt c V9 (by omega) hbw m2 m3 (bp.cells 0) (bp.cells 1) ⟨by simp only;omega,by simp only;omega⟩ ⟨by simp only;omega,by simp only;omega⟩ ⟨_,_,by simp,b5⟩ ⟨_,_,by simp,b5⟩ (by omega)
 refine hN2.mono ?_
 rintro e w' ⟨rfl,rfl⟩
 clear hN2
 cases htt:numW tt with
 | none =>
   rw [numsRun_none htt]
   simp only
   have e1h:=Lib.hid (show evW a k tt c []=none from (evW_t ha htt))
   replace b1:=b1.ext hy
   replace hX:=hX.trans hy
   have hc1:=b1.cells
   have hfz:=frozen_of_heap (show _ from b1)
   clear m0 m1 m2 m3 hws hws2
   go_wp2_with fail
   have g7:=set7 b1 (.int .i64 0) (.int .i64 0) (.int .i64 0) (.int .i64 0) (.int .i64 0) (.int .i64 0) (.int .i64 0)
   have x7:=ext7 hX (Nat.le_refl _) (.int .i64 0) (.int .i64 0) (.int .i64 0) (.int .i64 0) (.int .i64 0) (.int .i64 0) (.int .i64 0)
   generalize World.setCell (World.setCell (World.setCell (World.setCell (World.setCell (World.setCell (World.setCell _ _ _) _ _) _ _) _ _) _ _) _ _) _ _=W7 at g7 x7 ⊢
   have c7:=g7.cells
   refine bodyPost_ret (v:=oneR (evW a k tt c [])) (by rw [e1h.out];simp [results,Tryd.results9,go_sem,oneR,encE,ev0,c7]) rfl ⟨rfl,x7⟩
 | some nt =>
 rw [numsRun_some htt]
 simp only
 have b5':Blk (V9.setCell ⟨w.heap.size+1+1,2,none⟩ (.int .i64 nt)) (w.heap.size+1+1) (.cells #[.int .i64 na,.int .i64 kd,.int .i64 nt,.int .i64 0,.int .i64 0,.int .i64 0,.int .i64 0] 26):=heap_setCell b5 _
 have b6':=b6.setO (i:=2) (show z6≠w.heap.size+1+1 by omega) (.int .i64 nt)
 have b7':=b7.setO (i:=2) (show z6+1≠w.heap.size+1+1 by omega) (.int .i64 nt)
 replace hy:=hy.setCell (p:=⟨w.heap.size+1+1,2,none⟩) hb5 (.int .i64 nt)
 clear b5 b6 b7 bp m0 m1 m2 m3 hbw
 cases hcc:numW c with
 | none =>
   rw [numsRun_none hcc]
   simp only
   generalize World.setCell V9 _ _=V10 at *
   obtain⟨m0,m1,m2,m3⟩:=hws _ hy
   have e1h:=Lib.hid (show evW a k tt c []=none from (evW_c ha htt hcc))
   replace b1:=b1.ext hy
   replace hX:=hX.trans hy
   have hc1:=b1.cells
   have hfz:=frozen_of_heap (show _ from b1)
   clear m0 m1 m2 m3 hws hws2
   go_wp2_with fail
   have g7:=set7 b1 (.int .i64 0) (.int .i64 0) (.int .i64 0) (.int .i64 0) (.int .i64 0) (.int .i64 0) (.int .i64 0)
   have x7:=ext7 hX (Nat.le_refl _) (.int .i64 0) (.int .i64 0) (.int .i64 0) (.int .i64 0) (.int .i64 0) (.int .i64 0) (.int .i64 0)
   generalize World.setCell (World.setCell (World.setCell (World.setCell (World.setCell (World.setCell (World.setCell _ _ _) _ _) _ _) _ _) _ _) _ _) _ _=W7 at g7 x7 ⊢
   have c7:=g7.cells
   refine bodyPost_ret (v:=oneR (evW a k tt c [])) (by rw [e1h.out];simp [results,Tryd.results9,go_sem,oneR,encE,ev0,c7]) rfl ⟨rfl,x7⟩
 | some nc =>
 rw [numsRun_some hcc]
 simp only [numsRun]
 have b5:Blk ((V9.setCell ⟨w.heap.size+1+1,2,none⟩ (.int .i64 nt)).setCell ⟨w.heap.size+1+1,3,none⟩ (.int .i64 nc)) (w.heap.size+1+1) (.cells #[.int .i64 na,.int .i64 kd,.int .i64 nt,.int .i64 nc,.int .i64 0,.int .i64 0,.int .i64 0] 26):=heap_setCell b5' _
 have b6:=b6'.setO (i:=3) (show z6≠w.heap.size+1+1 by omega) (.int .i64 nc)
 have b7:=b7'.setO (i:=3) (show z6+1≠w.heap.size+1+1 by omega) (.int .i64 nc)
 replace hy:=hy.setCell (p:=⟨w.heap.size+1+1,3,none⟩) hb5 (.int .i64 nc)
 clear b5' b6' b7'
 generalize World.setCell (World.setCell V9 _ _) _ _=V10 at *
 obtain⟨m0,m1,m2,m3⟩:=hws _ hy
 have c5:=b5.cells
 have hV10:z6+1<V10.heap.size:=b7.lt
 by_cases k3:kd=3
 · subst k3
   have hre:restE 3 []=none:=by rfl
   have e1h:=Lib.hid (show evW a k tt c []=none from (evW_r hkdh.out hre))
   replace b1:=b1.ext hy
   replace hX:=hX.trans hy
   have hc1:=b1.cells
   have hfz:=frozen_of_heap (show _ from b1)
   clear m0 m1 m2 m3 hws hws2
   go_wp2_with fail
   have g7:=set7 b1 (.int .i64 0) (.int .i64 0) (.int .i64 0) (.int .i64 0) (.int .i64 0) (.int .i64 0) (.int .i64 0)
   have x7:=ext7 hX (Nat.le_refl _) (.int .i64 0) (.int .i64 0) (.int .i64 0) (.int .i64 0) (.int .i64 0) (.int .i64 0) (.int .i64 0)
   generalize World.setCell (World.setCell (World.setCell (World.setCell (World.setCell (World.setCell (World.setCell _ _ _) _ _) _ _) _ _) _ _) _ _) _ _=W7 at g7 x7 ⊢
   have c7:=g7.cells
   refine bodyPost_ret (v:=oneR (evW a k tt c [])) (by rw [e1h.out];simp [results,Tryd.results9,go_sem,oneR,encE,ev0,c7]) rfl ⟨rfl,x7⟩
 have k3b:(kd==3)=false:=by rw [beq_eq_false_iff_ne];exact k3
 by_cases k2:kd=2
 · subst k2
   clear k3
   have hre:restE 2 []=none:=by rfl
   have bi:=(Blk.new V10 (.cells #[.int .i64 0] 3)).alloc (.cells #[.pointer (some ⟨V10.heap.size,0,none⟩),.pointer (some ⟨w.heap.size+1+1,6,none⟩)] 54)
   have x10:=((Ext.refl V10).alloc (.cells #[.int .i64 0] 3)).alloc (.cells #[.pointer (some ⟨V10.heap.size,0,none⟩),.pointer (some ⟨w.heap.size+1+1,6,none⟩)] 54)
   go_wp2_with fail
   replace b5:=b5.ext x10
   replace hy:=hy.trans x10
   clear c5 b6 b7 x10
   generalize hzi:V10.heap.size=zi at *
   generalize World.alloc (World.alloc V10 _) _=V11 at *
   refine (numbers_ne _ _ 0 _ 2 _ _ (by decide)).mono ?_
   rintro e w' ⟨rfl,rfl⟩
   have ci:=bi.cells
   have c5:=b5.cells
   have hfz:=frozen_of_heap (show V11.heap[w.heap.size+1+1]?=_ from b5)
   go_upto_region 19 with fail
   replace hy:=hy.setCell (p:=⟨w.heap.size+1+1,5,none⟩) hb5 (.int .i64 0)
   clear ci c5 hfz m0 m1 m2 m3
   generalize World.setCell V11 _ _=V12 at *
   obtain⟨m0,m1,m2,m3⟩:=hws _ hy
   have e1h:=Lib.hid (show evW a k tt c []=none from (evW_r hkdh.out hre))
   replace b1:=b1.ext hy
   replace hX:=hX.trans hy
   have hc1:=b1.cells
   have hfz:=frozen_of_heap (show _ from b1)
   clear m0 m1 m2 m3 hws hws2
   go_wp2_with fail
   have g7:=set7 b1 (.int .i64 0) (.int .i64 0) (.int .i64 0) (.int .i64 0) (.int .i64 0) (.int .i64 0) (.int .i64 0)
   have x7:=ext7 hX (Nat.le_refl _) (.int .i64 0) (.int .i64 0) (.int .i64 0) (.int .i64 0) (.int .i64 0) (.int .i64 0) (.int .i64 0)
   generalize World.setCell (World.setCell (World.setCell (World.setCell (World.setCell (World.setCell (World.setCell _ _ _) _ _) _ _) _ _) _ _) _ _) _ _=W7 at g7 x7 ⊢
   have c7:=g7.cells
   refine bodyPost_ret (v:=oneR (evW a k tt c [])) (by rw [e1h.out];simp [results,Tryd.results9,go_sem,oneR,encE,ev0,c7]) rfl ⟨rfl,x7⟩
 have k2b:(kd==2)=false:=by rw [beq_eq_false_iff_ne];exact k2
 have hre:restE kd []=some (0,0,0):=by unfold restE;rw [if_neg k3,if_neg k2]
 clear k3 k2 b6 b7
 have hfi:=fun w=>fine45_p ⟨na,kd,nt,nc,0,0,0⟩ w
 unfold encE at hfi
 simp only at hfi
 have c5:=b5.cells
 clear m0 m1 m2 m3 hws hws2
 cases hf:fineE ⟨na,kd,nt,nc,0,0,0⟩ with
 | false =>
   have e1h:=Lib.hid (evW_no ha htt hcc hkdh.out hre hf)
   rw [hf] at hfi
   clear hf
   go_wp2_with fail
   refine (hfi _).mono ?_
   rintro e w9 ⟨rfl,hx9⟩
   clear hfi c5
   replace hy:=hy.trans hx9
   replace b1:=b1.ext hy
   replace hX:=hX.trans hy
   have hc1:=b1.cells
   have hfz:=frozen_of_heap (show _ from b1)
   go_wp2_with fail
   have g7:=set7 b1 (.int .i64 0) (.int .i64 0) (.int .i64 0) (.int .i64 0) (.int .i64 0) (.int .i64 0) (.int .i64 0)
   have x7:=ext7 hX (Nat.le_refl _) (.int .i64 0) (.int .i64 0) (.int .i64 0) (.int .i64 0) (.int .i64 0) (.int .i64 0) (.int .i64 0)
   generalize World.setCell (World.setCell (World.setCell (World.setCell (World.setCell (World.setCell (World.setCell _ _ _) _ _) _ _) _ _) _ _) _ _) _ _=W7 at g7 x7 ⊢
   have c7:=g7.cells
   refine bodyPost_ret (v:=oneR (evW a k tt c [])) (by rw [e1h.out];simp [results,Tryd.results9,go_sem,oneR,encE,ev0,c7]) rfl ⟨rfl,x7⟩
 | true =>
   have e1h:=Lib.hid (evW_go ha htt hcc hkdh.out hre hf)
   rw [hf] at hfi
   clear hf
   go_wp2_with fail
   refine (hfi _).mono ?_
   rintro e w9 ⟨rfl,hx9⟩
   clear hfi c5
   replace b5:=b5.ext hx9
   replace hy:=hy.trans hx9
   replace b1:=b1.ext hy
   replace hX:=hX.trans hy
   have c5:=b5.cells
   have hc1:=b1.cells
   have hfz:=frozen_of_heap (show _ from b1)
   go_wp2_with fail
   have g7:=set7 b1 (.int .i64 na) (.int .i64 kd) (.int .i64 nt) (.int .i64 nc) (.int .i64 0) (.int .i64 0) (.int .i64 0)
   have x7:=ext7 hX (Nat.le_refl _) (.int .i64 na) (.int .i64 kd) (.int .i64 nt) (.int .i64 nc) (.int .i64 0) (.int .i64 0) (.int .i64 0)
   generalize World.setCell (World.setCell (World.setCell (World.setCell (World.setCell (World.setCell (World.setCell _ _ _) _ _) _ _) _ _) _ _) _ _) _ _=W7 at g7 x7 ⊢
   have c7:=g7.cells
   refine bodyPost_ret (v:=oneR (evW a k tt c [])) (by rw [e1h.out];simp [results,Tryd.results9,go_sem,oneR,encE,c7]) rfl ⟨rfl,x7⟩
set_option maxRecDepth 100000 in
set_option maxHeartbeats 8000000 in
theorem one_2 (line a k tt c r0:Bs)(cq:Nat)(w:World)(hcq:cq<=2)
  (hsp:Calls Tryd.prog 22 #[.string ⟨line.toArray⟩,.string ⟨#[32]⟩,.int .i64 7] (w.alloc (.cells #[.int .i64 0,.int .i64 0,.int .i64 0,.int .i64 0,.int .i64 0,.int .i64 0,.int .i64 0] 26)) fun e w'=>e=.returned (.slice (some ⟨w.heap.size+1,0,none⟩) 5 (cq+5))/\WordsAt w' (w.heap.size+1) 0 [a,k,tt,c,r0]/\Ext (w.alloc (.cells #[.int .i64 0,.int .i64 0,.int .i64 0,.int .i64 0,.int .i64 0,.int .i64 0,.int .i64 0] 26)) w'/\w'.heap.size=w.heap.size+1+1) :
  Calls Tryd.prog 9 #[.string ⟨line.toArray⟩] w fun e w'=>e=.returned (oneR (evW a k tt c [r0]))/\Ext w w':=by
 have hX:=(Ext.refl w).alloc (.cells #[.int .i64 0,.int .i64 0,.int .i64 0,.int .i64 0,.int .i64 0,.int .i64 0,.int .i64 0] 26)
 have b1:=Blk.new w (.cells #[.int .i64 0,.int .i64 0,.int .i64 0,.int .i64 0,.int .i64 0,.int .i64 0,.int .i64 0] 26)
 go_enter Tryd.func9,Tryd.ntmps9
 go_wp2_with fail
 refine hsp.mono ?_
 rintro e w2 ⟨rfl,hW,hx,hsz⟩
 replace b1:=b1.ext hx
 replace hX:=hX.trans hx
 clear hx hsp
 obtain⟨hwl,hW⟩:=hW
 have hws:∀ W,Ext w2 W->W.cell? ⟨w.heap.size+1,0,none⟩=some (.string ⟨a.toArray⟩)/\W.cell? ⟨w.heap.size+1,1,none⟩=some (.string ⟨k.toArray⟩)/\W.cell? ⟨w.heap.size+1,2,none⟩=some (.string ⟨tt.toArray⟩)/\W.cell? ⟨w.heap.size+1,3,none⟩=some (.string ⟨c.toArray⟩)/\W.cell? ⟨w.heap.size+1,4,none⟩=some (.string ⟨r0.toArray⟩):=by
  intro W hx
  have g:=fun j x hj=>(hx.cell (p:=⟨w.heap.size+1,0+j,none⟩) hwl).trans (hW j x hj)
  simp only [Nat.zero_add] at g
  exact⟨g 0 _ rfl,g 1 _ rfl,g 2 _ rfl,g 3 _ rfl,g 4 _ rfl⟩
 have hws2:=hws
 clear hW
 have b5:=Blk.new w2 (.cells #[.int .i64 0,.int .i64 0,.int .i64 0,.int .i64 0,.int .i64 0,.int .i64 0,.int .i64 0] 26)
 have hy:=(Ext.refl w2).alloc (.cells #[.int .i64 0,.int .i64 0,.int .i64 0,.int .i64 0,.int .i64 0,.int .i64 0,.int .i64 0] 26)
 rw [hsz] at b5
 go_wp2_with fail
 refine (kwords_p _).mono ?_
 rintro e w3 ⟨rfl,hx3⟩
 replace b5:=b5.ext hx3
 replace hy:=hy.trans hx3
 clear hx3
 go_wp2_with fail
 refine (nwords_p _).mono ?_
 rintro e w4 ⟨rfl,hx4⟩
 replace b5:=b5.ext hx4
 replace hy:=hy.trans hx4
 clear hx4
 have b6:=(Blk.new w4 (.cells #[.string ⟨#[99,97,108,108]⟩,.string ⟨#[114,101,116,117,114,110]⟩,.string ⟨#[110,111,116,101]⟩,.string ⟨#[104,97,108,116]⟩] 42)).alloc (.cells #[.string ⟨#[100,111,111,114]⟩,.string ⟨#[98,101,104,105,110,100]⟩,.string ⟨#[105,110]⟩,.string ⟨#[108,101,102,116]⟩,.string ⟨#[111,117,116]⟩] 44)
 have b7:=Blk.new (w4.alloc (.cells #[.string ⟨#[99,97,108,108]⟩,.string ⟨#[114,101,116,117,114,110]⟩,.string ⟨#[110,111,116,101]⟩,.string ⟨#[104,97,108,116]⟩] 42)) (.cells #[.string ⟨#[100,111,111,114]⟩,.string ⟨#[98,101,104,105,110,100]⟩,.string ⟨#[105,110]⟩,.string ⟨#[108,101,102,116]⟩,.string ⟨#[111,117,116]⟩] 44)
 have x4:=((Ext.refl w4).alloc (.cells #[.string ⟨#[99,97,108,108]⟩,.string ⟨#[114,101,116,117,114,110]⟩,.string ⟨#[110,111,116,101]⟩,.string ⟨#[104,97,108,116]⟩] 42)).alloc (.cells #[.string ⟨#[100,111,111,114]⟩,.string ⟨#[98,101,104,105,110,100]⟩,.string ⟨#[105,110]⟩,.string ⟨#[108,101,102,116]⟩,.string ⟨#[111,117,116]⟩] 44)
 simp only [World.size_alloc] at b7
 have hz5:w.heap.size+1+1<w4.heap.size:=b5.lt
 replace b5:=b5.ext x4
 replace hy:=hy.trans x4
 clear x4
 go_upto_region 6 with fail
 generalize hz6:w4.heap.size=z6 at *
 generalize World.alloc (World.alloc w4 _) _=V at *
 have hb5:w2.heap.size<=w.heap.size+1+1:=by rw [hsz];exact Nat.le_refl _
 clear hsz
 have hfz:=frozen_of_heap (show V.heap[w.heap.size+1+1]?=_ from b5)
 have hyV:=hy
 replace hy:=hy.drew
 replace b5:=b5.drew
 replace b6:=b6.drew
 replace b7:=b7.drew
 have c5:=b5.cells
 replace hfz:∀ i,V.drew.frozen? ⟨w.heap.size+1+1,i,none⟩=false:=hfz
 go_region_held2 (fun w'=>w'.cell? ⟨w.heap.size+1,1,none⟩=some (.string ⟨k.toArray⟩)) (first | exact (hws _ hy).2.1 | exact (hws _ (hy.setCell hb5 _)).2.1)
  (first
    | (go_at_call 23
       refine (place_k k z6 _ b6).mono ?_
       rintro e w' ⟨rfl,rfl⟩))
 have b5':Blk ((V.setCell ⟨w.heap.size+1+1,1,none⟩ (.int .i64 (placeF k kindsW 0))).drew) (w.heap.size+1+1) (.cells #[.int .i64 0,.int .i64 (placeF k kindsW 0),.int .i64 0,.int .i64 0,.int .i64 0,.int .i64 0,.int .i64 0] 26):=heap_setCell (show V.heap[w.heap.size+1+1]?=_ from b5) _
 have b6':Blk ((V.setCell ⟨w.heap.size+1+1,1,none⟩ (.int .i64 (placeF k kindsW 0))).drew) z6 (.cells #[.string ⟨#[99,97,108,108]⟩,.string ⟨#[114,101,116,117,114,110]⟩,.string ⟨#[110,111,116,101]⟩,.string ⟨#[104,97,108,116]⟩] 42):=Blk.setO (w:=V) b6 (by omega) _
 have b7':Blk ((V.setCell ⟨w.heap.size+1+1,1,none⟩ (.int .i64 (placeF k kindsW 0))).drew) (z6+1) (.cells #[.string ⟨#[100,111,111,114]⟩,.string ⟨#[98,101,104,105,110,100]⟩,.string ⟨#[105,110]⟩,.string ⟨#[108,101,102,116]⟩,.string ⟨#[111,117,116]⟩] 44):=Blk.setO (w:=V) b7 (by omega) _
 replace hy:Ext w2 ((V.setCell ⟨w.heap.size+1+1,1,none⟩ (.int .i64 (placeF k kindsW 0))).drew):=(hyV.setCell (p:=⟨w.heap.size+1+1,1,none⟩) hb5 _).drew
 clear b5 b6 b7 hyV c5 hfz
 generalize World.drew (World.setCell V _ _)=V6 at *
 generalize hkd:placeF k kindsW 0=kd at *
 have hkdh:=Lib.hid hkd
 clear hkd
 obtain⟨m0,m1,m2,m3,m4⟩:=hws _ hy
 replace b5:=b5'.alloc (.cells #[.pointer (some ⟨w.heap.size+1+1,0,none⟩)] 54)
 have bp:=Blk.new V6 (.cells #[.pointer (some ⟨w.heap.size+1+1,0,none⟩)] 54)
 replace b6:=b6'.alloc (.cells #[.pointer (some ⟨w.heap.size+1+1,0,none⟩)] 54)
 replace b7:=b7'.alloc (.cells #[.pointer (some ⟨w.heap.size+1+1,0,none⟩)] 54)
 replace hy:=hy.alloc (.cells #[.pointer (some ⟨w.heap.size+1+1,0,none⟩)] 54)
 have hV6:z6+1<V6.heap.size:=b7'.lt
 clear b5' b6' b7' m0 m1 m2 m3 m4
 go_wp2_with fail
 generalize hz8:V6.heap.size=z8 at *
 generalize World.alloc V6 _=V7 at *
 obtain⟨m0,m1,m2,m3,m4⟩:=hws _ hy
 have hbw:w.heap.size+1<V7.heap.size:=Nat.lt_of_lt_of_le hwl hy.size
 have hN1:=numbers1 (w.heap.size+1) 0 (cq+5) z8 (w.heap.size+1+1) 0 a V7 (by omega) hbw m0 (bp.cells 0) (by omega) (by omega) ⟨_,_,by simp,b5⟩ (by omega)
 refine hN1.mono ?_
 rintro e w' ⟨rfl,rfl⟩
 clear hN1
 cases ha:numW a with
 | none =>
   rw [numsRun_none ha]
   simp only
   have e1h:=Lib.hid (show evW a k tt c [r0]=none from (evW_a ha))
   replace b1:=b1.ext hy
   replace hX:=hX.trans hy
   have hc1:=b1.cells
   have hfz:=frozen_of_heap (show _ from b1)
   clear m0 m1 m2 m3 m4 hws hws2
   go_wp2_with fail
   have g7:=set7 b1 (.int .i64 0) (.int .i64 0) (.int .i64 0) (.int .i64 0) (.int .i64 0) (.int .i64 0) (.int .i64 0)
   have x7:=ext7 hX (Nat.le_refl _) (.int .i64 0) (.int .i64 0) (.int .i64 0) (.int .i64 0) (.int .i64 0) (.int .i64 0) (.int .i64 0)
   generalize World.setCell (World.setCell (World.setCell (World.setCell (World.setCell (World.setCell (World.setCell _ _ _) _ _) _ _) _ _) _ _) _ _) _ _=W7 at g7 x7 ⊢
   have c7:=g7.cells
   refine bodyPost_ret (v:=oneR (evW a k tt c [r0])) (by rw [e1h.out];simp [results,Tryd.results9,go_sem,oneR,encE,ev0,c7]) rfl ⟨rfl,x7⟩
 | some na =>
 rw [numsRun_some ha]
 simp only [numsRun]
 have b5':Blk (V7.setCell ⟨w.heap.size+1+1,0,none⟩ (.int .i64 na)) (w.heap.size+1+1) (.cells #[.int .i64 na,.int .i64 kd,.int .i64 0,.int .i64 0,.int .i64 0,.int .i64 0,.int .i64 0] 26):=heap_setCell b5 _
 have b6':=b6.setO (i:=0) (show z6≠w.heap.size+1+1 by omega) (.int .i64 na)
 have b7':=b7.setO (i:=0) (show z6+1≠w.heap.size+1+1 by omega) (.int .i64 na)
 replace hy:=hy.setCell (p:=⟨w.heap.size+1+1,0,none⟩) hb5 (.int .i64 na)
 clear b5 b6 b7 bp m0 m1 m2 m3 m4 hbw
 generalize World.setCell V7 _ _=V8 at *
 replace b5:=b5'.alloc (.cells #[.pointer (some ⟨w.heap.size+1+1,2,none⟩),.pointer (some ⟨w.heap.size+1+1,3,none⟩)] 54)
 have bp:=Blk.new V8 (.cells #[.pointer (some ⟨w.heap.size+1+1,2,none⟩),.pointer (some ⟨w.heap.size+1+1,3,none⟩)] 54)
 replace b6:=b6'.alloc (.cells #[.pointer (some ⟨w.heap.size+1+1,2,none⟩),.pointer (some ⟨w.heap.size+1+1,3,none⟩)] 54)
 replace b7:=b7'.alloc (.cells #[.pointer (some ⟨w.heap.size+1+1,2,none⟩),.pointer (some ⟨w.heap.size+1+1,3,none⟩)] 54)
 replace hy:=hy.alloc (.cells #[.pointer (some ⟨w.heap.size+1+1,2,none⟩),.pointer (some ⟨w.heap.size+1+1,3,none⟩)] 54)
 have hV8:z6+1<V8.heap.size:=b7'.lt
 clear b5' b6' b7'
 go_wp2_with fail
 generalize hz9:V8.heap.size=z9 at *
 generalize World.alloc V8 _=V9 at *
 obtain⟨m0,m1,m2,m3,m4⟩:=hws _ hy
 have hbw:w.heap.size+1<V9.heap.size:=Nat.lt_of_lt_of_le hwl hy.size
 have hN2:=numbers2 (w.heap.size+1) 2 (cq+3) z9 (w.heap.size+1+1,2) (w.heap.size+1+1,3) tt c V9 (by omega) hbw m2 m3 (bp.cells 0) (bp.cells 1) ⟨by simp only;omega,by simp only;omega⟩ ⟨by simp only;omega,by simp only;omega⟩ ⟨_,_,by simp,b5⟩ ⟨_,_,by simp,b5⟩ (by omega)
 refine hN2.mono ?_
 rintro e w' ⟨rfl,rfl⟩
 clear hN2
 cases htt:numW tt with
 | none =>
   rw [numsRun_none htt]
   simp only
   have e1h:=Lib.hid (show evW a k tt c [r0]=none from (evW_t ha htt))
   replace b1:=b1.ext hy
   replace hX:=hX.trans hy
   have hc1:=b1.cells
   have hfz:=frozen_of_heap (show _ from b1)
   clear m0 m1 m2 m3 m4 hws hws2
   go_wp2_with fail
   have g7:=set7 b1 (.int .i64 0) (.int .i64 0) (.int .i64 0) (.int .i64 0) (.int .i64 0) (.int .i64 0) (.int .i64 0)
   have x7:=ext7 hX (Nat.le_refl _) (.int .i64 0) (.int .i64 0) (.int .i64 0) (.int .i64 0) (.int .i64 0) (.int .i64 0) (.int .i64 0)
   generalize World.setCell (World.setCell (World.setCell (World.setCell (World.setCell (World.setCell (World.setCell _ _ _) _ _) _ _) _ _) _ _) _ _) _ _=W7 at g7 x7 ⊢
   have c7:=g7.cells
   refine bodyPost_ret (v:=oneR (evW a k tt c [r0])) (by rw [e1h.out];simp [results,Tryd.results9,go_sem,oneR,encE,ev0,c7]) rfl ⟨rfl,x7⟩
 | some nt =>
 rw [numsRun_some htt]
 simp only
 have b5':Blk (V9.setCell ⟨w.heap.size+1+1,2,none⟩ (.int .i64 nt)) (w.heap.size+1+1) (.cells #[.int .i64 na,.int .i64 kd,.int .i64 nt,.int .i64 0,.int .i64 0,.int .i64 0,.int .i64 0] 26):=heap_setCell b5 _
 have b6':=b6.setO (i:=2) (show z6≠w.heap.size+1+1 by omega) (.int .i64 nt)
 have b7':=b7.setO (i:=2) (show z6+1≠w.heap.size+1+1 by omega) (.int .i64 nt)
 replace hy:=hy.setCell (p:=⟨w.heap.size+1+1,2,none⟩) hb5 (.int .i64 nt)
 clear b5 b6 b7 bp m0 m1 m2 m3 m4 hbw
 cases hcc:numW c with
 | none =>
   rw [numsRun_none hcc]
   simp only
   generalize World.setCell V9 _ _=V10 at *
   obtain⟨m0,m1,m2,m3,m4⟩:=hws _ hy
   have e1h:=Lib.hid (show evW a k tt c [r0]=none from (evW_c ha htt hcc))
   replace b1:=b1.ext hy
   replace hX:=hX.trans hy
   have hc1:=b1.cells
   have hfz:=frozen_of_heap (show _ from b1)
   clear m0 m1 m2 m3 m4 hws hws2
   go_wp2_with fail
   have g7:=set7 b1 (.int .i64 0) (.int .i64 0) (.int .i64 0) (.int .i64 0) (.int .i64 0) (.int .i64 0) (.int .i64 0)
   have x7:=ext7 hX (Nat.le_refl _) (.int .i64 0) (.int .i64 0) (.int .i64 0) (.int .i64 0) (.int .i64 0) (.int .i64 0) (.int .i64 0)
   generalize World.setCell (World.setCell (World.setCell (World.setCell (World.setCell (World.setCell (World.setCell _ _ _) _ _) _ _) _ _) _ _) _ _) _ _=W7 at g7 x7 ⊢
   have c7:=g7.cells
   refine bodyPost_ret (v:=oneR (evW a k tt c [r0])) (by rw [e1h.out];simp [results,Tryd.results9,go_sem,oneR,encE,ev0,c7]) rfl ⟨rfl,x7⟩
 | some nc =>
 rw [numsRun_some hcc]
 simp only [numsRun]
 have b5:Blk ((V9.setCell ⟨w.heap.size+1+1,2,none⟩ (.int .i64 nt)).setCell ⟨w.heap.size+1+1,3,none⟩ (.int .i64 nc)) (w.heap.size+1+1) (.cells #[.int .i64 na,.int .i64 kd,.int .i64 nt,.int .i64 nc,.int .i64 0,.int .i64 0,.int .i64 0] 26):=heap_setCell b5' _
 have b6:=b6'.setO (i:=3) (show z6≠w.heap.size+1+1 by omega) (.int .i64 nc)
 have b7:=b7'.setO (i:=3) (show z6+1≠w.heap.size+1+1 by omega) (.int .i64 nc)
 replace hy:=hy.setCell (p:=⟨w.heap.size+1+1,3,none⟩) hb5 (.int .i64 nc)
 clear b5' b6' b7'
 generalize World.setCell (World.setCell V9 _ _) _ _=V10 at *
 obtain⟨m0,m1,m2,m3,m4⟩:=hws _ hy
 have c5:=b5.cells
 have hV10:z6+1<V10.heap.size:=b7.lt
 by_cases k3:kd=3
 · subst k3
   go_upto_region 14 with fail
   have hfz:=frozen_of_heap (show V10.heap[w.heap.size+1+1]?=_ from b5)
   replace hfz:∀ i,V10.drew.frozen? ⟨w.heap.size+1+1,i,none⟩=false:=hfz
   have hyV:=hy
   replace hy:=hy.drew
   replace b7:=b7.drew
   replace c5:∀ i,V10.drew.cell? ⟨w.heap.size+1+1,i,none⟩=_:=c5
   go_region_held2 (fun w'=>w'.cell? ⟨w.heap.size+1,4,none⟩=some (.string ⟨r0.toArray⟩)) (first | exact (hws _ hy).2.2.2.2 | exact (hws _ (hy.setCell hb5 _)).2.2.2.2)
    (first
      | (go_at_call 23
         refine (place_n r0 (z6+1) _ b7).mono ?_
         rintro e w' ⟨rfl,rfl⟩))
   have b5':Blk ((V10.setCell ⟨w.heap.size+1+1,4,none⟩ (.int .i64 (placeF r0 notesW 0))).drew) (w.heap.size+1+1) (.cells #[.int .i64 na,.int .i64 3,.int .i64 nt,.int .i64 nc,.int .i64 (placeF r0 notesW 0),.int .i64 0,.int .i64 0] 26):=heap_setCell (show V10.heap[w.heap.size+1+1]?=_ from b5) _
   replace hy:Ext w2 ((V10.setCell ⟨w.heap.size+1+1,4,none⟩ (.int .i64 (placeF r0 notesW 0))).drew):=(hyV.setCell (p:=⟨w.heap.size+1+1,4,none⟩) hb5 _).drew
   clear b5 c5 hfz hyV b6 b7
   have b5:=b5'
   clear b5'
   generalize World.drew (World.setCell V10 _ _)=V11 at *
   have hre:restE 3 [r0]=some (placeF r0 notesW 0,0,0):=by rfl
   generalize placeF r0 notesW 0=pv at *
   have hfi:=fun w=>fine45_p ⟨na,3,nt,nc,pv,0,0⟩ w
   unfold encE at hfi
   simp only at hfi
   have c5:=b5.cells
   clear m0 m1 m2 m3 m4 hws hws2
   cases hf:fineE ⟨na,3,nt,nc,pv,0,0⟩ with
   | false =>
     have e1h:=Lib.hid (evW_no ha htt hcc hkdh.out hre hf)
     rw [hf] at hfi
     clear hf
     go_wp2_with fail
     refine (hfi _).mono ?_
     rintro e w9 ⟨rfl,hx9⟩
     clear hfi c5
     replace hy:=hy.trans hx9
     replace b1:=b1.ext hy
     replace hX:=hX.trans hy
     have hc1:=b1.cells
     have hfz:=frozen_of_heap (show _ from b1)
     go_wp2_with fail
     have g7:=set7 b1 (.int .i64 0) (.int .i64 0) (.int .i64 0) (.int .i64 0) (.int .i64 0) (.int .i64 0) (.int .i64 0)
     have x7:=ext7 hX (Nat.le_refl _) (.int .i64 0) (.int .i64 0) (.int .i64 0) (.int .i64 0) (.int .i64 0) (.int .i64 0) (.int .i64 0)
     generalize World.setCell (World.setCell (World.setCell (World.setCell (World.setCell (World.setCell (World.setCell _ _ _) _ _) _ _) _ _) _ _) _ _) _ _=W7 at g7 x7 ⊢
     have c7:=g7.cells
     refine bodyPost_ret (v:=oneR (evW a k tt c [r0])) (by rw [e1h.out];simp [results,Tryd.results9,go_sem,oneR,encE,ev0,c7]) rfl ⟨rfl,x7⟩
   | true =>
     have e1h:=Lib.hid (evW_go ha htt hcc hkdh.out hre hf)
     rw [hf] at hfi
     clear hf
     go_wp2_with fail
     refine (hfi _).mono ?_
     rintro e w9 ⟨rfl,hx9⟩
     clear hfi c5
     replace b5:=b5.ext hx9
     replace hy:=hy.trans hx9
     replace b1:=b1.ext hy
     replace hX:=hX.trans hy
     have c5:=b5.cells
     have hc1:=b1.cells
     have hfz:=frozen_of_heap (show _ from b1)
     go_wp2_with fail
     have g7:=set7 b1 (.int .i64 na) (.int .i64 3) (.int .i64 nt) (.int .i64 nc) (.int .i64 pv) (.int .i64 0) (.int .i64 0)
     have x7:=ext7 hX (Nat.le_refl _) (.int .i64 na) (.int .i64 3) (.int .i64 nt) (.int .i64 nc) (.int .i64 pv) (.int .i64 0) (.int .i64 0)
     generalize World.setCell (World.setCell (World.setCell (World.setCell (World.setCell (World.setCell (World.setCell _ _ _) _ _) _ _) _ _) _ _) _ _) _ _=W7 at g7 x7 ⊢
     have c7:=g7.cells
     refine bodyPost_ret (v:=oneR (evW a k tt c [r0])) (by rw [e1h.out];simp [results,Tryd.results9,go_sem,oneR,encE,c7]) rfl ⟨rfl,x7⟩
 have k3b:(kd==3)=false:=by rw [beq_eq_false_iff_ne];exact k3
 by_cases k2:kd=2
 · subst k2
   clear k3
   have hre:restE 2 [r0]=none:=by rfl
   have bi:=(Blk.new V10 (.cells #[.int .i64 0] 3)).alloc (.cells #[.pointer (some ⟨V10.heap.size,0,none⟩),.pointer (some ⟨w.heap.size+1+1,6,none⟩)] 54)
   have x10:=((Ext.refl V10).alloc (.cells #[.int .i64 0] 3)).alloc (.cells #[.pointer (some ⟨V10.heap.size,0,none⟩),.pointer (some ⟨w.heap.size+1+1,6,none⟩)] 54)
   go_wp2_with fail
   replace b5:=b5.ext x10
   replace hy:=hy.trans x10
   clear c5 b6 b7 x10
   generalize hzi:V10.heap.size=zi at *
   generalize World.alloc (World.alloc V10 _) _=V11 at *
   refine (numbers_ne _ _ 1 _ 2 _ _ (by decide)).mono ?_
   rintro e w' ⟨rfl,rfl⟩
   have ci:=bi.cells
   have c5:=b5.cells
   have hfz:=frozen_of_heap (show V11.heap[w.heap.size+1+1]?=_ from b5)
   go_upto_region 19 with fail
   replace hy:=hy.setCell (p:=⟨w.heap.size+1+1,5,none⟩) hb5 (.int .i64 0)
   clear ci c5 hfz m0 m1 m2 m3 m4
   generalize World.setCell V11 _ _=V12 at *
   obtain⟨m0,m1,m2,m3,m4⟩:=hws _ hy
   have e1h:=Lib.hid (show evW a k tt c [r0]=none from (evW_r hkdh.out hre))
   replace b1:=b1.ext hy
   replace hX:=hX.trans hy
   have hc1:=b1.cells
   have hfz:=frozen_of_heap (show _ from b1)
   clear m0 m1 m2 m3 m4 hws hws2
   go_wp2_with fail
   have g7:=set7 b1 (.int .i64 0) (.int .i64 0) (.int .i64 0) (.int .i64 0) (.int .i64 0) (.int .i64 0) (.int .i64 0)
   have x7:=ext7 hX (Nat.le_refl _) (.int .i64 0) (.int .i64 0) (.int .i64 0) (.int .i64 0) (.int .i64 0) (.int .i64 0) (.int .i64 0)
   generalize World.setCell (World.setCell (World.setCell (World.setCell (World.setCell (World.setCell (World.setCell _ _ _) _ _) _ _) _ _) _ _) _ _) _ _=W7 at g7 x7 ⊢
   have c7:=g7.cells
   refine bodyPost_ret (v:=oneR (evW a k tt c [r0])) (by rw [e1h.out];simp [results,Tryd.results9,go_sem,oneR,encE,ev0,c7]) rfl ⟨rfl,x7⟩
 have k2b:(kd==2)=false:=by rw [beq_eq_false_iff_ne];exact k2
 have hre:restE kd [r0]=none:=by unfold restE;rw [if_neg k3,if_neg k2]
 clear k3 k2 b6 b7
 have e1h:=Lib.hid (show evW a k tt c [r0]=none from (evW_r hkdh.out hre))
 replace b1:=b1.ext hy
 replace hX:=hX.trans hy
 have hc1:=b1.cells
 have hfz:=frozen_of_heap (show _ from b1)
 clear m0 m1 m2 m3 m4 hws hws2
 go_wp2_with fail
 have g7:=set7 b1 (.int .i64 0) (.int .i64 0) (.int .i64 0) (.int .i64 0) (.int .i64 0) (.int .i64 0) (.int .i64 0)
 have x7:=ext7 hX (Nat.le_refl _) (.int .i64 0) (.int .i64 0) (.int .i64 0) (.int .i64 0) (.int .i64 0) (.int .i64 0) (.int .i64 0)
 generalize World.setCell (World.setCell (World.setCell (World.setCell (World.setCell (World.setCell (World.setCell _ _ _) _ _) _ _) _ _) _ _) _ _) _ _=W7 at g7 x7 ⊢
 have c7:=g7.cells
 refine bodyPost_ret (v:=oneR (evW a k tt c [r0])) (by rw [e1h.out];simp [results,Tryd.results9,go_sem,oneR,encE,ev0,c7]) rfl ⟨rfl,x7⟩
set_option maxRecDepth 100000 in
set_option maxHeartbeats 8000000 in
theorem one_3 (line a k tt c r0 r1:Bs)(cq:Nat)(w:World)(hcq:1<=cq/\cq<=2)
  (hsp:Calls Tryd.prog 22 #[.string ⟨line.toArray⟩,.string ⟨#[32]⟩,.int .i64 7] (w.alloc (.cells #[.int .i64 0,.int .i64 0,.int .i64 0,.int .i64 0,.int .i64 0,.int .i64 0,.int .i64 0] 26)) fun e w'=>e=.returned (.slice (some ⟨w.heap.size+1,0,none⟩) 6 (cq+5))/\WordsAt w' (w.heap.size+1) 0 [a,k,tt,c,r0,r1]/\Ext (w.alloc (.cells #[.int .i64 0,.int .i64 0,.int .i64 0,.int .i64 0,.int .i64 0,.int .i64 0,.int .i64 0] 26)) w'/\w'.heap.size=w.heap.size+1+1) :
  Calls Tryd.prog 9 #[.string ⟨line.toArray⟩] w fun e w'=>e=.returned (oneR (evW a k tt c [r0,r1]))/\Ext w w':=by
 have hX:=(Ext.refl w).alloc (.cells #[.int .i64 0,.int .i64 0,.int .i64 0,.int .i64 0,.int .i64 0,.int .i64 0,.int .i64 0] 26)
 have b1:=Blk.new w (.cells #[.int .i64 0,.int .i64 0,.int .i64 0,.int .i64 0,.int .i64 0,.int .i64 0,.int .i64 0] 26)
 go_enter Tryd.func9,Tryd.ntmps9
 go_wp2_with fail
 refine hsp.mono ?_
 rintro e w2 ⟨rfl,hW,hx,hsz⟩
 replace b1:=b1.ext hx
 replace hX:=hX.trans hx
 clear hx hsp
 obtain⟨hwl,hW⟩:=hW
 have hws:∀ W,Ext w2 W->W.cell? ⟨w.heap.size+1,0,none⟩=some (.string ⟨a.toArray⟩)/\W.cell? ⟨w.heap.size+1,1,none⟩=some (.string ⟨k.toArray⟩)/\W.cell? ⟨w.heap.size+1,2,none⟩=some (.string ⟨tt.toArray⟩)/\W.cell? ⟨w.heap.size+1,3,none⟩=some (.string ⟨c.toArray⟩)/\W.cell? ⟨w.heap.size+1,4,none⟩=some (.string ⟨r0.toArray⟩)/\W.cell? ⟨w.heap.size+1,5,none⟩=some (.string ⟨r1.toArray⟩):=by
  intro W hx
  have g:=fun j x hj=>(hx.cell (p:=⟨w.heap.size+1,0+j,none⟩) hwl).trans (hW j x hj)
  simp only [Nat.zero_add] at g
  exact⟨g 0 _ rfl,g 1 _ rfl,g 2 _ rfl,g 3 _ rfl,g 4 _ rfl,g 5 _ rfl⟩
 have hws2:=hws
 clear hW
 have b5:=Blk.new w2 (.cells #[.int .i64 0,.int .i64 0,.int .i64 0,.int .i64 0,.int .i64 0,.int .i64 0,.int .i64 0] 26)
 have hy:=(Ext.refl w2).alloc (.cells #[.int .i64 0,.int .i64 0,.int .i64 0,.int .i64 0,.int .i64 0,.int .i64 0,.int .i64 0] 26)
 rw [hsz] at b5
 go_wp2_with fail
 refine (kwords_p _).mono ?_
 rintro e w3 ⟨rfl,hx3⟩
 replace b5:=b5.ext hx3
 replace hy:=hy.trans hx3
 clear hx3
 go_wp2_with fail
 refine (nwords_p _).mono ?_
 rintro e w4 ⟨rfl,hx4⟩
 replace b5:=b5.ext hx4
 replace hy:=hy.trans hx4
 clear hx4
 have b6:=(Blk.new w4 (.cells #[.string ⟨#[99,97,108,108]⟩,.string ⟨#[114,101,116,117,114,110]⟩,.string ⟨#[110,111,116,101]⟩,.string ⟨#[104,97,108,116]⟩] 42)).alloc (.cells #[.string ⟨#[100,111,111,114]⟩,.string ⟨#[98,101,104,105,110,100]⟩,.string ⟨#[105,110]⟩,.string ⟨#[108,101,102,116]⟩,.string ⟨#[111,117,116]⟩] 44)
 have b7:=Blk.new (w4.alloc (.cells #[.string ⟨#[99,97,108,108]⟩,.string ⟨#[114,101,116,117,114,110]⟩,.string ⟨#[110,111,116,101]⟩,.string ⟨#[104,97,108,116]⟩] 42)) (.cells #[.string ⟨#[100,111,111,114]⟩,.string ⟨#[98,101,104,105,110,100]⟩,.string ⟨#[105,110]⟩,.string ⟨#[108,101,102,116]⟩,.string ⟨#[111,117,116]⟩] 44)
 have x4:=((Ext.refl w4).alloc (.cells #[.string ⟨#[99,97,108,108]⟩,.string ⟨#[114,101,116,117,114,110]⟩,.string ⟨#[110,111,116,101]⟩,.string ⟨#[104,97,108,116]⟩] 42)).alloc (.cells #[.string ⟨#[100,111,111,114]⟩,.string ⟨#[98,101,104,105,110,100]⟩,.string ⟨#[105,110]⟩,.string ⟨#[108,101,102,116]⟩,.string ⟨#[111,117,116]⟩] 44)
 simp only [World.size_alloc] at b7
 have hz5:w.heap.size+1+1<w4.heap.size:=b5.lt
 replace b5:=b5.ext x4
 replace hy:=hy.trans x4
 clear x4
 go_upto_region 6 with fail
 generalize hz6:w4.heap.size=z6 at *
 generalize World.alloc (World.alloc w4 _) _=V at *
 have hb5:w2.heap.size<=w.heap.size+1+1:=by rw [hsz];exact Nat.le_refl _
 clear hsz
 have hfz:=frozen_of_heap (show V.heap[w.heap.size+1+1]?=_ from b5)
 have hyV:=hy
 replace hy:=hy.drew
 replace b5:=b5.drew
 replace b6:=b6.drew
 replace b7:=b7.drew
 have c5:=b5.cells
 replace hfz:∀ i,V.drew.frozen? ⟨w.heap.size+1+1,i,none⟩=false:=hfz
 go_region_held2 (fun w'=>w'.cell? ⟨w.heap.size+1,1,none⟩=some (.string ⟨k.toArray⟩)) (first | exact (hws _ hy).2.1 | exact (hws _ (hy.setCell hb5 _)).2.1)
  (first
    | (go_at_call 23
       refine (place_k k z6 _ b6).mono ?_
       rintro e w' ⟨rfl,rfl⟩))
 have b5':Blk ((V.setCell ⟨w.heap.size+1+1,1,none⟩ (.int .i64 (placeF k kindsW 0))).drew) (w.heap.size+1+1) (.cells #[.int .i64 0,.int .i64 (placeF k kindsW 0),.int .i64 0,.int .i64 0,.int .i64 0,.int .i64 0,.int .i64 0] 26):=heap_setCell (show V.heap[w.heap.size+1+1]?=_ from b5) _
 have b6':Blk ((V.setCell ⟨w.heap.size+1+1,1,none⟩ (.int .i64 (placeF k kindsW 0))).drew) z6 (.cells #[.string ⟨#[99,97,108,108]⟩,.string ⟨#[114,101,116,117,114,110]⟩,.string ⟨#[110,111,116,101]⟩,.string ⟨#[104,97,108,116]⟩] 42):=Blk.setO (w:=V) b6 (by omega) _
 have b7':Blk ((V.setCell ⟨w.heap.size+1+1,1,none⟩ (.int .i64 (placeF k kindsW 0))).drew) (z6+1) (.cells #[.string ⟨#[100,111,111,114]⟩,.string ⟨#[98,101,104,105,110,100]⟩,.string ⟨#[105,110]⟩,.string ⟨#[108,101,102,116]⟩,.string ⟨#[111,117,116]⟩] 44):=Blk.setO (w:=V) b7 (by omega) _
 replace hy:Ext w2 ((V.setCell ⟨w.heap.size+1+1,1,none⟩ (.int .i64 (placeF k kindsW 0))).drew):=(hyV.setCell (p:=⟨w.heap.size+1+1,1,none⟩) hb5 _).drew
 clear b5 b6 b7 hyV c5 hfz
 generalize World.drew (World.setCell V _ _)=V6 at *
 generalize hkd:placeF k kindsW 0=kd at *
 have hkdh:=Lib.hid hkd
 clear hkd
 obtain⟨m0,m1,m2,m3,m4,m5⟩:=hws _ hy
 replace b5:=b5'.alloc (.cells #[.pointer (some ⟨w.heap.size+1+1,0,none⟩)] 54)
 have bp:=Blk.new V6 (.cells #[.pointer (some ⟨w.heap.size+1+1,0,none⟩)] 54)
 replace b6:=b6'.alloc (.cells #[.pointer (some ⟨w.heap.size+1+1,0,none⟩)] 54)
 replace b7:=b7'.alloc (.cells #[.pointer (some ⟨w.heap.size+1+1,0,none⟩)] 54)
 replace hy:=hy.alloc (.cells #[.pointer (some ⟨w.heap.size+1+1,0,none⟩)] 54)
 have hV6:z6+1<V6.heap.size:=b7'.lt
 clear b5' b6' b7' m0 m1 m2 m3 m4 m5
 go_wp2_with fail
 generalize hz8:V6.heap.size=z8 at *
 generalize World.alloc V6 _=V7 at *
 obtain⟨m0,m1,m2,m3,m4,m5⟩:=hws _ hy
 have hbw:w.heap.size+1<V7.heap.size:=Nat.lt_of_lt_of_le hwl hy.size
 have hN1:=numbers1 (w.heap.size+1) 0 (cq+5) z8 (w.heap.size+1+1) 0 a V7 (by omega) hbw m0 (bp.cells 0) (by omega) (by omega) ⟨_,_,by simp,b5⟩ (by omega)
 refine hN1.mono ?_
 rintro e w' ⟨rfl,rfl⟩
 clear hN1
 cases ha:numW a with
 | none =>
   rw [numsRun_none ha]
   simp only
   have e1h:=Lib.hid (show evW a k tt c [r0,r1]=none from (evW_a ha))
   replace b1:=b1.ext hy
   replace hX:=hX.trans hy
   have hc1:=b1.cells
   have hfz:=frozen_of_heap (show _ from b1)
   clear m0 m1 m2 m3 m4 m5 hws hws2
   go_wp2_with fail
   have g7:=set7 b1 (.int .i64 0) (.int .i64 0) (.int .i64 0) (.int .i64 0) (.int .i64 0) (.int .i64 0) (.int .i64 0)
   have x7:=ext7 hX (Nat.le_refl _) (.int .i64 0) (.int .i64 0) (.int .i64 0) (.int .i64 0) (.int .i64 0) (.int .i64 0) (.int .i64 0)
   generalize World.setCell (World.setCell (World.setCell (World.setCell (World.setCell (World.setCell (World.setCell _ _ _) _ _) _ _) _ _) _ _) _ _) _ _=W7 at g7 x7 ⊢
   have c7:=g7.cells
   refine bodyPost_ret (v:=oneR (evW a k tt c [r0,r1])) (by rw [e1h.out];simp [results,Tryd.results9,go_sem,oneR,encE,ev0,c7]) rfl ⟨rfl,x7⟩
 | some na =>
 rw [numsRun_some ha]
 simp only [numsRun]
 have b5':Blk (V7.setCell ⟨w.heap.size+1+1,0,none⟩ (.int .i64 na)) (w.heap.size+1+1) (.cells #[.int .i64 na,.int .i64 kd,.int .i64 0,.int .i64 0,.int .i64 0,.int .i64 0,.int .i64 0] 26):=heap_setCell b5 _
 have b6':=b6.setO (i:=0) (show z6≠w.heap.size+1+1 by omega) (.int .i64 na)
 have b7':=b7.setO (i:=0) (show z6+1≠w.heap.size+1+1 by omega) (.int .i64 na)
 replace hy:=hy.setCell (p:=⟨w.heap.size+1+1,0,none⟩) hb5 (.int .i64 na)
 clear b5 b6 b7 bp m0 m1 m2 m3 m4 m5 hbw
 generalize World.setCell V7 _ _=V8 at *
 replace b5:=b5'.alloc (.cells #[.pointer (some ⟨w.heap.size+1+1,2,none⟩),.pointer (some ⟨w.heap.size+1+1,3,none⟩)] 54)
 have bp:=Blk.new V8 (.cells #[.pointer (some ⟨w.heap.size+1+1,2,none⟩),.pointer (some ⟨w.heap.size+1+1,3,none⟩)] 54)
 replace b6:=b6'.alloc (.cells #[.pointer (some ⟨w.heap.size+1+1,2,none⟩),.pointer (some ⟨w.heap.size+1+1,3,none⟩)] 54)
 replace b7:=b7'.alloc (.cells #[.pointer (some ⟨w.heap.size+1+1,2,none⟩),.pointer (some ⟨w.heap.size+1+1,3,none⟩)] 54)
 replace hy:=hy.alloc (.cells #[.pointer (some ⟨w.heap.size+1+1,2,none⟩),.pointer (some ⟨w.heap.size+1+1,3,none⟩)] 54)
 have hV8:z6+1<V8.heap.size:=b7'.lt
 clear b5' b6' b7'
 go_wp2_with fail
 generalize hz9:V8.heap.size=z9 at *
 generalize World.alloc V8 _=V9 at *
 obtain⟨m0,m1,m2,m3,m4,m5⟩:=hws _ hy
 have hbw:w.heap.size+1<V9.heap.size:=Nat.lt_of_lt_of_le hwl hy.size
 have hN2:=numbers2 (w.heap.size+1) 2 (cq+3) z9 (w.heap.size+1+1,2) (w.heap.size+1+1,3) tt c V9 (by omega) hbw m2 m3 (bp.cells 0) (bp.cells 1) ⟨by simp only;omega,by simp only;omega⟩ ⟨by simp only;omega,by simp only;omega⟩ ⟨_,_,by simp,b5⟩ ⟨_,_,by simp,b5⟩ (by omega)
 refine hN2.mono ?_
 rintro e w' ⟨rfl,rfl⟩
 clear hN2
 cases htt:numW tt with
 | none =>
   rw [numsRun_none htt]
   simp only
   have e1h:=Lib.hid (show evW a k tt c [r0,r1]=none from (evW_t ha htt))
   replace b1:=b1.ext hy
   replace hX:=hX.trans hy
   have hc1:=b1.cells
   have hfz:=frozen_of_heap (show _ from b1)
   clear m0 m1 m2 m3 m4 m5 hws hws2
   go_wp2_with fail
   have g7:=set7 b1 (.int .i64 0) (.int .i64 0) (.int .i64 0) (.int .i64 0) (.int .i64 0) (.int .i64 0) (.int .i64 0)
   have x7:=ext7 hX (Nat.le_refl _) (.int .i64 0) (.int .i64 0) (.int .i64 0) (.int .i64 0) (.int .i64 0) (.int .i64 0) (.int .i64 0)
   generalize World.setCell (World.setCell (World.setCell (World.setCell (World.setCell (World.setCell (World.setCell _ _ _) _ _) _ _) _ _) _ _) _ _) _ _=W7 at g7 x7 ⊢
   have c7:=g7.cells
   refine bodyPost_ret (v:=oneR (evW a k tt c [r0,r1])) (by rw [e1h.out];simp [results,Tryd.results9,go_sem,oneR,encE,ev0,c7]) rfl ⟨rfl,x7⟩
 | some nt =>
 rw [numsRun_some htt]
 simp only
 have b5':Blk (V9.setCell ⟨w.heap.size+1+1,2,none⟩ (.int .i64 nt)) (w.heap.size+1+1) (.cells #[.int .i64 na,.int .i64 kd,.int .i64 nt,.int .i64 0,.int .i64 0,.int .i64 0,.int .i64 0] 26):=heap_setCell b5 _
 have b6':=b6.setO (i:=2) (show z6≠w.heap.size+1+1 by omega) (.int .i64 nt)
 have b7':=b7.setO (i:=2) (show z6+1≠w.heap.size+1+1 by omega) (.int .i64 nt)
 replace hy:=hy.setCell (p:=⟨w.heap.size+1+1,2,none⟩) hb5 (.int .i64 nt)
 clear b5 b6 b7 bp m0 m1 m2 m3 m4 m5 hbw
 cases hcc:numW c with
 | none =>
   rw [numsRun_none hcc]
   simp only
   generalize World.setCell V9 _ _=V10 at *
   obtain⟨m0,m1,m2,m3,m4,m5⟩:=hws _ hy
   have e1h:=Lib.hid (show evW a k tt c [r0,r1]=none from (evW_c ha htt hcc))
   replace b1:=b1.ext hy
   replace hX:=hX.trans hy
   have hc1:=b1.cells
   have hfz:=frozen_of_heap (show _ from b1)
   clear m0 m1 m2 m3 m4 m5 hws hws2
   go_wp2_with fail
   have g7:=set7 b1 (.int .i64 0) (.int .i64 0) (.int .i64 0) (.int .i64 0) (.int .i64 0) (.int .i64 0) (.int .i64 0)
   have x7:=ext7 hX (Nat.le_refl _) (.int .i64 0) (.int .i64 0) (.int .i64 0) (.int .i64 0) (.int .i64 0) (.int .i64 0) (.int .i64 0)
   generalize World.setCell (World.setCell (World.setCell (World.setCell (World.setCell (World.setCell (World.setCell _ _ _) _ _) _ _) _ _) _ _) _ _) _ _=W7 at g7 x7 ⊢
   have c7:=g7.cells
   refine bodyPost_ret (v:=oneR (evW a k tt c [r0,r1])) (by rw [e1h.out];simp [results,Tryd.results9,go_sem,oneR,encE,ev0,c7]) rfl ⟨rfl,x7⟩
 | some nc =>
 rw [numsRun_some hcc]
 simp only [numsRun]
 have b5:Blk ((V9.setCell ⟨w.heap.size+1+1,2,none⟩ (.int .i64 nt)).setCell ⟨w.heap.size+1+1,3,none⟩ (.int .i64 nc)) (w.heap.size+1+1) (.cells #[.int .i64 na,.int .i64 kd,.int .i64 nt,.int .i64 nc,.int .i64 0,.int .i64 0,.int .i64 0] 26):=heap_setCell b5' _
 have b6:=b6'.setO (i:=3) (show z6≠w.heap.size+1+1 by omega) (.int .i64 nc)
 have b7:=b7'.setO (i:=3) (show z6+1≠w.heap.size+1+1 by omega) (.int .i64 nc)
 replace hy:=hy.setCell (p:=⟨w.heap.size+1+1,3,none⟩) hb5 (.int .i64 nc)
 clear b5' b6' b7'
 generalize World.setCell (World.setCell V9 _ _) _ _=V10 at *
 obtain⟨m0,m1,m2,m3,m4,m5⟩:=hws _ hy
 have c5:=b5.cells
 have hV10:z6+1<V10.heap.size:=b7.lt
 by_cases k3:kd=3
 · subst k3
   have hre:restE 3 [r0,r1]=none:=by rfl
   have e1h:=Lib.hid (show evW a k tt c [r0,r1]=none from (evW_r hkdh.out hre))
   replace b1:=b1.ext hy
   replace hX:=hX.trans hy
   have hc1:=b1.cells
   have hfz:=frozen_of_heap (show _ from b1)
   clear m0 m1 m2 m3 m4 m5 hws hws2
   go_wp2_with fail
   have g7:=set7 b1 (.int .i64 0) (.int .i64 0) (.int .i64 0) (.int .i64 0) (.int .i64 0) (.int .i64 0) (.int .i64 0)
   have x7:=ext7 hX (Nat.le_refl _) (.int .i64 0) (.int .i64 0) (.int .i64 0) (.int .i64 0) (.int .i64 0) (.int .i64 0) (.int .i64 0)
   generalize World.setCell (World.setCell (World.setCell (World.setCell (World.setCell (World.setCell (World.setCell _ _ _) _ _) _ _) _ _) _ _) _ _) _ _=W7 at g7 x7 ⊢
   have c7:=g7.cells
   refine bodyPost_ret (v:=oneR (evW a k tt c [r0,r1])) (by rw [e1h.out];simp [results,Tryd.results9,go_sem,oneR,encE,ev0,c7]) rfl ⟨rfl,x7⟩
 have k3b:(kd==3)=false:=by rw [beq_eq_false_iff_ne];exact k3
 by_cases k2:kd=2
 · subst k2
   clear k3
   have bi:=(Blk.new V10 (.cells #[.int .i64 0] 3)).alloc (.cells #[.pointer (some ⟨V10.heap.size,0,none⟩),.pointer (some ⟨w.heap.size+1+1,6,none⟩)] 54)
   have bq:=Blk.new (V10.alloc (.cells #[.int .i64 0] 3)) (.cells #[.pointer (some ⟨V10.heap.size,0,none⟩),.pointer (some ⟨w.heap.size+1+1,6,none⟩)] 54)
   simp only [World.size_alloc] at bq
   have x10:=((Ext.refl V10).alloc (.cells #[.int .i64 0] 3)).alloc (.cells #[.pointer (some ⟨V10.heap.size,0,none⟩),.pointer (some ⟨w.heap.size+1+1,6,none⟩)] 54)
   go_wp2_with fail
   replace b5:=b5.ext x10
   replace hy:=hy.trans x10
   clear c5 b6 b7 x10
   generalize hzi:V10.heap.size=zi at *
   generalize World.alloc (World.alloc V10 _) _=V11 at *
   clear m0 m1 m2 m3 m4 m5
   obtain⟨m0,m1,m2,m3,m4,m5⟩:=hws _ hy
   have hbw:w.heap.size+1<V11.heap.size:=Nat.lt_of_lt_of_le hwl hy.size
   have hzi5:w.heap.size+1+1<zi:=by omega
   have hN3:=numbers2 (w.heap.size+1) 4 (cq+1) (zi+1) (zi,0) (w.heap.size+1+1,6) r0 r1 V11 (by omega) hbw m4 m5 (bq.cells 0) (bq.cells 1) ⟨by simp only;omega,by simp only;omega⟩ ⟨by simp only;omega,by simp only;omega⟩ ⟨_,_,by simp,bi⟩ ⟨_,_,by simp,b5⟩ (by omega)
   refine hN3.mono ?_
   rintro e w' ⟨rfl,rfl⟩
   clear hN3
   cases hr0:numW r0 with
   | none =>
     have hre:restE 2 [r0,r1]=none:=by show (numW r0).bind _=none;rw [hr0];rfl
     rw [numsRun_none hr0]
     simp only
     have ci:=bi.cells
     have c5:=b5.cells
     have hfz:=frozen_of_heap (show V11.heap[w.heap.size+1+1]?=_ from b5)
     go_upto_region 19 with fail
     replace hy:=hy.setCell (p:=⟨w.heap.size+1+1,5,none⟩) hb5 (.int .i64 0)
     clear ci c5 hfz m0 m1 m2 m3 m4 m5
     generalize World.setCell V11 _ _=V12 at *
     obtain⟨m0,m1,m2,m3,m4,m5⟩:=hws _ hy
     have e1h:=Lib.hid (show evW a k tt c [r0,r1]=none from (evW_r hkdh.out hre))
     replace b1:=b1.ext hy
     replace hX:=hX.trans hy
     have hc1:=b1.cells
     have hfz:=frozen_of_heap (show _ from b1)
     clear m0 m1 m2 m3 m4 m5 hws hws2
     go_wp2_with fail
     have g7:=set7 b1 (.int .i64 0) (.int .i64 0) (.int .i64 0) (.int .i64 0) (.int .i64 0) (.int .i64 0) (.int .i64 0)
     have x7:=ext7 hX (Nat.le_refl _) (.int .i64 0) (.int .i64 0) (.int .i64 0) (.int .i64 0) (.int .i64 0) (.int .i64 0) (.int .i64 0)
     generalize World.setCell (World.setCell (World.setCell (World.setCell (World.setCell (World.setCell (World.setCell _ _ _) _ _) _ _) _ _) _ _) _ _) _ _=W7 at g7 x7 ⊢
     have c7:=g7.cells
     refine bodyPost_ret (v:=oneR (evW a k tt c [r0,r1])) (by rw [e1h.out];simp [results,Tryd.results9,go_sem,oneR,encE,ev0,c7]) rfl ⟨rfl,x7⟩
   | some ne =>
   rw [numsRun_some hr0]
   simp only
   have b5':=b5.setO (i:=0) (show w.heap.size+1+1≠zi by omega) (.int .i64 ne)
   have bi':Blk (V11.setCell ⟨zi,0,none⟩ (.int .i64 ne)) zi (.cells #[.int .i64 ne] 3):=heap_setCell bi _
   have hzi2:w2.heap.size<=zi:=by omega
   replace hy:=hy.setCell (p:=⟨zi,0,none⟩) hzi2 (.int .i64 ne)
   clear b5 bi bq m0 m1 m2 m3 m4 m5
   cases hr1:numW r1 with
   | none =>
     have hre:restE 2 [r0,r1]=none:=by show (numW r0).bind (fun x=>(numW r1).map fun y=>(0,x,y))=none;rw [hr0,hr1];rfl
     rw [numsRun_none hr1]
     simp only
     generalize World.setCell V11 _ _=V12 at *
     have ci:=bi'.cells
     have c5:=b5'.cells
     have hfz:=frozen_of_heap (show V12.heap[w.heap.size+1+1]?=_ from b5')
     go_upto_region 19 with fail
     replace hy:=hy.setCell (p:=⟨w.heap.size+1+1,5,none⟩) hb5 (.int .i64 ne)
     clear ci c5 hfz
     generalize World.setCell V12 _ _=V13 at *
     obtain⟨m0,m1,m2,m3,m4,m5⟩:=hws _ hy
     have e1h:=Lib.hid (show evW a k tt c [r0,r1]=none from (evW_r hkdh.out hre))
     replace b1:=b1.ext hy
     replace hX:=hX.trans hy
     have hc1:=b1.cells
     have hfz:=frozen_of_heap (show _ from b1)
     clear m0 m1 m2 m3 m4 m5 hws hws2
     go_wp2_with fail
     have g7:=set7 b1 (.int .i64 0) (.int .i64 0) (.int .i64 0) (.int .i64 0) (.int .i64 0) (.int .i64 0) (.int .i64 0)
     have x7:=ext7 hX (Nat.le_refl _) (.int .i64 0) (.int .i64 0) (.int .i64 0) (.int .i64 0) (.int .i64 0) (.int .i64 0) (.int .i64 0)
     generalize World.setCell (World.setCell (World.setCell (World.setCell (World.setCell (World.setCell (World.setCell _ _ _) _ _) _ _) _ _) _ _) _ _) _ _=W7 at g7 x7 ⊢
     have c7:=g7.cells
     refine bodyPost_ret (v:=oneR (evW a k tt c [r0,r1])) (by rw [e1h.out];simp [results,Tryd.results9,go_sem,oneR,encE,ev0,c7]) rfl ⟨rfl,x7⟩
   | some nv =>
   have hre:restE 2 [r0,r1]=some (0,ne,nv):=by show (numW r0).bind (fun x=>(numW r1).map fun y=>(0,x,y))=_;rw [hr0,hr1];rfl
   rw [numsRun_some hr1]
   simp only [numsRun]
   have b5:Blk ((V11.setCell ⟨zi,0,none⟩ (.int .i64 ne)).setCell ⟨w.heap.size+1+1,6,none⟩ (.int .i64 nv)) (w.heap.size+1+1) (.cells #[.int .i64 na,.int .i64 2,.int .i64 nt,.int .i64 nc,.int .i64 0,.int .i64 0,.int .i64 nv] 26):=heap_setCell b5' _
   have bi:=bi'.setO (i:=6) (show zi≠w.heap.size+1+1 by omega) (.int .i64 nv)
   replace hy:=hy.setCell (p:=⟨w.heap.size+1+1,6,none⟩) hb5 (.int .i64 nv)
   clear b5' bi'
   generalize World.setCell (World.setCell V11 _ _) _ _=V12 at *
   have ci:=bi.cells
   have c5:=b5.cells
   have hfz:=frozen_of_heap (show V12.heap[w.heap.size+1+1]?=_ from b5)
   go_upto_region 19 with fail
   have b5':Blk (V12.setCell ⟨w.heap.size+1+1,5,none⟩ (.int .i64 ne)) (w.heap.size+1+1) (.cells #[.int .i64 na,.int .i64 2,.int .i64 nt,.int .i64 nc,.int .i64 0,.int .i64 ne,.int .i64 nv] 26):=heap_setCell b5 _
   replace hy:=hy.setCell (p:=⟨w.heap.size+1+1,5,none⟩) hb5 (.int .i64 ne)
   clear ci c5 hfz b5 bi
   have b5:=b5'
   clear b5'
   generalize World.setCell V12 _ _=V13 at *
   obtain⟨m0,m1,m2,m3,m4,m5⟩:=hws _ hy
   have hfi:=fun w=>fine45_p ⟨na,2,nt,nc,0,ne,nv⟩ w
   unfold encE at hfi
   simp only at hfi
   have c5:=b5.cells
   clear m0 m1 m2 m3 m4 m5 hws hws2
   cases hf:fineE ⟨na,2,nt,nc,0,ne,nv⟩ with
   | false =>
     have e1h:=Lib.hid (evW_no ha htt hcc hkdh.out hre hf)
     rw [hf] at hfi
     clear hf
     go_wp2_with fail
     refine (hfi _).mono ?_
     rintro e w9 ⟨rfl,hx9⟩
     clear hfi c5
     replace hy:=hy.trans hx9
     replace b1:=b1.ext hy
     replace hX:=hX.trans hy
     have hc1:=b1.cells
     have hfz:=frozen_of_heap (show _ from b1)
     go_wp2_with fail
     have g7:=set7 b1 (.int .i64 0) (.int .i64 0) (.int .i64 0) (.int .i64 0) (.int .i64 0) (.int .i64 0) (.int .i64 0)
     have x7:=ext7 hX (Nat.le_refl _) (.int .i64 0) (.int .i64 0) (.int .i64 0) (.int .i64 0) (.int .i64 0) (.int .i64 0) (.int .i64 0)
     generalize World.setCell (World.setCell (World.setCell (World.setCell (World.setCell (World.setCell (World.setCell _ _ _) _ _) _ _) _ _) _ _) _ _) _ _=W7 at g7 x7 ⊢
     have c7:=g7.cells
     refine bodyPost_ret (v:=oneR (evW a k tt c [r0,r1])) (by rw [e1h.out];simp [results,Tryd.results9,go_sem,oneR,encE,ev0,c7]) rfl ⟨rfl,x7⟩
   | true =>
     have e1h:=Lib.hid (evW_go ha htt hcc hkdh.out hre hf)
     rw [hf] at hfi
     clear hf
     go_wp2_with fail
     refine (hfi _).mono ?_
     rintro e w9 ⟨rfl,hx9⟩
     clear hfi c5
     replace b5:=b5.ext hx9
     replace hy:=hy.trans hx9
     replace b1:=b1.ext hy
     replace hX:=hX.trans hy
     have c5:=b5.cells
     have hc1:=b1.cells
     have hfz:=frozen_of_heap (show _ from b1)
     go_wp2_with fail
     have g7:=set7 b1 (.int .i64 na) (.int .i64 2) (.int .i64 nt) (.int .i64 nc) (.int .i64 0) (.int .i64 ne) (.int .i64 nv)
     have x7:=ext7 hX (Nat.le_refl _) (.int .i64 na) (.int .i64 2) (.int .i64 nt) (.int .i64 nc) (.int .i64 0) (.int .i64 ne) (.int .i64 nv)
     generalize World.setCell (World.setCell (World.setCell (World.setCell (World.setCell (World.setCell (World.setCell _ _ _) _ _) _ _) _ _) _ _) _ _) _ _=W7 at g7 x7 ⊢
     have c7:=g7.cells
     refine bodyPost_ret (v:=oneR (evW a k tt c [r0,r1])) (by rw [e1h.out];simp [results,Tryd.results9,go_sem,oneR,encE,c7]) rfl ⟨rfl,x7⟩
 have k2b:(kd==2)=false:=by rw [beq_eq_false_iff_ne];exact k2
 have hre:restE kd [r0,r1]=none:=by unfold restE;rw [if_neg k3,if_neg k2]
 clear k3 k2 b6 b7
 have e1h:=Lib.hid (show evW a k tt c [r0,r1]=none from (evW_r hkdh.out hre))
 replace b1:=b1.ext hy
 replace hX:=hX.trans hy
 have hc1:=b1.cells
 have hfz:=frozen_of_heap (show _ from b1)
 clear m0 m1 m2 m3 m4 m5 hws hws2
 go_wp2_with fail
 have g7:=set7 b1 (.int .i64 0) (.int .i64 0) (.int .i64 0) (.int .i64 0) (.int .i64 0) (.int .i64 0) (.int .i64 0)
 have x7:=ext7 hX (Nat.le_refl _) (.int .i64 0) (.int .i64 0) (.int .i64 0) (.int .i64 0) (.int .i64 0) (.int .i64 0) (.int .i64 0)
 generalize World.setCell (World.setCell (World.setCell (World.setCell (World.setCell (World.setCell (World.setCell _ _ _) _ _) _ _) _ _) _ _) _ _) _ _=W7 at g7 x7 ⊢
 have c7:=g7.cells
 refine bodyPost_ret (v:=oneR (evW a k tt c [r0,r1])) (by rw [e1h.out];simp [results,Tryd.results9,go_sem,oneR,encE,ev0,c7]) rfl ⟨rfl,x7⟩
theorem split_tq (line:Bs)(w:World)(hs:line.length<4294967281)(M:MaxI w):Calls Tryd.prog 22 #[.string ⟨line.toArray⟩,.string ⟨#[32]⟩,.int .i64 7] w fun e w'=>e=.returned (.slice (some ⟨w.heap.size,0,none⟩) (Go.Lib.splitN line [32] 7).length (min 7 (line.length+1)))/\WordsAt w' w.heap.size 0 (Go.Lib.splitN line [32] 7)/\Ext w w'/\w'.heap.size=w.heap.size+1:=by
 obtain⟨_,m,hm⟩:=M
 have hsz:(⟨line.toArray⟩:ByteArray).size=line.length:=rfl
 have hd:(Go.Lib.splitB ⟨#[32]⟩ 0 (min 7 (line.length+1)-1) ⟨line.toArray⟩).map (·.data.toList)=Go.Lib.splitN line [32] 7:=Go.Lib.splitB_data ⟨#[32]⟩ 0 _ ⟨line.toArray⟩
 have hl:(Go.Lib.splitB ⟨#[32]⟩ 0 (min 7 (line.length+1)-1) ⟨line.toArray⟩).length<=min 7 (line.length+1):=by
  have:=Go.Lib.splitB_length_le ⟨#[32]⟩ 0 (min 7 (line.length+1)-1) ⟨line.toArray⟩
  omega
 refine (Tryd.strings_SplitN ⟨line.toArray⟩ ⟨#[32]⟩ 7 m w (by rw [hsz];exact hs) hm (by decide) (by decide) (by decide)).mono ?_
 rintro e w' ⟨rfl,rfl⟩
 rw [hsz]
 generalize Go.Lib.splitB ⟨#[32]⟩ 0 (min 7 (line.length+1)-1) ⟨line.toArray⟩=B at *
 have hlB:B.length=(Go.Lib.splitN line [32] 7).length:=by rw [<- hd,List.length_map]
 refine⟨by rw [hlB],⟨by simp,fun j x hj=>?_⟩,(Ext.refl _).alloc _,by simp⟩
 rw [Nat.zero_add]
 refine (cell_of_heap (heap_alloc_new w _) j).trans ?_
 rw [<- hd,List.getElem?_map] at hj
 obtain⟨y,hy,rfl⟩:=Option.map_eq_some_iff.1 hj
 unfold Go.Lib.cellsOf
 have hjl:j<B.length:=(List.getElem?_eq_some_iff.1 hy).1
 rw [List.getElem?_toArray,List.getElem?_append_left (by simpa using hjl),List.getElem?_map,hy]
 rfl
theorem splitN_len (line:Bs):(Go.Lib.splitN line [32] 7).length<=min 7 (line.length+1):=by
 have hl:=Go.Lib.splitB_length_le ⟨#[32]⟩ 0 (min 7 (line.length+1)-1) ⟨line.toArray⟩
 have hd:(Go.Lib.splitB ⟨#[32]⟩ 0 (min 7 (line.length+1)-1) ⟨line.toArray⟩).map (·.data.toList)=Go.Lib.splitN line [32] 7:=Go.Lib.splitB_data ⟨#[32]⟩ 0 _ ⟨line.toArray⟩
 rw [<- hd,List.length_map]
 omega
theorem one_p (line:Bs)(w:World)(hs:line.length<4294967281)(M:MaxI w):Calls Tryd.prog 9 #[.string ⟨line.toArray⟩] w fun e w'=>e=.returned (oneR (oneE line))/\Ext w w':=by
 have hX:=(Ext.refl w).alloc (.cells #[.int .i64 0,.int .i64 0,.int .i64 0,.int .i64 0,.int .i64 0,.int .i64 0,.int .i64 0] 26)
 have hsp:=split_tq line _ hs (M.ext hX)
 have hll:=splitN_len line
 unfold oneE
 rw [show (w.alloc (.cells #[.int .i64 0,.int .i64 0,.int .i64 0,.int .i64 0,.int .i64 0,.int .i64 0,.int .i64 0] 26)).heap.size=w.heap.size+1 from by simp] at hsp
 generalize Go.Lib.splitN line [32] 7=L at *
 have h7:min 7 (line.length+1)<=7:=by omega
 generalize min 7 (line.length+1)=cp at *
 by_cases hbad:L.length<4∨6<L.length
 · exact one_bad line L w (hsp.mono fun e w' ⟨h1,h2,h3,h4⟩=>⟨cp,h1,hll,h7,h2,h3,h4⟩) hbad
 · match L,hsp,hll,hbad with
   | [],_,_,h=>exact absurd (.inl (by simp)) h
   | [_],_,_,h=>exact absurd (.inl (by simp)) h
   | [_,_],_,_,h=>exact absurd (.inl (by simp)) h
   | [_,_,_],_,_,h=>exact absurd (.inl (by simp)) h
   | a :: k :: tt :: c :: rest,hsp,hll,hbad =>
   have hl:(a :: k :: tt :: c :: rest).length=rest.length+4:=rfl
   have hr2:rest.length<=2:=by omega
   have e1:oneWs (a :: k :: tt :: c :: rest)=evW a k tt c rest:=if_pos hr2
   rw [e1]
   match rest,hsp,hll,hr2 with
   | [],hsp,hll,_ =>
     by_cases h4:cp=4
     · subst h4
       exact one_0 line a k tt c w trivial hsp
     · obtain⟨cq,rfl⟩:∃ cq,cp=cq+5:=⟨cp-5,by simp at hll;omega⟩
       exact one_1 line a k tt c cq w (by omega) hsp
   | [r0],hsp,hll,_ =>
     obtain⟨cq,rfl⟩:∃ cq,cp=cq+5:=⟨cp-5,by simp at hll;omega⟩
     exact one_2 line a k tt c r0 cq w (by omega) hsp
   | [r0,r1],hsp,hll,_ =>
     obtain⟨cq,rfl⟩:∃ cq,cp=cq+5:=⟨cp-5,by simp at hll;omega⟩
     exact one_3 line a k tt c r0 r1 cq w ⟨by simp at hll;omega,by omega⟩ hsp
   | _ :: _ :: _ :: _,_,_,h=>exact absurd h (by simp)
def noDefers (ops:Array Oper):Bool:=ops.all fun o=>match o.op with | .defer _=>false | _=>true
section
variable {P:Program} {ops:Array Oper} {Q:Exit->Act->World->Prop} {md:Region.Mode} {l n:Nat}
theorem noDefers_spec (h:noDefers ops=true){i:Nat}{o:Oper}(hi:ops[i]?=some o):∀ c,o.op≠.defer c:=by
 intro c hc
 unfold noDefers at h
 rw [Array.all_eq_true] at h
 obtain⟨hlt,he⟩:=Array.getElem?_eq_some_iff.1 hi
 have:=h i hlt
 rw [he,hc] at this
 cases this
theorem wpOpIn_of_wpOp (hd:noDefers ops=true)(hQ:∀ a w,¬ Q .outgrown a w){i:Nat}{K K':Act->World->Prop}(hK:∀ a w,K a w->K' a w){a:Act}{w:World}(h:wpOp P ops Q i K a w) :
  wpOpIn (Fence.wide.inRound l) n P ops Q i K' a w:=by
 have hL:¬ LetsOut Q:=fun ⟨a0,w0,hq⟩=>hQ a0 w0 hq
 unfold wpOp at h
 unfold wpOpIn
 cases ho:ops[i]? with
 | none=>rw [ho] at h;exact hK _ _ h
 | some o =>
   rw [ho] at h
   simp only at h ⊢
   split
   · rename_i hw
     rw [if_pos hw] at h
     rcases h with h | ⟨_,h⟩
     · refine⟨fun _ _=>trivial,?_⟩
       rw [Oper.semAt_eq _ _ _ (noDefers_spec hd ho)]
       unfold Oper.wp at h
       generalize (execOp a.eval o).run P w=r at h
       cases r with
       | ok v w' =>
         cases v <;> simp only [Oper.upon,Oper.uponIn] at h ⊢
         case value v=>exact hK _ _ h
         case skip=>exact hK _ _ h
         case defer d=>exact hK _ _ h
         case enter f args =>
          refine⟨fun hx=>(by cases hx),(callsIn_wide.2 (Calls.mono h fun e w2 he=>?_):CallsIn Fence.wide (n-1) P f args w' _)⟩
          cases e with
          | returned v=>exact hK _ _ he
          | panicked c=>exact he
          | outgrown=>exact he
         case row row args =>
          refine⟨fun hx=>(by cases hx),fun c cs _=>?_⟩
          obtain⟨v,w2,hr,hs⟩:=h c cs
          exact⟨v,w2,hK _ _ hr,stepsIn_wide.2 hs⟩
       | halt x w'=>cases x <;> simp only [Oper.upon,Oper.uponIn] at h ⊢;exact h
     · exact absurd h hL
   · rename_i hw
     rw [if_neg hw] at h
     exact⟨fun _ _=>trivial,hK _ _ h⟩
theorem wpAnyIn_of_wpAny (hd:noDefers ops=true)(hQ:∀ a w,¬ Q .outgrown a w):∀ (fuel:Nat) (listed:Array Bool) (a:Act) (w:World),wpAny P md ops Q fuel listed a w->wpAnyIn (Fence.wide.inRound l) n P md ops Q fuel listed a w
 | 0,_,_,_,h=>h
 | fuel+1,_,_,_,h=>⟨h.1,fun i hi=>wpOpIn_of_wpOp hd hQ (fun a' w' h'=>wpAnyIn_of_wpAny hd hQ fuel _ a' w' h') (h.2 i hi)⟩
theorem wpIn_region_held {id:Nat}{a:Act}{w:World}{S:World->Prop}(hm:P.follows .mixedOrders=true)(hd:noDefers ops=true)(hQ:∀ a w,¬ Q .outgrown a w)(hS:S w.drew)
  (h:S w.drew->wpAnyH P .any ops Q S ops.size (Array.replicate ops.size false) a w.drew):(Code.region id ops true).wpIn (Fence.wide.inRound l) n P Q a w :=
 wpIn_region_any hm (wpAnyIn_of_wpAny hd hQ _ _ _ _ (wpAny_of_held _ _ _ _ (h hS)))
end
end Go.Proofs.YtchahoiainbcaaaDoor
