/-
  YangPlaysSaid: part 1 of its proof.
-/
import Derived.Test.YtbphlkaihfbgeaaGreatJYangPlaysSaid0
import Derived.RangeFuncBox
import Derived.RangeFuncFrom
import Derived.RangeFuncNested
import Derived.RowKit
import Derived.OwnWalkIn
import Derived.TacticsInMore
import Derived.LoopNIn
import Derived.LoopIn
import Derived.RangeFuncCalls
import Derived.OrdersIn
import Derived.Deep.RegionHeld2
namespace Go.Proofs.YtbphlkaihfbgeaaGreat
open Go.RowKit Kv
set_option maxRecDepth 100000 in
theorem new_r (a:Addr)(c:Nat)(L:List Int)(Aa:Option Addr)(n ca:Nat)(w:World)(h:Ints w (.slice (some a) L.length c) L)(hl:L.length<=32768) :
  Calls Tryz.prog 16 #[.slice (some a) L.length c,.slice Aa n ca] w fun e w'=>∃ p vL,e=.returned (.pointer (some ⟨p,0,none⟩))/\w.heap.size<=p/\w'.heap[p]?=some (.cells #[.slice Aa n ca,.int .i64 0,.bool false,.slice none 0 0,.slice none 0 0,vL] 71 (0,0))/\IntRow w' w.heap.size vL L/\Ext w w':=by
 have hh:=Lib.hid h
 go_enter Tryz.func16,Tryz.ntmps16
 go_wp2_with (at_builtin;refine append_all rfl _ _ rfl a c L hh.out rfl rfl (by omega) ?_)
 intro v' w' h1 h2
 obtain⟨A',c',rfl,hc1,hc2⟩:=h1.ints.slice
 have h1h:=Lib.hid h1
 clear h1 h
 go_wp2_with fail
 go_ret
 exact⟨w'.heap.size,_,rfl,h2.size,heap_alloc_new _ _,row_ext h1h.out ((Ext.refl _).alloc _),h2.alloc _⟩
def locOf (L:List Int) (i:Nat):Int:=L.getD i 0
def TS0 (L ans:List Int):TS:=⟨ans,[],[],locOf L⟩
theorem new_at (a:Addr)(c:Nat)(L:List Int)(Aa:Option Addr)(ca:Nat)(ans:List Int)(w:World)(h:Ints w (.slice (some a) L.length c) L)(ha:Ints w (.slice Aa ans.length ca) ans)(hl:L.length<=32768)(hn:ans.length<=maxAns)
  (hb:∀ b,(Value.slice Aa ans.length ca).ownBlock=some b->b<w.heap.size) :
  Calls Tryz.prog 16 #[.slice (some a) L.length c,.slice Aa ans.length ca] w fun e w'=>∃ p,e=.returned (.pointer (some ⟨p,0,none⟩))/\RAt w.heap.size w' p false (TS0 L ans)/\Ext w w':=by
 refine (new_r a c L Aa ans.length ca w h hl).mono ?_
 rintro e w' ⟨p,vL,rfl,hp,hh,hr,hx⟩
 refine⟨p,rfl,⟨0,_,_,_,_,L,{ ge:=hp,heap:=hh,ans:=ha.ext hx,ansB:=hb,rowL:=hr,rowC:=World.ownsRow_nil _ _ _ _,rowN:=World.ownsRow_nil _ _ _ _,loc:=fun _=>rfl,locN:=hl,accN:=Nat.zero_le _,ansN:=hn,ntsN:=Nat.zero_le _ },by simp [TS0],by simp [TS0]⟩,hx⟩
set_option maxRecDepth 100000 in
theorem new_nil (c:Nat)(Aa:Option Addr)(n ca:Nat)(w:World) :
  Calls Tryz.prog 16 #[.slice none 0 c,.slice Aa n ca] w fun e w'=>∃ p vL,e=.returned (.pointer (some ⟨p,0,none⟩))/\w.heap.size<=p/\w'.heap[p]?=some (.cells #[.slice Aa n ca,.int .i64 0,.bool false,.slice none 0 0,.slice none 0 0,vL] 71 (0,0))/\IntRow w' w.heap.size vL []/\Ext w w':=by
 go_enter Tryz.func16,Tryz.ntmps16
 go_wp2_with fail
 go_ret
 have hown:(w.alloc (.cells #[] 3)).ownsRow w.heap.size 3 1 (.slice (some ⟨w.heap.size,0,none⟩) 0 0) 0 [] :=
  ⟨rfl,.inr ⟨w.heap.size,0,#[],rfl,Nat.le_refl _,heap_alloc_new _ _,Nat.le_refl _,Nat.zero_le _,rfl,rfl⟩⟩
 refine⟨w.heap.size+1,_,rfl,Nat.le_succ _,?_,row_ext hown ((Ext.refl _).alloc _),((Ext.refl _).alloc _).alloc _⟩
 have hz:(w.alloc (.cells #[] 3)).heap.size=w.heap.size+1:=by simp
 rw [<- hz]
 exact heap_alloc_new _ _
theorem new_any (A:Option Addr)(c:Nat)(L:List Int)(Aa:Option Addr)(ca:Nat)(ans:List Int)(w:World)(h:Ints w (.slice A L.length c) L)(ha:Ints w (.slice Aa ans.length ca) ans)(hl:L.length<=32768)(hn:ans.length<=maxAns)
  (hb:∀ b,(Value.slice Aa ans.length ca).ownBlock=some b->b<w.heap.size) :
  Calls Tryz.prog 16 #[.slice A L.length c,.slice Aa ans.length ca] w fun e w'=>∃ p,e=.returned (.pointer (some ⟨p,0,none⟩))/\RAt w.heap.size w' p false (TS0 L ans)/\Ext w w':=by
 cases A with
 | some a=>exact new_at a c L Aa ca ans w h ha hl hn hb
 | none =>
   have hL:L=[]:=by
    obtain⟨A',c',he,_,_,h3⟩:=h
    by_cases e:L=[]
    · exact e
    · obtain⟨b,off,rfl,_⟩:=h3 e
      cases he
   subst hL
   refine (new_nil c Aa ans.length ca w).mono ?_
   rintro e w' ⟨p,vL,rfl,hp,hh,hr,hx⟩
   exact⟨p,rfl,⟨0,_,_,_,_,[],{ ge:=hp,heap:=hh,ans:=ha.ext hx,ansB:=hb,rowL:=hr,rowC:=World.ownsRow_nil _ _ _ _,rowN:=World.ownsRow_nil _ _ _ _,loc:=fun _=>rfl,locN:=hl,accN:=Nat.zero_le _,ansN:=hn,ntsN:=Nat.zero_le _ },by simp [TS0],by simp [TS0]⟩,hx⟩
end Go.Proofs.YtbphlkaihfbgeaaGreat
namespace Kv
end Kv
namespace Go.Proofs.YtbphlkaihfbgeaaGreat
open Go.RowKit Kv
def Pos {α:Type} (T:Prog α) (L:List Int) (ans:List Int) (T':Prog α) (loc:Nat->Int):Prop :=
 ∃ S',Res T (TS0 L []) T' S'/\S'.ans=ans/\S'.acc.length=ans.length/\S'.loc=loc
section
variable {α:Type} {T:Prog α} {L ans:List Int} {loc:Nat->Int}
theorem Pos.run {T':Prog α}{S':TS}(h:Res T (TS0 L []) T' S')(ha:S'.ans=ans):T.run (TS0 L ans)=T'.run S':=by
 have:=h.now
 rw [ha] at this
 exact this
theorem told_next {S':TS}(h:S'.acc.length=S'.ans.length)(v:Int)(x:List Int)(a:Acc):({ S' with ans:=(S'.told v a).ans++x }:TS).next=some v:=by
 unfold TS.next
 simp only [TS.told,List.append_assoc]
 rw [List.getElem?_append_right (by omega),h,Nat.sub_self]
 rfl
theorem Pos.read {c:Int}{k:Int->Prog α}(h:Pos T L ans (.read c k) loc):(∃ S1 l,T.run (TS0 L ans)=(none,S1)/\S1.acc=l++[⟨1,c,0⟩]/\l.length=ans.length)/\∀ v,Pos T L (ans++[v]) (k v) loc:=by
 obtain⟨S',h1,h2,h3,h4⟩:=h
 have hn:S'.next=none:=by unfold TS.next;rw [List.getElem?_eq_none (by rw [h2];omega)]
 refine⟨⟨S'.put ⟨1,c,0⟩,S'.acc,?_,rfl,h3⟩,fun v=>⟨S'.told v ⟨1,c,0⟩,?_,by rw [<- h2];rfl,by simp [TS.told,h3],h4⟩⟩
 · rw [Pos.run h1 h2]
   simp only [Prog.run,hn]
 · refine Res.trans h1 (fun x=>?_) (v:=v) rfl
   simp only [Prog.run,told_next (h3.trans (congrArg _ h2.symm)) v x ⟨1,c,0⟩]
   rfl
theorem Pos.write {c u:Int}{k:Unit->Prog α}(h:Pos T L ans (.write c u k) loc):(∃ S1 l,T.run (TS0 L ans)=(none,S1)/\S1.acc=l++[⟨2,c,u⟩]/\l.length=ans.length)/\∀ v,Pos T L (ans++[v]) (k ()) loc:=by
 obtain⟨S',h1,h2,h3,h4⟩:=h
 have hn:S'.next=none:=by unfold TS.next;rw [List.getElem?_eq_none (by rw [h2];omega)]
 refine⟨⟨S'.put ⟨2,c,u⟩,S'.acc,?_,rfl,h3⟩,fun v=>⟨S'.told v ⟨2,c,u⟩,?_,by rw [<- h2];rfl,by simp [TS.told,h3],h4⟩⟩
 · rw [Pos.run h1 h2]
   simp only [Prog.run,hn]
 · refine Res.trans h1 (fun x=>?_) (v:=v) rfl
   simp only [Prog.run,told_next (h3.trans (congrArg _ h2.symm)) v x ⟨2,c,u⟩]
   rfl
theorem Pos.done {a:α}(h:Pos T L ans (.ret a) loc):∃ S1,T.run (TS0 L ans)=(some a,S1)/\S1.acc.length=ans.length/\S1.loc=loc:=by
 obtain⟨S',h1,h2,h3,h4⟩:=h
 exact⟨S',by rw [Pos.run h1 h2];rfl,h3,h4⟩
theorem Pos.get {i:Int}{k:Int->Prog α}(h:Pos T L ans (.get i k) loc):Pos T L ans (k (if i<0 then 0 else loc i.toNat)) loc:=by
 obtain⟨S',h1,h2,h3,h4⟩:=h
 refine⟨S',fun x=>?_,h2,h3,h4⟩
 rw [h1 x]
 show (k (TS.got _ i)).run _=_
 unfold TS.got
 simp only [h4]
theorem Pos.set {i v:Int}{k:Unit->Prog α}(h:Pos T L ans (.set i v k) loc):Pos T L ans (k ()) (if 0<=i/\i<32768 then fun j=>if j=i.toNat then v else loc j else loc):=by
 obtain⟨S',h1,h2,h3,h4⟩:=h
 refine⟨S'.upd i v,fun x=>?_,by rw [TS.upd_ans];exact h2,by rw [TS.upd_acc];exact h3,?_⟩
 · rw [TS.upd_ans]
   refine (h1 x).trans ?_
   show (k ()).run (TS.upd _ i v)=_
   rw [upd_with]
 · unfold TS.upd
   split <;> simp [h4]
theorem Pos.note {m:Int}{k:Unit->Prog α}(h:Pos T L ans (.note m k) loc):Pos T L ans (k ()) loc:=by
 obtain⟨S',h1,h2,h3,h4⟩:=h
 exact⟨S'.noted m,fun x=>(h1 x).trans rfl,h2,h3,h4⟩
end
end Go.Proofs.YtbphlkaihfbgeaaGreat
namespace Kv
inductive Todo (σ:Type) where
 | rd (c:Int) (k:Int->σ)
 | wr (c v:Int) (s:σ)
 | fin (a:Int)
def treeM {σ:Type} (ask:σ->Todo σ):Nat->σ->Prog Int
 | 0,_=>.ret 0
 | f+1,s=>match ask s with
   | .rd c k=>.read c fun v=>treeM ask f (k v)
   | .wr c v s'=>.write c v fun _=>treeM ask f s'
   | .fin a=>.ret a
section
variable {σ:Type} {ask:σ->Todo σ} {f:Nat} {s:σ}
theorem treeM_rd {c:Int}{k:Int->σ}(h:ask s=.rd c k):treeM ask (f+1) s=(rd c).bind fun v=>treeM ask f (k v):=by
 show (match ask s with | .rd c k=>Prog.read c fun v=>treeM ask f (k v) | .wr c v s'=>.write c v fun _=>treeM ask f s' | .fin a=>.ret a)=_
 rw [h]
 rfl
theorem treeM_wr {c v:Int}{s':σ}(h:ask s=.wr c v s'):treeM ask (f+1) s=(wr c v).bind fun _=>treeM ask f s':=by
 show (match ask s with | .rd c k=>Prog.read c fun v=>treeM ask f (k v) | .wr c v s'=>.write c v fun _=>treeM ask f s' | .fin a=>.ret a)=_
 rw [h]
 rfl
theorem treeM_fin {a:Int}(h:ask s=.fin a):treeM ask (f+1) s=.ret a:=by
 show (match ask s with | .rd c k=>Prog.read c fun v=>treeM ask f (k v) | .wr c v s'=>.write c v fun _=>treeM ask f s' | .fin a=>.ret a)=_
 rw [h]
end
end Kv
namespace Go.Proofs.YtbphlkaihfbgeaaGreat
open Go.RowKit Kv
def MPos {σ:Type} (ask:σ->Todo σ) (D:Nat) (s0:σ) (ans:List Int) (s:σ):Prop:=ans.length<D/\Pos (treeM ask D s0) [] ans (treeM ask (D-ans.length) s) (TS0 [] []).loc
section
variable {σ:Type} {ask:σ->Todo σ} {D:Nat} {s0 s:σ} {ans:List Int}
theorem MPos.rd {c:Int}{k:Int->σ}(h:MPos ask D s0 ans s)(hk:ask s=.rd c k):(∃ S1 l,(treeM ask D s0).run (TS0 [] ans)=(none,S1)/\S1.acc=l++[⟨1,c,0⟩]/\l.length=ans.length)/\∀ v,ans.length+1<D->MPos ask D s0 (ans++[v]) (k v):=by
 obtain⟨h1,h2⟩:=h
 rw [show D-ans.length=(D-ans.length-1)+1 from by omega,treeM_rd hk] at h2
 have h3:=Pos.read (k:=fun v=>treeM ask (D-ans.length-1) (k v)) h2
 refine⟨h3.1,fun v hv=>⟨by simpa using hv,?_⟩⟩
 rw [show D-(ans++[v]).length=D-ans.length-1 from by simp;omega]
 exact h3.2 v
theorem MPos.wr {c u:Int}{s':σ}(h:MPos ask D s0 ans s)(hk:ask s=.wr c u s'):(∃ S1 l,(treeM ask D s0).run (TS0 [] ans)=(none,S1)/\S1.acc=l++[⟨2,c,u⟩]/\l.length=ans.length)/\∀ v,ans.length+1<D->MPos ask D s0 (ans++[v]) s':=by
 obtain⟨h1,h2⟩:=h
 rw [show D-ans.length=(D-ans.length-1)+1 from by omega,treeM_wr hk] at h2
 have h3:=Pos.write (k:=fun _=>treeM ask (D-ans.length-1) s') h2
 refine⟨h3.1,fun v hv=>⟨by simpa using hv,?_⟩⟩
 rw [show D-(ans++[v]).length=D-ans.length-1 from by simp;omega]
 exact h3.2 v
theorem MPos.fin {a:Int}(h:MPos ask D s0 ans s)(hk:ask s=.fin a):∃ S1,(treeM ask D s0).run (TS0 [] ans)=(some a,S1)/\S1.acc.length=ans.length:=by
 obtain⟨h1,h2⟩:=h
 rw [show D-ans.length=(D-ans.length-1)+1 from by omega,treeM_fin hk] at h2
 obtain⟨S1,q1,q2,_⟩:=h2.done
 exact⟨S1,q1,q2⟩
end
end Go.Proofs.YtbphlkaihfbgeaaGreat
namespace Kv
inductive LPc
 | out | e2 | e3 | e4 | e5 (v:Int) | e6 (v:Int) | e7 (v:Int) | e8 | e9 | e10 | inn | l2 | l3 (u:Int)
deriving DecidableEq
def LPc.mk:LPc->Bool
 | .out=>false | .l2=>false | .l3 _=>false | _=>true
def LPc.wt:LPc->Bool
 | .out=>false | .e2=>false | .l2=>false | .l3 _=>false | _=>true
def LPc.late:LPc->Bool
 | .e4=>true | .e5 _=>true | .e6 _=>true | .e7 _=>true | .e8=>true | .e9=>true | .e10=>true | _=>false
def LPc.fine (n:Nat):LPc->Prop
 | .e5 v=>1<=v/\v<=n | .e6 v=>1<=v/\v<=n | .e7 v=>1<=v/\v<=n | .l3 u=>1<=u/\u<=n | _=>True
theorem LPc.wt_mk {a:LPc}(h:a.wt=true):a.mk=true:=by cases a <;> simp_all [LPc.mk,LPc.wt]
theorem LPc.mk_out {a:LPc}(h:a.mk=true):a≠.out:=by cases a <;> simp_all [LPc.mk]
theorem LPc.late_wt {a:LPc}(h:a.late=true):a.wt=true:=by cases a <;> simp_all [LPc.late,LPc.wt]
def own (L t k:Nat):Nat:=(2 ^ L+t) / 2 ^ k
theorem own_succ (L t k:Nat):own L t (k+1)=own L t k / 2:=by
 unfold own
 rw [Nat.pow_succ,Nat.div_div_eq_div_mul]
theorem own_zero (L t:Nat):own L t 0=2 ^ L+t:=by simp [own]
theorem own_ge {L t k:Nat}(h:k<=L):2 ^ (L-k)<=own L t k:=by
 unfold own
 rw [Nat.le_div_iff_mul_le (Nat.two_pow_pos k),<- Nat.pow_add,show L-k+k=L from by omega]
 omega
theorem own_lt {L t k:Nat}(h:k<=L)(ht:t<2 ^ L):own L t k<2 ^ (L-k+1):=by
 unfold own
 rw [Nat.div_lt_iff_lt_mul (Nat.two_pow_pos k),<- Nat.pow_add,show L-k+1+k=L+1 from by omega,Nat.pow_succ]
 omega
theorem own_level {L t u j k:Nat}(hj:j<=L)(hk:k<=L)(ht:t<2 ^ L)(hu:u<2 ^ L)(h:own L t j=own L u k):j=k:=by
 have key:∀ a b t u,a<=L->b<=L->t<2 ^ L->u<2 ^ L->a<b->own L t a≠own L u b:=fun a b t u ha hb ht hu hab e=>by
  have h1:=own_ge (t:=t) ha
  have h2:=own_lt hb hu
  have h3:2 ^ (L-b+1)<=2 ^ (L-a):=Nat.pow_le_pow_right (by decide) (by omega)
  omega
 rcases Nat.lt_trichotomy j k with h1 | h1 | h1
 · exact absurd h (key _ _ _ _ hj hk ht hu h1)
 · exact h1
 · exact absurd h.symm (key _ _ _ _ hk hj hu ht h1)
def set3 (s:Nat->Nat->LPc) (t k:Nat) (b:LPc):Nat->Nat->LPc:=fun t' k'=>if t'=t/\k'=k then b else s t' k'
theorem set3_self (s:Nat->Nat->LPc)(t k:Nat)(b:LPc):set3 s t k b t k=b:=if_pos ⟨rfl,rfl⟩
theorem set3_ne {s:Nat->Nat->LPc}{t k:Nat}{b:LPc}{t' k':Nat}(h:¬ (t'=t/\k'=k)):set3 s t k b t' k'=s t' k':=if_neg h
def setG (G:Nat->Nat->Int) (X i:Nat) (v:Int):Nat->Nat->Int:=fun Y j=>if Y=X/\j=i then v else G Y j
theorem setG_self (G:Nat->Nat->Int)(X i:Nat)(v:Int):setG G X i v X i=v:=if_pos ⟨rfl,rfl⟩
theorem setG_ne {G:Nat->Nat->Int}{X i:Nat}{v:Int}{Y j:Nat}(h:¬ (Y=X/\j=i)):setG G X i v Y j=G Y j:=if_neg h
structure YOk (L n:Nat) (s:Nat->Nat->LPc) (G:Nat->Nat->Int):Prop where
 deep:∀ t k,t<n->s t (k+1)≠.out->s t k=.inn
 over:∀ t k,t<n->L<=k->s t k=.out
 mark:∀ t k,t<n->k<L->(s t k).mk=true->G (own L t (k+1)) (own L t k % 2)=(t:Int)+1
 last:∀ t u k,t<n->u<n->k<L->own L t (k+1)=own L u (k+1)->own L t k≠own L u k->(s t k).wt=true->(s u k).wt=true->G (own L t (k+1)) 2=(t:Int)+1∨G (own L t (k+1)) 2=(u:Int)+1
 wake:∀ t u k,t<n->u<n->k<L->own L t (k+1)=own L u (k+1)->own L t k≠own L u k->(s t k).late=true->G (own L t (k+1)) 2=(t:Int)+1->G (own L t (k+1)) (3+t)=2->(s u k).wt=false
 inn:∀ t u k,t<n->u<n->k<L->own L t (k+1)=own L u (k+1)->own L t k≠own L u k->s t k=.inn->(s u k).wt=true->s u k≠.inn/\G (own L t (k+1)) 2=(u:Int)+1
 fine:∀ t k,t<n->(s t k).fine n
 side:∀ X i,i<2->0<=G X i/\G X i<=n
 two:∀ X i,3<=i->G X i<=2
section
variable {L n:Nat} {s:Nat->Nat->LPc} {G:Nat->Nat->Int}
theorem YOk.excl (h:YOk L n s G){t u:Nat}(ht:t<n)(hu:u<n)(hne:t≠u):∀ k,k<L->own L t k=own L u k->s t k≠.out->s u k≠.out->False
 | 0,_,e,_,_=>by rw [own_zero,own_zero] at e;omega
 | k+1,hk,e,h1,h2=>by
   have i1:=h.deep t k ht h1
   have i2:=h.deep u k hu h2
   by_cases e2:own L t k=own L u k
   · exact h.excl ht hu hne k (by omega) e2 (by rw [i1];decide) (by rw [i2];decide)
   · exact (h.inn t u k ht hu (by omega) e e2 i1 (by rw [i2];rfl)).1 i2
theorem YOk.alone (h:YOk L n s G){t u:Nat}(ht:t<n)(hu:u<n)(htl:t<2 ^ L)(hul:u<2 ^ L)(hne:t≠u)(hL:1<=L)(h1:s t (L-1)=.inn)(h2:s u (L-1)=.inn):False:=by
 have e:own L t L=own L u L:=by
  have a1:=own_ge (t:=t) (Nat.le_refl L)
  have a2:=own_lt (t:=t) (Nat.le_refl L) htl
  have b1:=own_ge (t:=u) (Nat.le_refl L)
  have b2:=own_lt (t:=u) (Nat.le_refl L) hul
  simp only [Nat.sub_self,Nat.pow_zero,Nat.zero_add,Nat.pow_one] at a1 a2 b1 b2
  omega
 have e1:own L t (L-1+1)=own L u (L-1+1):=by rw [show L-1+1=L from by omega];exact e
 by_cases e2:own L t (L-1)=own L u (L-1)
 · exact h.excl ht hu hne (L-1) (by omega) e2 (by rw [h1];decide) (by rw [h2];decide)
 · exact (h.inn t u (L-1) ht hu (by omega) e1 e2 h1 (by rw [h2];rfl)).1 h2
theorem YOk.other (h:YOk L n s G){t u k:Nat}(ht:t<n)(hu:u<n)(hk:k<L)(hne:t≠u)(e:own L t k=own L u k)(h1:s t k≠.out):s u k=.out :=
 Classical.byContradiction fun h2=>h.excl ht hu hne k hk e h1 h2
theorem deep_step (h:YOk L n s G){t k:Nat}(_ht:t<n){b:LPc}(h1:b≠.out->k=0∨s t (k-1)=.inn)(h2:b≠.inn->s t (k+1)=.out):∀ t' k',t'<n->set3 s t k b t' (k'+1)≠.out->set3 s t k b t' k'=.inn:=fun t' k' ht' hq=>by
 by_cases e1:t'=t/\k'+1=k
 · obtain⟨rfl,rfl⟩:=e1
   rw [set3_self] at hq
   rw [set3_ne (by omega)]
   rcases h1 hq with h3 | h3
   · omega
   · exact h3
 · rw [set3_ne e1] at hq
   by_cases e2:t'=t/\k'=k
   · obtain⟨rfl,rfl⟩:=e2
     rw [set3_self]
     exact Classical.byContradiction fun h3=>hq (h2 h3)
   · rw [set3_ne e2];exact h.deep t' k' ht' hq
theorem over_step (h:YOk L n s G){t k:Nat}(hk:k<L){b:LPc}:∀ t' k',t'<n->L<=k'->set3 s t k b t' k'=.out:=fun t' k' ht' hk'=>by
 rw [set3_ne (by omega)];exact h.over t' k' ht' hk'
theorem fine_step (h:YOk L n s G){t k:Nat}{b:LPc}(hb:b.fine n):∀ t' k',t'<n->(set3 s t k b t' k').fine n:=fun t' k' ht'=>by
 by_cases e:t'=t/\k'=k
 · obtain⟨rfl,rfl⟩:=e;rw [set3_self];exact hb
 · rw [set3_ne e];exact h.fine t' k' ht'
theorem out_above (h:YOk L n s G){t k:Nat}(ht:t<n)(ha:s t k≠.inn):s t (k+1)=.out:=Classical.byContradiction fun h2=>ha (h.deep t k ht h2)
theorem in_below (h:YOk L n s G){t k:Nat}(ht:t<n)(ha:s t k≠.out):k=0∨s t (k-1)=.inn:=by
 cases k with
 | zero=>exact .inl rfl
 | succ k=>exact .inr (h.deep t k ht ha)
theorem YOk.quiet (h:YOk L n s G){t k:Nat}(ht:t<n)(hk:k<L){b:LPc}{G':Nat->Nat->Int}(ha:s t k≠.inn)(hout:s t k≠.out)(hb:b≠.inn)(hfine:b.fine n)
  (hm:b.mk=true->(s t k).mk=true)(hw:b.wt=true->(s t k).wt=true)(hl:b.late=true->(s t k).late=true∨G' (own L t (k+1)) (3+t)≠2)
  (g1:∀ X i,i<3->G' X i=G X i)(g2:∀ X i,3<=i->G' X i=2->G X i=2)(g3:∀ X i,3<=i->G' X i<=2):YOk L n (set3 s t k b) G':=by
 have hwt:∀ t' k',(set3 s t k b t' k').wt=true->(s t' k').wt=true:=fun t' k' hq=>by
  by_cases e:t'=t/\k'=k
  · obtain⟨rfl,rfl⟩:=e;rw [set3_self] at hq;exact hw hq
  · rw [set3_ne e] at hq;exact hq
 have hin:∀ t' k',set3 s t k b t' k'=.inn->s t' k'=.inn:=fun t' k' hq=>by
  by_cases e:t'=t/\k'=k
  · obtain⟨rfl,rfl⟩:=e;rw [set3_self] at hq;exact absurd hq hb
  · rw [set3_ne e] at hq;exact hq
 refine⟨deep_step h ht (fun _=>in_below h ht hout) (fun _=>out_above h ht ha),over_step h hk,fun t' k' ht' hk' hq=>?_,fun t' u k' ht' hu hk' e1 e2 q1 q2=>?_,fun t' u k' ht' hu hk' e1 e2 q1 q2 q3=>?_,fun t' u k' ht' hu hk' e1 e2 q1 q2=>?_,fine_step h hfine,fun X i hi=>?_,g3⟩
 · rw [g1 _ _ (by omega)]
   refine h.mark t' k' ht' hk' ?_
   by_cases e:t'=t/\k'=k
   · obtain⟨rfl,rfl⟩:=e;rw [set3_self] at hq;exact hm hq
   · rw [set3_ne e] at hq;exact hq
 · rw [g1 _ _ (by omega)]
   exact h.last t' u k' ht' hu hk' e1 e2 (hwt _ _ q1) (hwt _ _ q2)
 · rw [g1 _ _ (by omega)] at q2
   have hn:(s u k').wt=false:=by
    by_cases e:t'=t/\k'=k
    · obtain⟨rfl,rfl⟩:=e
      rw [set3_self] at q1
      rcases hl q1 with q | q
      · exact h.wake _ u _ ht' hu hk' e1 e2 q q2 (g2 _ _ (by omega) q3)
      · exact absurd q3 q
    · rw [set3_ne e] at q1
      exact h.wake t' u k' ht' hu hk' e1 e2 q1 q2 (g2 _ _ (by omega) q3)
   cases hc:(set3 s t k b u k').wt
   · rfl
   · rw [hwt _ _ hc] at hn;exact hn
 · rw [g1 _ _ (by omega)]
   have:=h.inn t' u k' ht' hu hk' e1 e2 (hin _ _ q1) (hwt _ _ q2)
   exact⟨fun e=>this.1 (hin _ _ e),this.2⟩
 · rw [g1 _ _ (by omega)];exact h.side X i hi
theorem YOk.enter (h:YOk L n s G){t k:Nat}(ht:t<n)(hk:k<L)(hw:(s t k).wt=true)
  (hq:∀ u,u<n->own L t (k+1)=own L u (k+1)->own L t k≠own L u k->(s u k).wt=true->s u k≠.inn/\G (own L t (k+1)) 2=(u:Int)+1):YOk L n (set3 s t k .inn) G:=by
 have hout:s t k≠.out:=LPc.mk_out (LPc.wt_mk hw)
 have hwt:∀ t' k',(set3 s t k .inn t' k').wt=true->(s t' k').wt=true:=fun t' k' hq=>by
  by_cases e:t'=t/\k'=k
  · obtain⟨rfl,rfl⟩:=e;exact hw
  · rw [set3_ne e] at hq;exact hq
 refine⟨deep_step h ht (fun _=>in_below h ht hout) (fun e=>absurd rfl e),over_step h hk,fun t' k' ht' hk' hq=>?_,fun t' u k' ht' hu hk' e1 e2 q1 q2=>?_,fun t' u k' ht' hu hk' e1 e2 q1 q2 q3=>?_,fun t' u k' ht' hu hk' e1 e2 q1 q2=>?_,fine_step h trivial,h.side,h.two⟩
 · refine h.mark t' k' ht' hk' ?_
   by_cases e:t'=t/\k'=k
   · obtain⟨rfl,rfl⟩:=e;exact LPc.wt_mk hw
   · rw [set3_ne e] at hq;exact hq
 · exact h.last t' u k' ht' hu hk' e1 e2 (hwt _ _ q1) (hwt _ _ q2)
 · have hn:(s u k').wt=false:=by
    by_cases e:t'=t/\k'=k
    · obtain⟨rfl,rfl⟩:=e
      rw [set3_self] at q1
      cases q1
    · rw [set3_ne e] at q1
      exact h.wake t' u k' ht' hu hk' e1 e2 q1 q2 q3
   cases hc:(set3 s t k .inn u k').wt
   · rfl
   · rw [hwt _ _ hc] at hn;exact hn
 · by_cases e:t'=t/\k'=k
   · obtain⟨rfl,rfl⟩:=e
     by_cases e3:u=t'
     · exact absurd (by rw [e3]) e2
     · rw [set3_ne (by omega)] at q2 ⊢
       exact hq u hu e1 e2 q2
   · rw [set3_ne e] at q1
     by_cases e3:u=t/\k'=k
     · obtain⟨rfl,rfl⟩:=e3
       have hw2:(s t' k').wt=true:=by rw [q1];rfl
       exact absurd q1 (hq t' ht' e1.symm (Ne.symm e2) hw2).1
     · rw [set3_ne e3] at q2 ⊢
       exact h.inn t' u k' ht' hu hk' e1 e2 q1 q2
theorem YOk.free (h:YOk L n s G){t k:Nat}(ht:t<n)(hk:k<L)(hw:(s t k).wt=true)(h0:G (own L t (k+1)) (1-own L t k % 2)=0):YOk L n (set3 s t k .inn) G :=
 h.enter ht hk hw fun u hu e1 e2 q=>by
  have hm:=h.mark u k hu hk (LPc.wt_mk q)
  have e3:own L u k % 2=1-own L t k % 2:=by
   rw [own_succ,own_succ] at e1
   omega
  rw [<- e1,e3,h0] at hm
  omega
theorem YOk.passed (h:YOk L n s G){t k:Nat}(ht:t<n)(hk:k<L)(hw:(s t k).wt=true)(h0:G (own L t (k+1)) 2≠(t:Int)+1):YOk L n (set3 s t k .inn) G :=
 h.enter ht hk hw fun u hu e1 e2 q=>by
  have hT:G (own L t (k+1)) 2=(u:Int)+1:=by
   rcases h.last t u k ht hu hk e1 e2 hw q with q2 | q2
   · exact absurd q2 h0
   · exact q2
  refine⟨fun e=>?_,hT⟩
  have:=(h.inn u t k hu ht hk e1.symm (Ne.symm e2) e hw).2
  rw [<- e1] at this
  exact h0 this
theorem YOk.freed (h:YOk L n s G){t k:Nat}(ht:t<n)(hk:k<L)(hl:(s t k).late=true)(h0:G (own L t (k+1)) (3+t)=2):YOk L n (set3 s t k .inn) G:=by
 by_cases hT:G (own L t (k+1)) 2=(t:Int)+1
 · exact h.enter ht hk (LPc.late_wt hl) fun u hu e1 e2 q=>by
    rw [h.wake t u k ht hu hk e1 e2 hl hT h0] at q
    cases q
 · exact h.passed ht hk (LPc.late_wt hl) hT
theorem node_level {t u j k:Nat}(hj:j<L)(hk:k<L)(ht:t<2 ^ L)(hu:u<2 ^ L)(h:own L t (j+1)=own L u (k+1)):j=k:=by
 have:=own_level (show j+1<=L by omega) (show k+1<=L by omega) ht hu h
 omega
theorem YOk.comes (h:YOk L n s G)(hn:n<=2 ^ L){t k:Nat}(ht:t<n)(hk:k<L)(ha:s t k=.out)(hb:k=0∨s t (k-1)=.inn):YOk L n (set3 s t k .e2) (setG G (own L t (k+1)) (own L t k % 2) ((t:Int)+1)):=by
 have hs2:own L t k % 2<2:=Nat.mod_lt _ (by decide)
 have hwt:∀ t' k',(set3 s t k .e2 t' k').wt=true->(s t' k').wt=true:=fun t' k' hq=>by
  by_cases e:t'=t/\k'=k
  · obtain⟨rfl,rfl⟩:=e;rw [set3_self] at hq;cases hq
  · rw [set3_ne e] at hq;exact hq
 have hin:∀ t' k',set3 s t k .e2 t' k'=.inn->s t' k'=.inn:=fun t' k' hq=>by
  by_cases e:t'=t/\k'=k
  · obtain⟨rfl,rfl⟩:=e;rw [set3_self] at hq;cases hq
  · rw [set3_ne e] at hq;exact hq
 have g:∀ X i,2<=i->setG G (own L t (k+1)) (own L t k % 2) ((t:Int)+1) X i=G X i:=fun X i hi=>setG_ne (by omega)
 -- nobody else is at this side
 have hno:∀ u,u<n->u≠t->own L t k=own L u k->s u k=.out:=fun u hu hne e=>Classical.byContradiction fun h2=>by
  rcases hb with rfl | hb
  · rw [own_zero,own_zero] at e;omega
  · obtain⟨k,rfl⟩:∃ k',k=k'+1:=⟨k-1,by
     cases k with
     | zero=>rw [ha] at hb;cases hb
     | succ k=>rfl⟩
    have i2:=h.deep u k hu h2
    simp only [Nat.add_sub_cancel] at hb
    by_cases e2:own L t k=own L u k
    · exact h.excl ht hu (Ne.symm hne) k (by omega) e2 (by rw [hb];decide) (by rw [i2];decide)
    · exact (h.inn t u k ht hu (by omega) e e2 hb (by rw [i2];rfl)).1 i2
 refine⟨deep_step h ht (fun _=>hb) (fun _=>out_above h ht (by rw [ha];decide)),over_step h hk,fun t' k' ht' hk' hq=>?_,fun t' u k' ht' hu hk' e1 e2 q1 q2=>?_,fun t' u k' ht' hu hk' e1 e2 q1 q2 q3=>?_,fun t' u k' ht' hu hk' e1 e2 q1 q2=>?_,fine_step h trivial,fun X i hi=>?_,fun X i hi=>?_⟩
 · by_cases e:t'=t/\k'=k
   · obtain⟨rfl,rfl⟩:=e;rw [setG_self]
   · rw [set3_ne e] at hq
     rw [setG_ne (fun e3=>?_)]
     · exact h.mark t' k' ht' hk' hq
     · obtain rfl:=node_level hk' hk (by omega) (by omega) e3.1
       have e4:own L t k'=own L t' k':=by
        have e5:=e3.1
        have e6:=e3.2
        rw [own_succ,own_succ] at e5
        omega
       have:=hno t' ht' (fun e5=>e ⟨e5,rfl⟩) e4
       rw [this] at hq
       cases hq
 · rw [g _ _ (by omega)]
   exact h.last t' u k' ht' hu hk' e1 e2 (hwt _ _ q1) (hwt _ _ q2)
 · rw [g _ _ (by omega)] at q2 q3
   have hn:(s u k').wt=false:=by
    by_cases e:t'=t/\k'=k
    · obtain⟨rfl,rfl⟩:=e;rw [set3_self] at q1;cases q1
    · rw [set3_ne e] at q1
      exact h.wake t' u k' ht' hu hk' e1 e2 q1 q2 q3
   cases hc:(set3 s t k .e2 u k').wt
   · rfl
   · rw [hwt _ _ hc] at hn;exact hn
 · rw [g _ _ (by omega)]
   have:=h.inn t' u k' ht' hu hk' e1 e2 (hin _ _ q1) (hwt _ _ q2)
   exact⟨fun e=>this.1 (hin _ _ e),this.2⟩
 · by_cases e:X=own L t (k+1)/\i=own L t k % 2
   · obtain⟨rfl,rfl⟩:=e;rw [setG_self];omega
   · rw [setG_ne e];exact h.side X i hi
 · rw [g _ _ (by omega)];exact h.two X i hi
theorem YOk.lasts (h:YOk L n s G)(hn:n<=2 ^ L){t k:Nat}(ht:t<n)(hk:k<L)(ha:s t k=.e2):YOk L n (set3 s t k .e3) (setG G (own L t (k+1)) 2 ((t:Int)+1)):=by
 have g:∀ X i,i≠2->setG G (own L t (k+1)) 2 ((t:Int)+1) X i=G X i:=fun X i hi=>setG_ne (by omega)
 have hin:∀ t' k',set3 s t k .e3 t' k'=.inn->s t' k'=.inn:=fun t' k' hq=>by
  by_cases e:t'=t/\k'=k
  · obtain⟨rfl,rfl⟩:=e;rw [set3_self] at hq;cases hq
  · rw [set3_ne e] at hq;exact hq
 have g2:∀ t' k',t'<n->k'<L->k'≠k->setG G (own L t (k+1)) 2 ((t:Int)+1) (own L t' (k'+1)) 2=G (own L t' (k'+1)) 2:=fun t' k' ht' hk' hne=>setG_ne fun e=>hne (node_level hk' hk (by omega) (by omega) e.1)
 have g3:∀ u,own L u (k+1)=own L t (k+1)->setG G (own L t (k+1)) 2 ((t:Int)+1) (own L u (k+1)) 2=(t:Int)+1:=fun u e=>by rw [e];exact setG_self _ _ _ _
 have hex:∀ u,u<n->u≠t->(s u k).wt=true->own L t k≠own L u k:=fun u hu hne hq e=>by
  have:=h.other ht hu hk (Ne.symm hne) e (by rw [ha];decide)
  rw [this] at hq
  cases hq
 have hwt:∀ t' k',(set3 s t k .e3 t' k').wt=true->(t'=t/\k'=k)∨(¬ (t'=t/\k'=k))/\(s t' k').wt=true:=fun t' k' hq=>by
  by_cases e:t'=t/\k'=k
  · exact .inl e
  · rw [set3_ne e] at hq;exact .inr ⟨e,hq⟩
 refine⟨deep_step h ht (fun _=>in_below h ht (by rw [ha];decide)) (fun _=>out_above h ht (by rw [ha];decide)),over_step h hk,fun t' k' ht' hk' hq=>?_,fun t' u k' ht' hu hk' e1 e2 q1 q2=>?_,fun t' u k' ht' hu hk' e1 e2 q1 q2 q3=>?_,fun t' u k' ht' hu hk' e1 e2 q1 q2=>?_,fine_step h trivial,fun X i hi=>?_,fun X i hi=>?_⟩
 · rw [g _ _ (by omega)]
   refine h.mark t' k' ht' hk' ?_
   by_cases e:t'=t/\k'=k
   · obtain⟨rfl,rfl⟩:=e;rw [ha];rfl
   · rw [set3_ne e] at hq;exact hq
 · by_cases ek:k'=k
   · subst ek
     rcases hwt _ _ q1 with⟨rfl,_⟩ | ⟨n1,w1⟩
     · exact .inl (setG_self _ _ _ _)
     · rcases hwt _ _ q2 with⟨rfl,_⟩ | ⟨n2,w2⟩
       · exact .inr (g3 t' e1)
       · -- three at one node
         by_cases e3:own L t (k'+1)=own L t' (k'+1)
         · have a1:=hex t' ht' (fun e=>n1 ⟨e,rfl⟩) w1
           have a2:=hex u hu (fun e=>n2 ⟨e,rfl⟩) w2
           rw [own_succ,own_succ] at e1 e3
           omega
         · rw [setG_ne fun e=>e3 e.1.symm]
           exact h.last t' u k' ht' hu hk' e1 e2 w1 w2
   · rw [g2 t' k' ht' hk' ek]
     rw [set3_ne (by omega)] at q1 q2
     exact h.last t' u k' ht' hu hk' e1 e2 q1 q2
 · rw [g _ _ (by omega)] at q3
   by_cases e:t'=t/\k'=k
   · obtain⟨rfl,rfl⟩:=e;rw [set3_self] at q1;cases q1
   · rw [set3_ne e] at q1
     by_cases ek:k'=k
     · subst ek
       by_cases e3:own L t' (k'+1)=own L t (k'+1)
       · rw [g3 t' e3] at q2
         exact absurd ⟨by omega,rfl⟩ e
       · rw [setG_ne fun e4=>e3 e4.1] at q2
         rw [set3_ne fun e4=>e3 (by rw [e1,e4.1])]
         exact h.wake t' u k' ht' hu hk' e1 e2 q1 q2 q3
     · rw [g2 t' k' ht' hk' ek] at q2
       rw [set3_ne (by omega)]
       exact h.wake t' u k' ht' hu hk' e1 e2 q1 q2 q3
 · have q1':=hin _ _ q1
   have n1:¬ (t'=t/\k'=k):=fun e=>by
    obtain⟨rfl,rfl⟩:=e;rw [set3_self] at q1;cases q1
   by_cases ek:k'=k
   · subst ek
     rcases hwt _ _ q2 with⟨rfl,_⟩ | ⟨n2,w2⟩
     · rw [set3_self]
       exact⟨by decide,g3 t' e1⟩
     · rw [set3_ne n2]
       by_cases e3:own L t (k'+1)=own L t' (k'+1)
       · have a1:=hex t' ht' (fun e=>n1 ⟨e,rfl⟩) (by rw [q1'];rfl)
         have a2:=hex u hu (fun e=>n2 ⟨e,rfl⟩) w2
         rw [own_succ,own_succ] at e1 e3
         omega
       · rw [setG_ne fun e=>e3 e.1.symm]
         exact h.inn t' u k' ht' hu hk' e1 e2 q1' w2
   · rw [g2 t' k' ht' hk' ek]
     rw [set3_ne (by omega)] at q2 ⊢
     exact h.inn t' u k' ht' hu hk' e1 e2 q1' q2
 · rw [g _ _ (by omega)];exact h.side X i hi
 · rw [g _ _ (by omega)];exact h.two X i hi
theorem YOk.leaves (h:YOk L n s G)(hn:n<=2 ^ L){t k:Nat}(ht:t<n)(hk:k<L)(ha:s t k=.inn)(hb:s t (k+1)=.out):YOk L n (set3 s t k .l2) (setG G (own L t (k+1)) (own L t k % 2) 0):=by
 have hs2:own L t k % 2<2:=Nat.mod_lt _ (by decide)
 have hwt:∀ t' k',(set3 s t k .l2 t' k').wt=true->(s t' k').wt=true:=fun t' k' hq=>by
  by_cases e:t'=t/\k'=k
  · obtain⟨rfl,rfl⟩:=e;rw [set3_self] at hq;cases hq
  · rw [set3_ne e] at hq;exact hq
 have hin:∀ t' k',set3 s t k .l2 t' k'=.inn->s t' k'=.inn:=fun t' k' hq=>by
  by_cases e:t'=t/\k'=k
  · obtain⟨rfl,rfl⟩:=e;rw [set3_self] at hq;cases hq
  · rw [set3_ne e] at hq;exact hq
 have g:∀ X i,2<=i->setG G (own L t (k+1)) (own L t k % 2) 0 X i=G X i:=fun X i hi=>setG_ne (by omega)
 refine⟨deep_step h ht (fun _=>in_below h ht (by rw [ha];decide)) (fun _=>hb),over_step h hk,fun t' k' ht' hk' hq=>?_,fun t' u k' ht' hu hk' e1 e2 q1 q2=>?_,fun t' u k' ht' hu hk' e1 e2 q1 q2 q3=>?_,fun t' u k' ht' hu hk' e1 e2 q1 q2=>?_,fine_step h trivial,fun X i hi=>?_,fun X i hi=>?_⟩
 · by_cases e:t'=t/\k'=k
   · obtain⟨rfl,rfl⟩:=e;rw [set3_self] at hq;cases hq
   · rw [set3_ne e] at hq
     rw [setG_ne (fun e3=>?_)]
     · exact h.mark t' k' ht' hk' hq
     · obtain rfl:=node_level hk' hk (by omega) (by omega) e3.1
       have e4:own L t k'=own L t' k':=by
        have e5:=e3.1
        have e6:=e3.2
        rw [own_succ,own_succ] at e5
        omega
       have:=h.other ht ht' hk (fun e5=>e ⟨e5.symm,rfl⟩) e4 (by rw [ha];decide)
       rw [this] at hq
       cases hq
 · rw [g _ _ (by omega)]
   exact h.last t' u k' ht' hu hk' e1 e2 (hwt _ _ q1) (hwt _ _ q2)
 · rw [g _ _ (by omega)] at q2 q3
   have hn:(s u k').wt=false:=by
    by_cases e:t'=t/\k'=k
    · obtain⟨rfl,rfl⟩:=e;rw [set3_self] at q1;cases q1
    · rw [set3_ne e] at q1
      exact h.wake t' u k' ht' hu hk' e1 e2 q1 q2 q3
   cases hc:(set3 s t k .l2 u k').wt
   · rfl
   · rw [hwt _ _ hc] at hn;exact hn
 · rw [g _ _ (by omega)]
   have:=h.inn t' u k' ht' hu hk' e1 e2 (hin _ _ q1) (hwt _ _ q2)
   exact⟨fun e=>this.1 (hin _ _ e),this.2⟩
 · by_cases e:X=own L t (k+1)/\i=own L t k % 2
   · obtain⟨rfl,rfl⟩:=e;rw [setG_self];omega
   · rw [setG_ne e];exact h.side X i hi
 · rw [g _ _ (by omega)];exact h.two X i hi
theorem YOk.frees (h:YOk L n s G)(hn:n<=2 ^ L){t k v:Nat}(ht:t<n)(hk:k<L)(ha:s t k=.l3 ((v:Int)+1)):YOk L n (set3 s t k .out) (setG G (own L t (k+1)) (3+v) 2):=by
 have hwt:∀ t' k',(set3 s t k .out t' k').wt=true->(s t' k').wt=true:=fun t' k' hq=>by
  by_cases e:t'=t/\k'=k
  · obtain⟨rfl,rfl⟩:=e;rw [set3_self] at hq;cases hq
  · rw [set3_ne e] at hq;exact hq
 have hin:∀ t' k',set3 s t k .out t' k'=.inn->s t' k'=.inn:=fun t' k' hq=>by
  by_cases e:t'=t/\k'=k
  · obtain⟨rfl,rfl⟩:=e;rw [set3_self] at hq;cases hq
  · rw [set3_ne e] at hq;exact hq
 have g:∀ X i,i<3->setG G (own L t (k+1)) (3+v) 2 X i=G X i:=fun X i hi=>setG_ne (by omega)
 refine⟨deep_step h ht (fun e=>absurd rfl e) (fun _=>out_above h ht (by rw [ha];exact fun e=>by cases e)),over_step h hk,fun t' k' ht' hk' hq=>?_,fun t' u k' ht' hu hk' e1 e2 q1 q2=>?_,fun t' u k' ht' hu hk' e1 e2 q1 q2 q3=>?_,fun t' u k' ht' hu hk' e1 e2 q1 q2=>?_,fine_step h trivial,fun X i hi=>?_,fun X i hi=>?_⟩
 · rw [g _ _ (by omega)]
   refine h.mark t' k' ht' hk' ?_
   by_cases e:t'=t/\k'=k
   · obtain⟨rfl,rfl⟩:=e;rw [set3_self] at hq;cases hq
   · rw [set3_ne e] at hq;exact hq
 · rw [g _ _ (by omega)]
   exact h.last t' u k' ht' hu hk' e1 e2 (hwt _ _ q1) (hwt _ _ q2)
 · rw [g _ _ (by omega)] at q2
   have n1:¬ (t'=t/\k'=k):=fun e=>by
    obtain⟨rfl,rfl⟩:=e;rw [set3_self] at q1;cases q1
   rw [set3_ne n1] at q1
   by_cases e3:own L t' (k'+1)=own L t (k+1)/\3+t'=3+v
   · -- it is the one that is freed: the other side's thread is the one that frees it
     obtain rfl:=node_level hk' hk (by omega) (by omega) e3.1
     have hne:t≠t':=fun e=>n1 ⟨e.symm,rfl⟩
     have hto:s t k'≠.out:=by rw [ha];exact fun e=>by cases e
     have hlo:s t' k'≠.out:=LPc.mk_out (LPc.wt_mk (LPc.late_wt q1))
     cases hc:(set3 s t k' .out u k').wt
     · rfl
     · exfalso
       have n2:¬ (u=t/\k'=k'):=fun e=>by
        obtain⟨rfl,_⟩:=e;rw [set3_self] at hc;cases hc
       rw [set3_ne n2] at hc
       have huo:s u k'≠.out:=LPc.mk_out (LPc.wt_mk hc)
       by_cases e4:own L t k'=own L t' k'
       · exact h.excl ht ht' hne k' hk' e4 hto hlo
       · have e5:own L t k'=own L u k':=by
          have e6:=e3.1
          rw [own_succ,own_succ] at e1 e6
          omega
         exact h.excl ht hu (fun e=>n2 ⟨e.symm,rfl⟩) k' hk' e5 hto huo
   · rw [setG_ne e3] at q3
     have hn:=h.wake t' u k' ht' hu hk' e1 e2 q1 q2 q3
     cases hc:(set3 s t k .out u k').wt
     · rfl
     · rw [hwt _ _ hc] at hn;exact hn
 · rw [g _ _ (by omega)]
   have:=h.inn t' u k' ht' hu hk' e1 e2 (hin _ _ q1) (hwt _ _ q2)
   exact⟨fun e=>this.1 (hin _ _ e),this.2⟩
 · rw [g _ _ (by omega)];exact h.side X i hi
 · by_cases e:X=own L t (k+1)/\i=3+v
   · obtain⟨rfl,rfl⟩:=e;rw [setG_self];omega
   · rw [setG_ne e];exact h.two X i hi
end
def yb (n X:Nat):Nat:=3+(X-1)*(n+3)
def ycell (n X:Nat) (i:Int):Int:=(yb n X:Int)+i
def yup (L k:Nat):Option (Nat × LPc):=if k+1<L then some (k+1,.out) else none
def ydown:Nat->Option (Nat × LPc)
 | 0=>none
 | k+1=>some (k,.inn)
def yask (L n me:Nat):Option (Nat × LPc)->Todo (Option (Nat × LPc))
 | none=>.fin 0
 | some (k,.out)=>.wr (ycell n (own L me (k+1)) ((own L me k % 2:Nat):Int)) ((me:Int)+1) (some (k,.e2))
 | some (k,.e2)=>.wr (ycell n (own L me (k+1)) 2) ((me:Int)+1) (some (k,.e3))
 | some (k,.e3)=>.wr (ycell n (own L me (k+1)) (3+(me:Int))) 0 (some (k,.e4))
 | some (k,.e4)=>.rd (ycell n (own L me (k+1)) ((1-own L me k % 2:Nat):Int)) fun v=>if v=0 then yup L k else some (k,.e5 v)
 | some (k,.e5 v)=>.rd (ycell n (own L me (k+1)) 2) fun u=>if u=(me:Int)+1/\1<=v/\v<=n then some (k,.e6 v) else yup L k
 | some (k,.e6 v)=>.rd (ycell n (own L me (k+1)) (2+v)) fun u=>if u=0 then some (k,.e7 v) else some (k,.e8)
 | some (k,.e7 v)=>.wr (ycell n (own L me (k+1)) (2+v)) 1 (some (k,.e8))
 | some (k,.e8)=>.rd (ycell n (own L me (k+1)) (3+(me:Int))) fun u=>if u=0 then some (k,.e8) else some (k,.e9)
 | some (k,.e9)=>.rd (ycell n (own L me (k+1)) 2) fun u=>if u=(me:Int)+1 then some (k,.e10) else yup L k
 | some (k,.e10)=>.rd (ycell n (own L me (k+1)) (3+(me:Int))) fun u=>if u<=1 then some (k,.e10) else yup L k
 | some (k,.inn)=>.wr (ycell n (own L me (k+1)) ((own L me k % 2:Nat):Int)) 0 (some (k,.l2))
 | some (k,.l2)=>.rd (ycell n (own L me (k+1)) 2) fun u=>if u≠(me:Int)+1/\1<=u/\u<=n then some (k,.l3 u) else ydown k
 | some (k,.l3 u)=>.wr (ycell n (own L me (k+1)) (2+u)) 2 (ydown k)
def lev (p:Nat × LPc) (j:Nat):LPc:=if j<p.1 then .inn else if j=p.1 then p.2 else .out
def LPc.lv:LPc->Bool
 | .inn=>true | .l2=>true | .l3 _=>true | _=>false
structure YCells (L n:Nat) (M:List Int) (G:Nat->Nat->Int):Prop where
 len:M.length=3+(2 ^ L-1)*(n+3)
 at_:∀ X i,1<=X->X<2 ^ L->i<n+3->M[yb n X+i]?=some (G X i)
theorem yb_inj {n X Y i j:Nat}(hX:1<=X)(hY:1<=Y)(hi:i<n+3)(hj:j<n+3)(h:yb n X+i=yb n Y+j):X=Y/\i=j:=by
 unfold yb at h
 obtain⟨x,rfl⟩:∃ x,X=x+1:=⟨X-1,by omega⟩
 obtain⟨y,rfl⟩:∃ y,Y=y+1:=⟨Y-1,by omega⟩
 simp only [Nat.add_sub_cancel] at h
 have key:∀ a b i j:Nat,i<n+3->a<b->a*(n+3)+i≠b*(n+3)+j:=fun a b i j hi hab e=>by
  obtain⟨c,rfl⟩:∃ c,b=a+1+c:=⟨b-a-1,by omega⟩
  rw [Nat.add_mul,Nat.add_mul] at e
  omega
 rcases Nat.lt_trichotomy x y with h1 | h1 | h1
 · exact absurd (by omega) (key x y i j hi h1)
 · subst h1;exact⟨rfl,by omega⟩
 · exact absurd (by omega) (key y x j i hj h1)
section
variable {L n:Nat} {M:List Int} {G:Nat->Nat->Int}
theorem YCells.lt (h:YCells L n M G){X i:Nat}(hX:1<=X)(hX2:X<2 ^ L)(hi:i<n+3):yb n X+i<M.length:=(List.getElem?_eq_some_iff.1 (h.at_ X i hX hX2 hi)).1
theorem YCells.set (h:YCells L n M G){X i:Nat}(hX:1<=X)(hX2:X<2 ^ L)(hi:i<n+3)(v:Int):YCells L n (M.set (yb n X+i) v) (setG G X i v):=by
 refine⟨by rw [List.length_set];exact h.len,fun Y j hY hY2 hj=>?_⟩
 have hlt:=h.lt hX hX2 hi
 by_cases e:Y=X/\j=i
 · obtain⟨rfl,rfl⟩:=e
   rw [setG_self,List.getElem?_set_self hlt]
 · rw [setG_ne e,List.getElem?_set_ne fun e2=>e ?_]
   · exact h.at_ Y j hY hY2 hj
   · obtain⟨e3,e4⟩:=yb_inj hX hY hi hj e2
     exact⟨e3.symm,e4.symm⟩
end
def GoesE (L k:Nat) (b:LPc) (q:Option (Nat × LPc)):Prop:=(q=some (k,b)/\b.lv=false/\b≠.out)∨(b=.inn/\q=yup L k)
def GoesL (k:Nat) (b:LPc) (q:Option (Nat × LPc)):Prop:=(q=some (k,b)/\b.lv=true/\b≠.inn)∨(b=.out/\q=ydown k)
def GoesTo (L k:Nat) (x b:LPc) (q:Option (Nat × LPc)):Prop:=(x.lv=false/\GoesE L k b q)∨(x.lv=true/\GoesL k b q)
section
variable {L n:Nat} {M:List Int} {G:Nat->Nat->Int} {s:Nat->Nat->LPc}
theorem own_node {t k:Nat}(hk:k<L)(ht:t<2 ^ L):1<=own L t (k+1)/\own L t (k+1)<2 ^ L:=by
 have h1:=own_ge (t:=t) (show k+1<=L by omega)
 have h2:=own_lt (show k+1<=L by omega) ht
 have h3:2 ^ (L-(k+1)+1)<=2 ^ L:=Nat.pow_le_pow_right (by decide) (by omega)
 have h4:=Nat.two_pow_pos (L-(k+1))
 omega
theorem YOk.same (h:YOk L n s G){t k:Nat}(ht:t<n)(hk:k<L){b:LPc}(ha:s t k≠.inn)(hout:s t k≠.out)(hb:b≠.inn)(hfine:b.fine n)
  (hm:b.mk=true->(s t k).mk=true)(hw:b.wt=true->(s t k).wt=true)(hl:b.late=true->(s t k).late=true):YOk L n (set3 s t k b) G :=
 h.quiet ht hk ha hout hb hfine hm hw (fun q=>.inl (hl q)) (fun _ _ _=>rfl) (fun _ _ _ q=>q) h.two
theorem YOk.rd (h:YOk L n s G)(hM:YCells L n M G)(hn:n<=2 ^ L){t k:Nat}{x:LPc}(ht:t<n)(hk:k<L)(hx:s t k=x){c:Int}{f:Int->Option (Nat × LPc)}(hf:yask L n t (some (k,x))=.rd c f) :
  ∃ (i:Nat) (v:Int) (b:LPc),c=(i:Int)/\M[i]?=some v/\GoesTo L k x b (f v)/\YOk L n (set3 s t k b) G:=by
 obtain⟨hX,hX2⟩:=own_node hk (show t<2 ^ L by omega)
 have hat:=fun i hi=>hM.at_ _ i hX hX2 hi
 cases x with
 | out=>cases hf
 | e2=>cases hf
 | e3=>cases hf
 | e7 v=>cases hf
 | inn=>cases hf
 | l3 u=>cases hf
 | e4 =>
   injection hf with e1 e2
   subst e1 e2
   refine⟨yb n (own L t (k+1))+(1-own L t k % 2),G (own L t (k+1)) (1-own L t k % 2),?_⟩
   by_cases e:G (own L t (k+1)) (1-own L t k % 2)=0
   · exact⟨.inn,rfl,hat _ (by omega),by dsimp only;rw [if_pos e];exact .inl ⟨rfl,.inr ⟨rfl,rfl⟩⟩,h.free ht hk (by rw [hx];rfl) e⟩
   · refine⟨.e5 _,rfl,hat _ (by omega),by dsimp only;rw [if_neg e];exact .inl ⟨rfl,.inl ⟨rfl,rfl,by simp⟩⟩,h.same ht hk (by rw [hx];simp) (by rw [hx];simp) (by simp) ?_ (fun _=>by rw [hx];rfl) (fun _=>by rw [hx];rfl) (fun _=>by rw [hx];rfl)⟩
     have:=h.side (own L t (k+1)) (1-own L t k % 2) (by omega)
     exact⟨by omega,this.2⟩
 | e5 v =>
   injection hf with e1 e2
   subst e1 e2
   have hv:1<=v/\v<=n:=by have:=h.fine t k ht;rw [hx] at this;exact this
   refine⟨yb n (own L t (k+1))+2,G (own L t (k+1)) 2,?_⟩
   by_cases e:G (own L t (k+1)) 2=(t:Int)+1
   · refine⟨.e6 v,rfl,hat 2 (by omega),?_,h.same ht hk (by rw [hx];simp) (by rw [hx];simp) (by simp) hv (fun _=>by rw [hx];rfl) (fun _=>by rw [hx];rfl) (fun _=>by rw [hx];rfl)⟩
     dsimp only;rw [if_pos ⟨e,hv⟩];exact .inl ⟨rfl,.inl ⟨rfl,rfl,by simp⟩⟩
   · refine⟨.inn,rfl,hat 2 (by omega),?_,h.passed ht hk (by rw [hx];rfl) e⟩
     dsimp only;rw [if_neg fun q=>e q.1];exact .inl ⟨rfl,.inr ⟨rfl,rfl⟩⟩
 | e6 v =>
   injection hf with e1 e2
   subst e1 e2
   have hv:1<=v/\v<=n:=by have:=h.fine t k ht;rw [hx] at this;exact this
   obtain⟨r,rfl⟩:∃ r:Nat,v=(r:Int)+1:=⟨(v-1).toNat,by omega⟩
   refine⟨yb n (own L t (k+1))+(3+r),G (own L t (k+1)) (3+r),?_⟩
   by_cases e:G (own L t (k+1)) (3+r)=0
   · refine⟨.e7 _,by unfold ycell;omega,hat _ (by omega),?_,h.same ht hk (by rw [hx];simp) (by rw [hx];simp) (by simp) hv (fun _=>by rw [hx];rfl) (fun _=>by rw [hx];rfl) (fun _=>by rw [hx];rfl)⟩
     dsimp only;rw [if_pos e];exact .inl ⟨rfl,.inl ⟨rfl,rfl,by simp⟩⟩
   · refine⟨.e8,by unfold ycell;omega,hat _ (by omega),?_,h.same ht hk (by rw [hx];simp) (by rw [hx];simp) (by simp) trivial (fun _=>by rw [hx];rfl) (fun _=>by rw [hx];rfl) (fun _=>by rw [hx];rfl)⟩
     dsimp only;rw [if_neg e];exact .inl ⟨rfl,.inl ⟨rfl,rfl,by simp⟩⟩
 | e8 =>
   injection hf with e1 e2
   subst e1 e2
   refine⟨yb n (own L t (k+1))+(3+t),G (own L t (k+1)) (3+t),?_⟩
   by_cases e:G (own L t (k+1)) (3+t)=0
   · refine⟨.e8,by unfold ycell;omega,hat _ (by omega),?_,h.same ht hk (by rw [hx];simp) (by rw [hx];simp) (by simp) trivial (fun _=>by rw [hx];rfl) (fun _=>by rw [hx];rfl) (fun _=>by rw [hx];rfl)⟩
     dsimp only;rw [if_pos e];exact .inl ⟨rfl,.inl ⟨rfl,rfl,by simp⟩⟩
   · refine⟨.e9,by unfold ycell;omega,hat _ (by omega),?_,h.same ht hk (by rw [hx];simp) (by rw [hx];simp) (by simp) trivial (fun _=>by rw [hx];rfl) (fun _=>by rw [hx];rfl) (fun _=>by rw [hx];rfl)⟩
     dsimp only;rw [if_neg e];exact .inl ⟨rfl,.inl ⟨rfl,rfl,by simp⟩⟩
 | e9 =>
   injection hf with e1 e2
   subst e1 e2
   refine⟨yb n (own L t (k+1))+2,G (own L t (k+1)) 2,?_⟩
   by_cases e:G (own L t (k+1)) 2=(t:Int)+1
   · refine⟨.e10,rfl,hat 2 (by omega),?_,h.same ht hk (by rw [hx];simp) (by rw [hx];simp) (by simp) trivial (fun _=>by rw [hx];rfl) (fun _=>by rw [hx];rfl) (fun _=>by rw [hx];rfl)⟩
     dsimp only;rw [if_pos e];exact .inl ⟨rfl,.inl ⟨rfl,rfl,by simp⟩⟩
   · refine⟨.inn,rfl,hat 2 (by omega),?_,h.passed ht hk (by rw [hx];rfl) e⟩
     dsimp only;rw [if_neg e];exact .inl ⟨rfl,.inr ⟨rfl,rfl⟩⟩
 | e10 =>
   injection hf with e1 e2
   subst e1 e2
   refine⟨yb n (own L t (k+1))+(3+t),G (own L t (k+1)) (3+t),?_⟩
   by_cases e:G (own L t (k+1)) (3+t)<=1
   · refine⟨.e10,by unfold ycell;omega,hat _ (by omega),?_,h.same ht hk (by rw [hx];simp) (by rw [hx];simp) (by simp) trivial (fun _=>by rw [hx];rfl) (fun _=>by rw [hx];rfl) (fun _=>by rw [hx];rfl)⟩
     dsimp only;rw [if_pos e];exact .inl ⟨rfl,.inl ⟨rfl,rfl,by simp⟩⟩
   · refine⟨.inn,by unfold ycell;omega,hat _ (by omega),?_,h.freed ht hk (by rw [hx];rfl) ?_⟩
     · dsimp only;rw [if_neg e];exact .inl ⟨rfl,.inr ⟨rfl,rfl⟩⟩
     · have:=h.two (own L t (k+1)) (3+t) (by omega)
       omega
 | l2 =>
   injection hf with e1 e2
   subst e1 e2
   refine⟨yb n (own L t (k+1))+2,G (own L t (k+1)) 2,?_⟩
   by_cases e:G (own L t (k+1)) 2≠(t:Int)+1/\1<=G (own L t (k+1)) 2/\G (own L t (k+1)) 2<=n
   · refine⟨.l3 _,rfl,hat 2 (by omega),?_,h.same ht hk (by rw [hx];simp) (by rw [hx];simp) (by simp) e.2 (fun q=>by cases q) (fun q=>by cases q) (fun q=>by cases q)⟩
     dsimp only;rw [if_pos e];exact .inr ⟨rfl,.inl ⟨rfl,rfl,by simp⟩⟩
   · refine⟨.out,rfl,hat 2 (by omega),?_,h.same ht hk (by rw [hx];simp) (by rw [hx];simp) (by simp) trivial (fun q=>by cases q) (fun q=>by cases q) (fun q=>by cases q)⟩
     dsimp only;rw [if_neg e];exact .inr ⟨rfl,.inr ⟨rfl,rfl⟩⟩
theorem YOk.wr (h:YOk L n s G)(hM:YCells L n M G)(hn:n<=2 ^ L){t k:Nat}{x:LPc}(ht:t<n)(hk:k<L)(hx:s t k=x)(hlo:x=.out->k=0∨s t (k-1)=.inn)(hhi:x=.inn->s t (k+1)=.out){c u:Int}{q:Option (Nat × LPc)}(hf:yask L n t (some (k,x))=.wr c u q) :
  ∃ (i:Nat) (b:LPc) (G':Nat->Nat->Int),c=(i:Int)/\i<M.length/\GoesTo L k x b q/\YOk L n (set3 s t k b) G'/\YCells L n (M.set i u) G':=by
 obtain⟨hX,hX2⟩:=own_node hk (show t<2 ^ L by omega)
 have hlt:=fun i hi=>hM.lt hX hX2 (i:=i) hi
 have hset:=fun i hi=>hM.set hX hX2 (i:=i) hi
 have hm2:own L t k % 2<2:=Nat.mod_lt _ (by decide)
 have g1:∀ r (v:Int),∀ X i,i<3->setG G (own L t (k+1)) (3+r) v X i=G X i:=fun r v X i hi=>setG_ne (by omega)
 have g2:∀ r (v:Int),v≠2->∀ X i,3<=i->setG G (own L t (k+1)) (3+r) v X i=2->G X i=2:=fun r v hv X i hi hq=>by
  by_cases e:X=own L t (k+1)/\i=3+r
  · obtain⟨rfl,rfl⟩:=e;rw [setG_self] at hq;exact absurd hq hv
  · rw [setG_ne e] at hq;exact hq
 have g3:∀ r (v:Int),v<=2->∀ X i,3<=i->setG G (own L t (k+1)) (3+r) v X i<=2:=fun r v hv X i hi=>by
  by_cases e:X=own L t (k+1)/\i=3+r
  · obtain⟨rfl,rfl⟩:=e;rw [setG_self];exact hv
  · rw [setG_ne e];exact h.two X i hi
 cases x with
 | e4=>cases hf
 | e5 v=>cases hf
 | e6 v=>cases hf
 | e8=>cases hf
 | e9=>cases hf
 | e10=>cases hf
 | l2=>cases hf
 | out =>
   injection hf with e1 e2 e3
   subst e1 e2 e3
   exact⟨_,.e2,_,rfl,hlt _ (by omega),.inl ⟨rfl,.inl ⟨rfl,rfl,by simp⟩⟩,h.comes hn ht hk hx (hlo rfl),hset _ (by omega) _⟩
 | e2 =>
   injection hf with e1 e2 e3
   subst e1 e2 e3
   exact⟨_,.e3,_,rfl,hlt 2 (by omega),.inl ⟨rfl,.inl ⟨rfl,rfl,by simp⟩⟩,h.lasts hn ht hk hx,hset 2 (by omega) _⟩
 | e3 =>
   injection hf with e1 e2 e3
   subst e1 e2 e3
   refine⟨yb n (own L t (k+1))+(3+t),.e4,setG G (own L t (k+1)) (3+t) 0,by unfold ycell;omega,hlt _ (by omega),.inl ⟨rfl,.inl ⟨rfl,rfl,by simp⟩⟩,?_,hset _ (by omega) _⟩
   exact h.quiet ht hk (by rw [hx];simp) (by rw [hx];simp) (by simp) trivial (fun _=>by rw [hx];rfl) (fun _=>by rw [hx];rfl) (fun _=>.inr (by rw [setG_self];decide)) (g1 t 0) (g2 t 0 (by decide)) (g3 t 0 (by decide))
 | e7 v =>
   injection hf with e1 e2 e3
   subst e1 e2 e3
   have hv:1<=v/\v<=n:=by have:=h.fine t k ht;rw [hx] at this;exact this
   obtain⟨r,rfl⟩:∃ r:Nat,v=(r:Int)+1:=⟨(v-1).toNat,by omega⟩
   refine⟨yb n (own L t (k+1))+(3+r),.e8,setG G (own L t (k+1)) (3+r) 1,by unfold ycell;omega,hlt _ (by omega),.inl ⟨rfl,.inl ⟨rfl,rfl,by simp⟩⟩,?_,hset _ (by omega) _⟩
   exact h.quiet ht hk (by rw [hx];simp) (by rw [hx];simp) (by simp) trivial (fun _=>by rw [hx];rfl) (fun _=>by rw [hx];rfl) (fun _=>.inl (by rw [hx];rfl)) (g1 r 1) (g2 r 1 (by decide)) (g3 r 1 (by decide))
 | inn =>
   injection hf with e1 e2 e3
   subst e1 e2 e3
   exact⟨_,.l2,_,rfl,hlt _ (by omega),.inr ⟨rfl,.inl ⟨rfl,rfl,by simp⟩⟩,h.leaves hn ht hk hx (hhi rfl),hset _ (by omega) _⟩
 | l3 v =>
   injection hf with e1 e2 e3
   subst e1 e2 e3
   have hv:1<=v/\v<=n:=by have:=h.fine t k ht;rw [hx] at this;exact this
   obtain⟨r,rfl⟩:∃ r:Nat,v=(r:Int)+1:=⟨(v-1).toNat,by omega⟩
   exact⟨yb n (own L t (k+1))+(3+r),.out,_,by unfold ycell;omega,hlt _ (by omega),.inr ⟨rfl,.inr ⟨rfl,rfl⟩⟩,h.frees hn ht hk hx,hset _ (by omega) _⟩
theorem lev_self (k:Nat)(x:LPc):lev (k,x) k=x:=by unfold lev;rw [if_neg (Nat.lt_irrefl _),if_pos rfl]
end
end Kv
namespace Go.Proofs.YtbphlkaihfbgeaaGreat
theorem put_pack:(∀ (a:Act) (d:Nat) (v:Value),a.put (some d) v={ a with tmps:=a.tmps.setIfInBounds d v })/\(∀ (a:Act) (v:Value),a.put none v=a)/\(∀ (l:List Value) (i:Nat) (v:Value),l.toArray.setIfInBounds i v=(l.set i v).toArray) /\
  (∀ (l:List Value) (x v:Value),(x :: l).set 0 v=v :: l)/\(∀ (l:List Value) (i:Nat) (x v:Value),(x :: l).set (i+1) v=x :: l.set i v) :=
 ⟨fun _ _ _=>rfl,fun _ _=>rfl,fun _ _ _=>List.setIfInBounds_toArray ..,fun _ _ _=>rfl,fun _ _ _ _=>rfl⟩
end Go.Proofs.YtbphlkaihfbgeaaGreat
namespace Go.Proofs.YtbphlkaihfbgeaaGreat
open Go.RowKit
def WpF (P:Program) (f:FuncId) (c:Code) (Q:Exit->Act->World->Prop) (a:Act) (w:World):Prop :=
 ∀ (b:Frame) (k:List Item) (cs:List Frame),b.roundOf=none->b.fn=f ->
  ∃ e a' w',Q e a' w'/\ArrivesIn (Machine.fenced P Fence.wide) P (lone (b.atR a (.code c :: k)) cs w) b k cs e a' w'
section
variable {P:Program} {f:FuncId} {Q:Exit->Act->World->Prop} {a:Act} {w:World}
theorem wpF_of_wp {c:Code}(h:c.wp P Q a w):WpF P f c Q a w:=fun b k cs hro _=>(wpIn_wide (n:=0)).2 h b k cs hro trivial (room_wide _)
theorem wpF_seq {x y:Code}(h:WpF P f x (Exit.then (fun a' w'=>WpF P f y Q a' w') Q) a w):WpF P f (Code.seq x y) Q a w:=by
 intro b k cs hro hb
 have h0:(lone (b.atR a (.code (.seq x y) :: k)) cs w).fenced P Fence.wide:=fenced_wide _ _
 obtain⟨e,a₁,w₁,hq,harr⟩:=h b (.code y :: k) cs hro hb
 cases e with
 | normal =>
   obtain⟨e₂,a₂,w₂,hq₂,harr₂⟩:=hq b k cs hro hb
   exact⟨e₂,a₂,w₂,hq₂,.of_steps (.head h0 stepR_seq harr) harr₂⟩
 | exit id=>exact⟨_,a₁,w₁,hq,.of_steps (.one h0 stepR_seq) (.pass (x:=.code y) rfl (fun _ _=>.inl (by simp)) harr)⟩
 | goto l=>exact⟨_,a₁,w₁,hq,.of_steps (.one h0 stepR_seq) (.pass (x:=.code y) rfl (fun _ _=>.inl (by simp)) harr)⟩
 | ret=>exact⟨_,a₁,w₁,hq,.of_steps (.one h0 stepR_seq) (.pass (x:=.code y) rfl (fun _ _=>.inl (by simp)) harr)⟩
 | panic ch=>exact⟨_,a₁,w₁,hq,.of_steps (.one h0 stepR_seq) (.pass (x:=.code y) rfl (fun _ _=>.inl (by simp)) harr)⟩
 | outgrown=>exact⟨_,a₁,w₁,hq,.of_steps (.one h0 stepR_seq) (.pass (x:=.code y) rfl (fun _ _=>.inl (by simp)) harr)⟩
theorem wpF_step {x y:Code}(h:∀ K:Act->World->Prop,(∀ a' w',WpF P f y Q a' w'->K a' w')->x.wp P (Exit.then K Q) a w):WpF P f (Code.seq x y) Q a w :=
 wpF_seq (wpF_of_wp (h _ fun _ _ h=>h))
theorem calls_of_wpF {fn:Func}{c:Code}{args:Array Value}{R:Ending->World->Prop}(hf:P.funcs[f]?=some fn)(hb:fn.body=some c)
  (h:WpF P f c (bodyPostM Fence.wide 0 P fn R) { tmps:=args++Array.replicate (fn.ntmps-args.size) undef,defers:=[] } w):Calls P f args w R:=by
 refine (callsIn_wide (n:=0)).1 ⟨trivial,fun cs hr=>?_⟩
 let b:Frame:={ (default:Frame) with fn:=f,kind:=.normal,roundOf:=none }
 have henter:Frame.enter P f args .normal =
   b.atR { tmps:=args++Array.replicate (fn.ntmps-args.size) undef,defers:=[] } [.code c]:=by
  simp [Frame.enter,Frame.atR,hf,hb,b]
 obtain⟨e,a',w',hq,harr⟩:=h b [] cs rfl rfl
 rw [<- henter] at harr
 have hF:Fence.wide.fn f:=trivial
 cases e with
 | normal =>
   obtain⟨e',w'',fr',hR,hs,hfn,hl⟩:=leaves_stepsInM a'.defers .returning w' { b.atR a' [] with mode:=.returning } cs rfl rfl rfl hf rfl hF hr hq
   exact⟨e',w'',fr',hR,ComesIn.of_steps (StepsIn.trans harr (.one (fenced_wide _ _) (stepR_end rfl))) hs,hfn,hl⟩
 | ret =>
   obtain⟨todo,hs₀⟩:=harr.1 rfl
   obtain⟨e',w'',fr',hR,hs,hfn,hl⟩:=leaves_stepsInM a'.defers .returning w' { b.atR a' todo with mode:=.returning } cs rfl rfl rfl hf rfl hF hr hq
   exact⟨e',w'',fr',hR,ComesIn.of_steps hs₀ hs,hfn,hl⟩
 | panic chain =>
   obtain⟨todo,hs₀⟩:=harr
   obtain⟨e',w'',fr',hR,hs,hfn,hl⟩:=leaves_stepsInM a'.defers (.panicking chain) w' { b.atR a' todo with mode:=.panicking chain } cs rfl rfl rfl hf rfl hF hr hq
   exact⟨e',w'',fr',hR,ComesIn.of_steps hs₀ hs,hfn,hl⟩
 | exit id=>exact hq.elim
 | goto l=>exact hq.elim
 | outgrown=>exact⟨.outgrown,w',b,hq,harr.resolve_left (by simp [b]),rfl,trivial⟩
def roundPostP (P:Program) (l:Nat) (R:Ending->World->Prop):Exit->Act->World->Prop
 | .normal,_,w=>∃ v w',(Instr.endRound l none).run P w=.ok v w'/\R (.returned v) w'
 | .panic ch,a,w=>a.defers=[]/\R (.panicked ch) w
 | _,_,_=>False
theorem roundIn_p {l:Nat}{fn:Func}{tmps:Array Value}{assign body:Code}{R:Ending->World->Prop}(hf:P.funcs[f]?=some fn)
  (h:assign.wpIn (Fence.wide.inRound l) 0 P (Exit.then (fun a₁ w₁=>∃ w₂,(Instr.beginRound l).run P w₁=.ok () w₂/\body.wpIn (Fence.wide.inRound l) 0 P (roundPostP P l R) a₁ w₂) (fun _ _ _=>False))
    { tmps:=tmps,defers:=[] } w) :
  RoundIn Fence.wide 0 P l f tmps assign body w R:=by
 refine⟨trivial,fun c cs hr=>?_⟩
 let b:Frame:={ (default:Frame) with fn:=f,kind:=.normal,roundOf:=some l }
 have hb0:Frame.round l f tmps assign body .normal=b.atR { tmps:=tmps,defers:=[] } [.code assign,.beginRound,.code body]:=by
  simp [Frame.round,Frame.atR,b]
 have hF':(Fence.wide.inRound l).fn b.fn:=trivial
 obtain⟨e,a₁,w₁,hq,harr⟩:=h b [.beginRound,.code body] (c :: cs) rfl hF' hr
 rw [<- hb0] at harr
 cases e with
 | normal =>
   obtain⟨w₂,hbr,hbody⟩:=hq
   have s1:StepsIn (Machine.fenced P (Fence.wide.inRound l)) P (lone (b.atR a₁ [.beginRound,.code body]) (c :: cs) w₁) (lone (b.atR a₁ [.code body]) (c :: cs) w₂) :=
    .one (fenced_wide _ _) (stepR_beginRound rfl hbr)
   obtain⟨e₂,a₂,w₃,hq₂,harr₂⟩:=hbody b [] (c :: cs) rfl hF' hr
   cases e₂ with
   | normal =>
     obtain⟨v,w₄,hend,hR⟩:=hq₂
     exact⟨.returned v,w₄,hR,(StepsIn.trans harr s1).trans (StepsIn.trans harr₂ (.one (fenced_wide _ _) (stepR_round_end rfl rfl hend)))⟩
   | panic chain =>
     obtain⟨hd,hR⟩:=hq₂
     obtain⟨todo,hs⟩:=harr₂
     exact⟨.panicked chain,w₃,hR,(StepsIn.trans harr s1).trans (StepsIn.trans hs (.one (fenced_wide _ _) (step_leave_panicked ⟨rfl,hd,fn,hf⟩)))⟩
   | ret=>exact hq₂.elim
   | exit id=>exact hq₂.elim
   | goto t=>exact hq₂.elim
   | outgrown=>exact hq₂.elim
 | exit id=>exact hq.elim
 | goto t=>exact hq.elim
 | ret=>exact hq.elim
 | panic chain=>exact hq.elim
 | outgrown=>exact hq.elim
def rangePostF (P:Program) (l:Nat) (Q:Exit->Act->World->Prop) (a':Act):Ending->World->Prop
 | .returned _,w₃=>∃ w₄,(Instr.endLoop l).run P w₃=.ok none w₄/\Q .normal a' w₄
 | .panicked chain,w₃=>Q (.panic chain) a' w₃
 | .outgrown,_=>LetsOut Q
theorem wpF_range {g:Operand}{ps:Array Tmp}{assign body:Code}
  (h:∃ (l:Nat) (mark:List Deferred) (w₁:World) (d:Deferred) (w₁':World) (f':FuncId) (args:Array Value) (w₂:World),
    (Instr.enterLoop f a.tmps ps assign body none).run P w=.ok (l,mark) w₁ /\
    (resolve a.eval (rangeCall g l) 0).run P w₁=.ok d w₁' /\
    (invoke d.target d.args).run P w₁'=.ok (.enter f' args) w₂ /\
    CallsIn Fence.wide 0 P f' args w₂ (rangePostF P l Q { a with defers:=mark++a.defers })) :
  WpF P f (Code.rangeFunc g ps assign body) Q a w:=by
 intro b k cs hro hb
 obtain⟨l,mark,w₁,d,w₁',f',args,w₂,he,hres,hinv,hF,hcall⟩:=h
 rw [<- hro,<- hb] at he
 have henter:=stepR_rangeFunc (P:=P) (b:=b) (a:=a) (k:=k) (cs:=cs) (w:=w) he hres hinv
 obtain⟨e,w₃,fr,hR,hsteps,hfn,hleave⟩:=hcall (b.atR { a with defers:=mark++a.defers } (.inRangeFunc l :: k) :: cs) (room_wide _)
 cases e with
 | outgrown =>
   obtain⟨a₀,w₀,hq⟩:=hR
   exact⟨.outgrown,a₀,w₀,hq,.inr (Outgrown.of_steps (.one henter) hsteps)⟩
 | returned v =>
   obtain⟨w₄,hend,hj⟩:=hR
   refine⟨.normal,_,w₄,hj,.head (fenced_wide _ _) henter (StepsIn.trans hsteps (.head (fenced_wide _ _) ?_ (.one (fenced_wide _ _) (stepR_endRangeFunc hend))))⟩
   rw [<- finish_atR_inRangeFunc l v];exact step_leave_returned hleave
 | panicked chain =>
   refine⟨.panic chain,_,w₃,hR,.inRangeFunc l :: k,.head (fenced_wide _ _) henter (StepsIn.trans hsteps (.one (fenced_wide _ _) ?_))⟩
   rw [<- Frame.raise_atR];exact step_leave_panicked hleave
end
end Go.Proofs.YtbphlkaihfbgeaaGreat
namespace Kv
open Go Go.RowKit
structure Reg where
 kind:Int
 base:Int
 loc:Int
 n:Int
 wr:Int
 rd:Int
 top:Int
def bitM (v:Int):Int:=if v=0 then 0 else 1
def otherM (v:Int):Int:=if v=0 then 1 else 0
def trompW (b l v:Int):Prog Unit :=
 (gt l).bind fun x=>if x=bitM v then .ret () else
   (wr b (bitM v)).bind fun _=>(st l (bitM v)).bind fun _=>(gt (l+1)).bind fun w=>(rd (b+2)).bind fun y =>
     if y=w then (wr (b+1) (wrap64 (1-w))).bind fun _=>st (l+1) (wrap64 (1-w)) else .ret ()
def trompR3 (b l x:Int):Prog Int :=
 (rd b).bind fun y=>(st (l+3) y).bind fun _=>(rd (b+1)).bind fun y=>(gt (l+2)).bind fun g =>
   if y=g then gt (l+3) else (rd b).bind fun y=>(st (l+3) y).bind fun _=>.ret x
def trompR2 (b l x:Int):Prog Int :=
 (rd (b+1)).bind fun y=>(gt (l+2)).bind fun g=>if y=g then trompR3 b l x else
   (gt (l+2)).bind fun t=>(wr (b+2) (wrap64 (1-t))).bind fun _=>(st (l+2) (wrap64 (1-t))).bind fun _=>trompR3 b l x
def trompR (b l:Int):Prog Int :=
 (rd (b+1)).bind fun y=>(gt (l+2)).bind fun g=>if y=g then gt (l+3) else (rd b).bind fun x=>trompR2 b l x
def slotsW (b l v:Int):Prog Unit :=
 (trompR (b+13) (l+14)).bind fun y=>(gt (l+otherM y)).bind fun z=>(wr (b+(2*otherM y+otherM z)) v).bind fun _ =>
   (st (l+otherM y) (otherM z)).bind fun _=>(trompW (b+(4+3*otherM y)) (l+(2+4*otherM y)) (otherM z)).bind fun _=>trompW (b+10) (l+10) (otherM y)
def slotsR (b l:Int):Prog Int :=
 (trompR (b+10) (l+10)).bind fun y=>(trompW (b+13) (l+14) (bitM y)).bind fun _ =>
   (trompR (b+(4+3*bitM y)) (l+(2+4*bitM y))).bind fun z=>rd (b+(2*bitM y+bitM z))
def forP {σ:Type} (T:Int->σ->Prog σ):List Int->σ->Prog σ
 | [],x=>.ret x
 | a :: l,x=>(T a x).bind fun y=>forP T l y
def ranksFrom (but:Int):Nat->Int->List Int
 | 0,_=>[]
 | n+1,i=>if i=but then ranksFrom but n (i+1) else i :: ranksFrom but n (i+1)
def tableW (b l n wr top me v:Int):Prog Unit :=
 if me≠wr then .ret () else (gt l).bind fun s=>(st l (wrap64 (s+1))).bind fun _ =>
  (forP (fun a _=>slotsW (b+16*a) (l+(2+18*a)) (packI (wrap64 (s+1)) v (clamp top 1048576))) (ranksFrom (-1) (n-1).toNat 0) ()).bind fun _=>st (l+1) (clamp v (clamp top 1048576))
def tellsM (k a b:Int):Int:=k+a*(k-1)+(if b > a then b-1 else b)
def rankM (w me:Int):Int:=if me > w then me-1 else me
def tableR (b l n wr top me:Int):Prog Int :=
 if me=wr then gt (l+1) else
  (slotsR (b+16*rankM wr me) (l+(2+18*rankM wr me))).bind fun x =>
    (forP (fun i x=>(slotsR (b+16*tellsM (n-1) i (rankM wr me)) (l+(2+18*tellsM (n-1) i (rankM wr me)))).bind fun y=>.ret (max x y)) (ranksFrom (rankM wr me) (n-1).toNat 0) x).bind fun x =>
    (forP (fun i _=>slotsW (b+16*tellsM (n-1) (rankM wr me) i) (l+(2+18*tellsM (n-1) (rankM wr me) i)) x) (ranksFrom (rankM wr me) (n-1).toNat 0) ()).bind fun _=>.ret (unLo x (clamp top 1048576))
def manyTop (top:Int):Int:=packI 4095 (clamp top 255) (clamp top 255)
def manyB (b n j:Int):Int:=b+16*j*(n-1)*(n-1)
def manyL (l n j:Int):Int:=l+j*(2+18*(n-1)*(n-1))
def manyRs (b l n top me:Int):Nat->Int->Int->Int->Prog (Int × Int)
 | 0,_,s,v=>.ret (s,v)
 | k+1,j,s,v=>(tableR (manyB b n j) (manyL l n j) n j (manyTop top) me).bind fun y =>
    if s<=unHi y (clamp top 255) then manyRs b l n top me k (j+1) (unHi y (clamp top 255)) (unLo y (clamp top 255)) else manyRs b l n top me k (j+1) s v
def manyR (b l n top me:Int):Prog Int:=(manyRs b l n top me n.toNat 0 0 0).bind fun p=>.ret p.2
def manyW (b l n top me v:Int):Prog Unit :=
 (manyRs b l n top me n.toNat 0 0 0).bind fun p=>tableW (manyB b n me) (manyL l n me) n me (manyTop top) me (packI (min (p.1+1) 4095) (clamp v (clamp top 255)) (clamp top 255))
def regW (r:Reg) (me v:Int):Prog Unit:=if r.kind=1 then wr r.base v else if r.kind=6 then tableW r.base r.loc r.n r.wr r.top me v else manyW r.base r.loc r.n r.top me v
def regR (r:Reg) (me:Int):Prog Int:=if r.kind=1 then rd r.base else if r.kind=6 then tableR r.base r.loc r.n r.wr r.top me else manyR r.base r.loc r.n r.top me
structure Reg.ok (r:Reg):Prop where
 kind:r.kind=1∨r.kind=6∨r.kind=7
 base:0<=r.base/\r.base<=32768
 loc:0<=r.loc/\r.loc<=32768
 n:1<=r.n/\r.n<=8
 wr:r.kind=6->0<=r.wr/\r.wr<r.n
end Kv
namespace Go.Proofs.YtbphlkaihfbgeaaGreat
open Go.RowKit Kv
def encR (r:Reg):Value:=.agg #[.int .i64 r.kind,.int .i64 r.base,.int .i64 r.loc,.int .i64 r.n,.int .i64 r.wr,.int .i64 r.rd,.int .i64 r.top]
theorem tromp_write_p (B p:Nat)(S:TS)(r:Reg)(v:Int)(w:World)(h:Plays B w p S)(hb1:0<=r.base)(hb2:r.base<=60000)(hl1:0<=r.loc)(hl2:r.loc<=60000) :
  Calls Tryz.prog 74 #[.pointer (some ⟨p,0,none⟩),encR r,.int .i64 v] w (Post encU B p w ((trompW r.base r.loc v).run S)):=by
 generalize hR:Post encU B p w ((trompW r.base r.loc v).run S)=R
 have hO:Owes R encU B p w ((trompW r.base r.loc v).run S):=hR▸owes _ _ _ _ _
 clear hR
 obtain⟨kind,base,loc,n,wr,rd,top⟩:=r
 simp only at hb1 hb2 hl1 hl2 hO
 unfold encR
 obtain⟨b1,hK,hP⟩:=h.entry (.cells #[.int .i64 kind,.int .i64 base,.int .i64 loc,.int .i64 n,.int .i64 wr,.int .i64 rd,.int .i64 top] 87)
 have c_b1:=b1.cells
 clear h
 have hv:bitM v=0∨bitM v=1:=by unfold bitM;split <;> simp
 have hvb:(v != 0)=decide (bitM v=1):=by unfold bitM;by_cases hv:v=0 <;> simp [hv]
 unfold trompW at hO
 generalize bitM v=b at *
 rcases hv with rfl | rfl
 · go_enter Tryz.func74,Tryz.ntmps74
   go_wp2_with fail
   refine (get_p B p S (loc) _ hP).mono ?_
   rintro e w' ⟨rfl,rfl⟩
   rw [run_gt] at hO
   generalize S.got (loc)=x at hO ⊢
   by_cases hx:x=0
   · rw [if_pos hx] at hO
     subst hx
     go_wp2_with fail
     first | go_end0 | refine bodyPost_ret (results_none rfl _ _ _) rfl ?_
     exact hO.done hP hK
   · rw [if_neg hx] at hO
     have hx2:(x==0)=false:=by rw [beq_eq_false_iff_ne];exact hx
     go_wp2_with fail
     refine tstep hO hK (write_p B p S _ _ _ hP) (fun _ h=>⟨rfl,h⟩) ?_
     clear hO hK hP c_b1
     intro u S w1 hr hP hk hK hO
     replace b1:=b1.keep hk
     have c_b1:=b1.cells
     clear hk hr
     go_wp2_with fail
     refine tstep hO hK (setO hP) (fun _ h=>⟨rfl,h⟩) ?_
     clear hO hK hP c_b1
     intro u S w1 hr hP hk hK hO
     replace b1:=b1.keep hk
     have c_b1:=b1.cells
     clear hk hr
     go_wp2_with fail
     refine (get_p B p S (loc+1) _ hP).mono ?_
     rintro e w' ⟨rfl,rfl⟩
     rw [run_gt] at hO
     generalize S.got (loc+1)=z at hO ⊢
     go_wp2_with fail
     refine tstep hO hK (read_p B p S _ _ hP) (fun _ h=>⟨rfl,h⟩) ?_
     clear hO hK hP c_b1
     intro y S w1 hr hP hk hK hO
     replace b1:=b1.keep hk
     have c_b1:=b1.cells
     clear hk hr
     by_cases hy:y=z
     · rw [if_pos hy] at hO
       subst hy
       go_wp2_with fail
       refine tstep hO hK (write_p B p S _ _ _ hP) (fun _ h=>⟨rfl,h⟩) ?_
       clear hO hK hP c_b1
       intro u S w1 hr hP hk hK hO
       replace b1:=b1.keep hk
       have c_b1:=b1.cells
       clear hk hr
       go_wp2_with fail
       refine tlast hO hK (setO hP) (fun _ h=>⟨rfl,h⟩) ?_
       clear hO hK hP c_b1
       intro u S w1 hr hP hk hK hO
       replace b1:=b1.keep hk
       have c_b1:=b1.cells
       clear hk hr
       go_wp2_with fail
       first | go_end0 | refine bodyPost_ret (results_none rfl _ _ _) rfl ?_
       exact hO.done hP hK
     · rw [if_neg hy] at hO
       have hy2:(y==z)=false:=by rw [beq_eq_false_iff_ne];exact hy
       go_wp2_with fail
       first | go_end0 | refine bodyPost_ret (results_none rfl _ _ _) rfl ?_
       exact hO.done hP hK
 · go_enter Tryz.func74,Tryz.ntmps74
   go_wp2_with fail
   refine (get_p B p S (loc) _ hP).mono ?_
   rintro e w' ⟨rfl,rfl⟩
   rw [run_gt] at hO
   generalize S.got (loc)=x at hO ⊢
   by_cases hx:x=1
   · rw [if_pos hx] at hO
     subst hx
     go_wp2_with fail
     first | go_end0 | refine bodyPost_ret (results_none rfl _ _ _) rfl ?_
     exact hO.done hP hK
   · rw [if_neg hx] at hO
     have hx2:(x==1)=false:=by rw [beq_eq_false_iff_ne];exact hx
     go_wp2_with fail
     refine tstep hO hK (write_p B p S _ _ _ hP) (fun _ h=>⟨rfl,h⟩) ?_
     clear hO hK hP c_b1
     intro u S w1 hr hP hk hK hO
     replace b1:=b1.keep hk
     have c_b1:=b1.cells
     clear hk hr
     go_wp2_with fail
     refine tstep hO hK (setO hP) (fun _ h=>⟨rfl,h⟩) ?_
     clear hO hK hP c_b1
     intro u S w1 hr hP hk hK hO
     replace b1:=b1.keep hk
     have c_b1:=b1.cells
     clear hk hr
     go_wp2_with fail
     refine (get_p B p S (loc+1) _ hP).mono ?_
     rintro e w' ⟨rfl,rfl⟩
     rw [run_gt] at hO
     generalize S.got (loc+1)=z at hO ⊢
     go_wp2_with fail
     refine tstep hO hK (read_p B p S _ _ hP) (fun _ h=>⟨rfl,h⟩) ?_
     clear hO hK hP c_b1
     intro y S w1 hr hP hk hK hO
     replace b1:=b1.keep hk
     have c_b1:=b1.cells
     clear hk hr
     by_cases hy:y=z
     · rw [if_pos hy] at hO
       subst hy
       go_wp2_with fail
       refine tstep hO hK (write_p B p S _ _ _ hP) (fun _ h=>⟨rfl,h⟩) ?_
       clear hO hK hP c_b1
       intro u S w1 hr hP hk hK hO
       replace b1:=b1.keep hk
       have c_b1:=b1.cells
       clear hk hr
       go_wp2_with fail
       refine tlast hO hK (setO hP) (fun _ h=>⟨rfl,h⟩) ?_
       clear hO hK hP c_b1
       intro u S w1 hr hP hk hK hO
       replace b1:=b1.keep hk
       have c_b1:=b1.cells
       clear hk hr
       go_wp2_with fail
       first | go_end0 | refine bodyPost_ret (results_none rfl _ _ _) rfl ?_
       exact hO.done hP hK
     · rw [if_neg hy] at hO
       have hy2:(y==z)=false:=by rw [beq_eq_false_iff_ne];exact hy
       go_wp2_with fail
       first | go_end0 | refine bodyPost_ret (results_none rfl _ _ _) rfl ?_
       exact hO.done hP hK
set_option maxHeartbeats 2000000 in
theorem tromp_read_p (B p:Nat)(S:TS)(r:Reg)(w:World)(h:Plays B w p S)(hb1:0<=r.base)(hb2:r.base<=60000)(hl1:0<=r.loc)(hl2:r.loc<=60000) :
  Calls Tryz.prog 81 #[.pointer (some ⟨p,0,none⟩),encR r] w (Post encI B p w ((trompR r.base r.loc).run S)):=by
 generalize hR:Post encI B p w ((trompR r.base r.loc).run S)=R
 have hO:Owes R encI B p w ((trompR r.base r.loc).run S):=hR▸owes _ _ _ _ _
 clear hR
 obtain⟨kind,base,loc,n,wr,rd,top⟩:=r
 simp only at hb1 hb2 hl1 hl2 hO
 unfold encR
 obtain⟨b1,hK,hP⟩:=h.entry (.cells #[.int .i64 kind,.int .i64 base,.int .i64 loc,.int .i64 n,.int .i64 wr,.int .i64 rd,.int .i64 top] 87)
 have c_b1:=b1.cells
 clear h
 unfold trompR at hO
 go_enter Tryz.func81,Tryz.ntmps81
 go_wp2_with fail
 refine wp_scope_fwd 0 rfl ?_
 go_wp2_with fail
 have hwb:=IntWalk.i64_in (base+1) (by omega)
 have hwv:=IntWalk.i64_in (loc+3) (by omega)
 have hw0:=IntWalk.i64_in base (by omega)
 have hwl:=IntWalk.i64_in (loc+2) (by omega)
 replace hP:=hP.drew
 replace hK:=hK.drew
 replace b1:=b1.drew
 go_region_held2 (fun w'=>w'.cell? ⟨w.heap.size,1,none⟩=some (.int .i64 base)/\w'.cell? ⟨w.heap.size,2,none⟩=some (.int .i64 loc)) (first | go_keep | exact⟨c_b1 1,c_b1 2⟩)
  (first
    | (go_at_call 78
       refine tstep hO hK (read_p B p S _ _ hP) (fun _ h=>⟨rfl,h⟩) ?_
       clear hO hK hP c_b1
       intro y S w1 hr hP hk hK hO
       replace b1:=b1.keep hk
       have c_b1:=b1.cells
       clear hk hr)
    | (go_at_call 107
       refine (get_p B p S (loc+2) _ hP).mono ?_
       rintro e w' ⟨rfl,rfl⟩
       rw [run_gt] at hO
       generalize S.got (loc+2)=g at hO ⊢))
 by_cases hy:y=g
 · rw [if_pos hy] at hO
   subst hy
   go_wp2_with fail
   refine (get_p B p S (loc+3) _ hP).mono ?_
   rintro e w' ⟨rfl,rfl⟩
   rw [run_gt1] at hO
   generalize S.got (loc+3)=z at hO ⊢
   go_wp2_with fail
   apply wp_goto
   refine⟨rfl,?_⟩
   go_wp2_with fail
   exact hO.done hP hK
 · rw [if_neg hy] at hO
   have hy2:(y==g)=false:=by rw [beq_eq_false_iff_ne];exact hy
   go_wp2_with fail
   refine tstep hO hK (read_p B p S _ _ hP) (fun _ h=>⟨rfl,h⟩) ?_
   clear hO hK hP c_b1
   intro x S w1 hr hP hk hK hO
   replace b1:=b1.keep hk
   have c_b1:=b1.cells
   clear hk hr
   unfold trompR2 at hO
   clear hy2 hy
   go_wp2_with fail
   replace hP:=hP.drew
   replace hK:=hK.drew
   replace b1:=b1.drew
   go_region_held2 (fun w'=>w'.cell? ⟨w.heap.size,1,none⟩=some (.int .i64 base)/\w'.cell? ⟨w.heap.size,2,none⟩=some (.int .i64 loc)) (first | go_keep | exact⟨c_b1 1,c_b1 2⟩)
    (first
      | (go_at_call 78
         refine tstep hO hK (read_p B p S _ _ hP) (fun _ h=>⟨rfl,h⟩) ?_
         clear hO hK hP c_b1
         intro y S w1 hr hP hk hK hO
         replace b1:=b1.keep hk
         have c_b1:=b1.cells
         clear hk hr)
      | (go_at_call 107
         refine (get_p B p S (loc+2) _ hP).mono ?_
         rintro e w' ⟨rfl,rfl⟩
         rw [run_gt] at hO
         generalize S.got (loc+2)=g at hO ⊢))
   by_cases hy:y=g
   · rw [if_pos hy] at hO
     subst hy
     go_wp2_with fail
     unfold trompR3 at hO
     replace hP:=hP.drew
     replace hK:=hK.drew
     replace b1:=b1.drew
     go_region_held2 (fun w'=>w'.cell? ⟨w.heap.size,1,none⟩=some (.int .i64 base)/\w'.cell? ⟨w.heap.size,2,none⟩=some (.int .i64 loc)) (first | go_keep | exact⟨c_b1 1,c_b1 2⟩)
      (first
        | (go_at_call 78
           refine tstep hO hK (read_p B p S _ _ hP) (fun _ h=>⟨rfl,h⟩) ?_
           clear hO hK hP c_b1
           intro y S w1 hr hP hk hK hO
           replace b1:=b1.keep hk
           have c_b1:=b1.cells
           clear hk hr)
        | (go_at_call 108
           refine tstep hO hK (setO hP) (fun _ h=>⟨rfl,h⟩) ?_
           clear hO hK hP c_b1
           intro u S w1 hr hP hk hK hO
           replace b1:=b1.keep hk
           have c_b1:=b1.cells
           clear hk hr))
     go_wp2_with fail
     replace hP:=hP.drew
     replace hK:=hK.drew
     replace b1:=b1.drew
     go_region_held2 (fun w'=>w'.cell? ⟨w.heap.size,1,none⟩=some (.int .i64 base)/\w'.cell? ⟨w.heap.size,2,none⟩=some (.int .i64 loc)) (first | go_keep | exact⟨c_b1 1,c_b1 2⟩)
      (first
        | (go_at_call 78
           refine tstep hO hK (read_p B p S _ _ hP) (fun _ h=>⟨rfl,h⟩) ?_
           clear hO hK hP c_b1
           intro y S w1 hr hP hk hK hO
           replace b1:=b1.keep hk
           have c_b1:=b1.cells
           clear hk hr)
        | (go_at_call 107
           refine (get_p B p S (loc+2) _ hP).mono ?_
           rintro e w' ⟨rfl,rfl⟩
           rw [run_gt] at hO
           generalize S.got (loc+2)=g at hO ⊢))
     by_cases hy:y=g
     · rw [if_pos hy] at hO
       subst hy
       go_wp2_with fail
       refine (get_p B p S (loc+3) _ hP).mono ?_
       rintro e w' ⟨rfl,rfl⟩
       rw [run_gt1] at hO
       generalize S.got (loc+3)=z at hO ⊢
       go_wp2_with fail
       apply wp_goto
       refine⟨rfl,?_⟩
       go_wp2_with fail
       exact hO.done hP hK
     · rw [if_neg hy] at hO
       have hy2:(y==g)=false:=by rw [beq_eq_false_iff_ne];exact hy
       go_wp2_with fail
       replace hP:=hP.drew
       replace hK:=hK.drew
       replace b1:=b1.drew
       go_region_held2 (fun w'=>w'.cell? ⟨w.heap.size,1,none⟩=some (.int .i64 base)/\w'.cell? ⟨w.heap.size,2,none⟩=some (.int .i64 loc)) (first | go_keep | exact⟨c_b1 1,c_b1 2⟩)
        (first
          | (go_at_call 78
             refine tstep hO hK (read_p B p S _ _ hP) (fun _ h=>⟨rfl,h⟩) ?_
             clear hO hK hP c_b1
             intro y S w1 hr hP hk hK hO
             replace b1:=b1.keep hk
             have c_b1:=b1.cells
             clear hk hr)
          | (go_at_call 108
             refine tstep hO hK (setO hP) (fun _ h=>⟨rfl,h⟩) ?_
             clear hO hK hP c_b1
             intro u S w1 hr hP hk hK hO
             replace b1:=b1.keep hk
             have c_b1:=b1.cells
             clear hk hr))
       go_wp2_with fail
       apply wp_goto
       refine⟨rfl,?_⟩
       go_wp2_with fail
       exact hO.done hP hK
   · rw [if_neg hy] at hO
     have hy2:(y==g)=false:=by rw [beq_eq_false_iff_ne];exact hy
     go_wp2_with fail
     refine (get_p B p S (loc+2) _ hP).mono ?_
     rintro e w' ⟨rfl,rfl⟩
     rw [run_gt] at hO
     generalize S.got (loc+2)=t at hO ⊢
     go_wp2_with fail
     refine tstep hO hK (write_p B p S _ _ _ hP) (fun _ h=>⟨rfl,h⟩) ?_
     clear hO hK hP c_b1
     intro u S w1 hr hP hk hK hO
     replace b1:=b1.keep hk
     have c_b1:=b1.cells
     clear hk hr
     go_wp2_with fail
     refine tstep hO hK (setO hP) (fun _ h=>⟨rfl,h⟩) ?_
     clear hO hK hP c_b1
     intro u S w1 hr hP hk hK hO
     replace b1:=b1.keep hk
     have c_b1:=b1.cells
     clear hk hr
     clear hy2 hy
     go_wp2_with fail
     unfold trompR3 at hO
     replace hP:=hP.drew
     replace hK:=hK.drew
     replace b1:=b1.drew
     go_region_held2 (fun w'=>w'.cell? ⟨w.heap.size,1,none⟩=some (.int .i64 base)/\w'.cell? ⟨w.heap.size,2,none⟩=some (.int .i64 loc)) (first | go_keep | exact⟨c_b1 1,c_b1 2⟩)
      (first
        | (go_at_call 78
           refine tstep hO hK (read_p B p S _ _ hP) (fun _ h=>⟨rfl,h⟩) ?_
           clear hO hK hP c_b1
           intro y S w1 hr hP hk hK hO
           replace b1:=b1.keep hk
           have c_b1:=b1.cells
           clear hk hr)
        | (go_at_call 108
           refine tstep hO hK (setO hP) (fun _ h=>⟨rfl,h⟩) ?_
           clear hO hK hP c_b1
           intro u S w1 hr hP hk hK hO
           replace b1:=b1.keep hk
           have c_b1:=b1.cells
           clear hk hr))
     go_wp2_with fail
     replace hP:=hP.drew
     replace hK:=hK.drew
     replace b1:=b1.drew
     go_region_held2 (fun w'=>w'.cell? ⟨w.heap.size,1,none⟩=some (.int .i64 base)/\w'.cell? ⟨w.heap.size,2,none⟩=some (.int .i64 loc)) (first | go_keep | exact⟨c_b1 1,c_b1 2⟩)
      (first
        | (go_at_call 78
           refine tstep hO hK (read_p B p S _ _ hP) (fun _ h=>⟨rfl,h⟩) ?_
           clear hO hK hP c_b1
           intro y S w1 hr hP hk hK hO
           replace b1:=b1.keep hk
           have c_b1:=b1.cells
           clear hk hr)
        | (go_at_call 107
           refine (get_p B p S (loc+2) _ hP).mono ?_
           rintro e w' ⟨rfl,rfl⟩
           rw [run_gt] at hO
           generalize S.got (loc+2)=g at hO ⊢))
     by_cases hy:y=g
     · rw [if_pos hy] at hO
       subst hy
       go_wp2_with fail
       refine (get_p B p S (loc+3) _ hP).mono ?_
       rintro e w' ⟨rfl,rfl⟩
       rw [run_gt1] at hO
       generalize S.got (loc+3)=z at hO ⊢
       go_wp2_with fail
       apply wp_goto
       refine⟨rfl,?_⟩
       go_wp2_with fail
       exact hO.done hP hK
     · rw [if_neg hy] at hO
       have hy2:(y==g)=false:=by rw [beq_eq_false_iff_ne];exact hy
       go_wp2_with fail
       replace hP:=hP.drew
       replace hK:=hK.drew
       replace b1:=b1.drew
       go_region_held2 (fun w'=>w'.cell? ⟨w.heap.size,1,none⟩=some (.int .i64 base)/\w'.cell? ⟨w.heap.size,2,none⟩=some (.int .i64 loc)) (first | go_keep | exact⟨c_b1 1,c_b1 2⟩)
        (first
          | (go_at_call 78
             refine tstep hO hK (read_p B p S _ _ hP) (fun _ h=>⟨rfl,h⟩) ?_
             clear hO hK hP c_b1
             intro y S w1 hr hP hk hK hO
             replace b1:=b1.keep hk
             have c_b1:=b1.cells
             clear hk hr)
          | (go_at_call 108
             refine tstep hO hK (setO hP) (fun _ h=>⟨rfl,h⟩) ?_
             clear hO hK hP c_b1
             intro u S w1 hr hP hk hK hO
             replace b1:=b1.keep hk
             have c_b1:=b1.cells
             clear hk hr))
       go_wp2_with fail
       apply wp_goto
       refine⟨rfl,?_⟩
       go_wp2_with fail
       exact hO.done hP hK
theorem other_p (b:Int)(w:World):Calls Tryz.prog 111 #[.int .i64 b] w fun e w'=>e=.returned (.int .i64 (otherM b))/\w=w':=by
 unfold otherM
 by_cases hb:b=0
 · subst hb
   go_enter Tryz.func111,Tryz.ntmps111
   go_wp2_with fail
   go_ret
   exact⟨rfl,rfl⟩
 · have hb2:(b==0)=false:=by rw [beq_eq_false_iff_ne];exact hb
   rw [if_neg hb]
   go_enter Tryz.func111,Tryz.ntmps111
   go_wp2_with fail
   go_ret
   exact⟨rfl,rfl⟩
theorem same_p (b:Int)(w:World):Calls Tryz.prog 125 #[.int .i64 b] w fun e w'=>e=.returned (.int .i64 (bitM b))/\w=w':=by
 have h:=other_p b
 unfold otherM at h
 unfold bitM
 by_cases hb:b=0
 · subst hb
   rw [if_pos rfl] at h
   rw [if_pos rfl]
   go_enter Tryz.func125,Tryz.ntmps125
   go_wp2_with fail
   refine (h _).mono ?_
   rintro e w' ⟨rfl,rfl⟩
   go_wp2_with fail
   go_ret
   exact⟨rfl,rfl⟩
 · rw [if_neg hb] at h
   rw [if_neg hb]
   go_enter Tryz.func125,Tryz.ntmps125
   go_wp2_with fail
   refine (h _).mono ?_
   rintro e w' ⟨rfl,rfl⟩
   go_wp2_with fail
   go_ret
   exact⟨rfl,rfl⟩
theorem index2_0 (w:World):(Instr.index 133 (.agg #[.int .i64 0,.int .i64 1]) (.int .i64 0)).run Tryz.prog w=.ok (.int .i64 0) w:=by kernel_rfl
theorem index2_1 (w:World):(Instr.index 133 (.agg #[.int .i64 0,.int .i64 1]) (.int .i64 1)).run Tryz.prog w=.ok (.int .i64 1) w:=by kernel_rfl
set_option maxRecDepth 100000 in
theorem slot_p (q:Int)(w:World)(h:q=0∨q=1):Calls Tryz.prog 114 #[.int .i64 q] w fun e w'=>e=.returned (.int .i64 q)/\Ext w w':=by
 have h0:=index2_0
 have h1:=index2_1
 rcases h with rfl | rfl
 all_goals
  go_enter Tryz.func114,Tryz.ntmps114
  go_wp2_with fail
  go_ret
  exact⟨rfl,Ext.refl _⟩
theorem sbit_p (r:Reg)(n:Int)(w:World)(hn:0<=n/\n<=3)(hb1:0<=r.base)(hb2:r.base<=60000)(hl1:0<=r.loc)(hl2:r.loc<=60000) :
  Calls Tryz.prog 112 #[encR r,.int .i64 n] w fun e w'=>e=.returned (encR { r with kind:=4,base:=r.base+(4+3*n),loc:=r.loc+(2+4*n),top:=1 })/\Ext w w':=by
 obtain⟨kind,base,loc,nn,wr,rd,top⟩:=r
 simp only at hb1 hb2 hl1 hl2
 unfold encR
 go_enter Tryz.func112,Tryz.ntmps112
 go_wp2_with fail
 refine bodyPost_ret (v:=.agg #[.int .i64 4,.int .i64 (base+(4+3*n)),.int .i64 (loc+(2+4*n)),.int .i64 nn,.int .i64 wr,.int .i64 rd,.int .i64 1]) (by simp [results,Tryz.results112,go_sem]) rfl ?_
 exact⟨rfl,((Ext.refl _).alloc _).alloc _⟩
theorem scell_p (r:Reg)(q i:Int)(w:World)(hq:q=0∨q=1)(hi:i=0∨i=1)(hb1:0<=r.base)(hb2:r.base<=60000) :
  Calls Tryz.prog 113 #[encR r,.int .i64 q,.int .i64 i] w fun e w'=>e=.returned (.int .i64 (r.base+(2*q+i)))/\Ext w w':=by
 obtain⟨kind,base,loc,nn,wr,rd,top⟩:=r
 simp only at hb1 hb2
 unfold encR
 rcases hq with rfl | rfl <;> rcases hi with rfl | rfl
 all_goals
  go_enter Tryz.func113,Tryz.ntmps113
  go_wp2_with fail
  go_quiet (fail)
  go_wp2_with fail
  go_ret
  exact⟨ret_int (by show _=_;omega),(((Ext.refl _).alloc _).alloc _).drewN _⟩
theorem other_01 (y:Int):otherM y=0∨otherM y=1:=by unfold otherM;split <;> simp
theorem bit_01 (y:Int):bitM y=0∨bitM y=1:=by unfold bitM;split <;> simp
set_option maxHeartbeats 2000000 in
theorem slots_write_p (B p:Nat)(S:TS)(r:Reg)(v:Int)(w:World)(h:Plays B w p S)(hb1:0<=r.base)(hb2:r.base<=59000)(hl1:0<=r.loc)(hl2:r.loc<=59000) :
  Calls Tryz.prog 75 #[.pointer (some ⟨p,0,none⟩),encR r,.int .i64 v] w (Post encU B p w ((slotsW r.base r.loc v).run S)):=by
 generalize hR:Post encU B p w ((slotsW r.base r.loc v).run S)=R
 have hO:Owes R encU B p w ((slotsW r.base r.loc v).run S):=hR▸owes _ _ _ _ _
 clear hR
 obtain⟨kind,base,loc,n,wr,rd,top⟩:=r
 simp only at hb1 hb2 hl1 hl2 hO
 unfold encR
 obtain⟨b1,hK,hP⟩:=h.entry (.cells #[.int .i64 kind,.int .i64 base,.int .i64 loc,.int .i64 n,.int .i64 wr,.int .i64 rd,.int .i64 top] 87)
 have c_b1:=b1.cells
 clear h
 unfold slotsW at hO
 go_enter Tryz.func75,Tryz.ntmps75
 go_wp2_with fail
 refine (sbit_p ⟨kind,base,loc,n,wr,rd,top⟩ 3 _ (by omega) hb1 (by simp only;omega) hl1 (by simp only;omega)).mono ?_
 rintro e w2 ⟨rfl,hx⟩
 clear c_b1
 replace hK:=hK.trans (Keep.of_ext hx hP.lt hP.le)
 replace b1:=b1.ext hx hP.lt
 have c_b1:=b1.cells
 replace hP:=hP.ext hx
 clear hx
 go_wp2_with fail
 refine tstep hO hK (tromp_read_p B p S ⟨4,base+13,loc+14,n,wr,rd,1⟩ _ hP (by simp only;omega) (by simp only;omega) (by simp only;omega) (by simp only;omega)) (fun _ h=>⟨rfl,h⟩) ?_
 clear hO hK hP c_b1
 intro y S w1 hr hP hk hK hO
 replace b1:=b1.keep hk
 have c_b1:=b1.cells
 clear hk hr
 go_wp2_with fail
 refine (other_p y _).mono ?_
 rintro e w' ⟨rfl,rfl⟩
 have hq:=other_01 y
 generalize otherM y=q at *
 have hq0:0<=q/\q<=1:=by omega
 go_wp2_with fail
 refine (get_p B p S (loc+q) _ hP).mono ?_
 rintro e w' ⟨rfl,rfl⟩
 rw [run_gt] at hO
 generalize S.got (loc+q)=z at hO ⊢
 go_wp2_with fail
 refine (other_p z _).mono ?_
 rintro e w' ⟨rfl,rfl⟩
 have hi:=other_01 z
 generalize otherM z=i at *
 have hi0:0<=i/\i<=1:=by omega
 go_wp2_with fail
 refine (scell_p ⟨kind,base,loc,n,wr,rd,top⟩ q i _ hq hi hb1 (by simp only;omega)).mono ?_
 rintro e w2 ⟨rfl,hx⟩
 clear c_b1
 replace hK:=hK.trans (Keep.of_ext hx hP.lt hP.le)
 replace b1:=b1.ext hx hP.lt
 have c_b1:=b1.cells
 replace hP:=hP.ext hx
 clear hx
 go_wp2_with fail
 refine tstep hO hK (write_p B p S _ _ _ hP) (fun _ h=>⟨rfl,h⟩) ?_
 clear hO hK hP c_b1
 intro u S w1 hr hP hk hK hO
 replace b1:=b1.keep hk
 have c_b1:=b1.cells
 clear hk hr
 go_wp2_with fail
 refine tstep hO hK (setO hP) (fun _ h=>⟨rfl,h⟩) ?_
 clear hO hK hP c_b1
 intro u S w1 hr hP hk hK hO
 replace b1:=b1.keep hk
 have c_b1:=b1.cells
 clear hk hr
 go_wp2_with fail
 replace hP:=hP.drew
 replace hK:=hK.drew
 replace b1:=b1.drew
 go_region_held2 (fun w'=>∀ i:Nat,w'.cell? ⟨w.heap.size,i,none⟩=(#[.int .i64 kind,.int .i64 base,.int .i64 loc,.int .i64 n,.int .i64 wr,.int .i64 rd,.int .i64 top]:Array Value)[i]?) (first | go_keep | exact c_b1)
  (first
    | (go_at_call 114
       refine (slot_p q _ hq).mono ?_
       rintro e w2 ⟨rfl,hx⟩
       clear c_b1
       replace hK:=hK.trans (Keep.of_ext hx hP.lt hP.le)
       replace b1:=b1.ext hx hP.lt
       have c_b1:=b1.cells
       replace hP:=hP.ext hx
       clear hx)
    | (go_at_call 112
       refine (sbit_p ⟨kind,base,loc,n,wr,rd,top⟩ q _ (by omega) hb1 (by simp only;omega) hl1 (by simp only;omega)).mono ?_
       rintro e w2 ⟨rfl,hx⟩
       clear c_b1
       replace hK:=hK.trans (Keep.of_ext hx hP.lt hP.le)
       replace b1:=b1.ext hx hP.lt
       have c_b1:=b1.cells
       replace hP:=hP.ext hx
       clear hx)
    | (go_at_call 74
       refine tstep hO hK (tromp_write_p B p S ⟨4,base+(4+3*q),loc+(2+4*q),n,wr,rd,1⟩ i _ hP (by simp only;omega) (by simp only;omega) (by simp only;omega) (by simp only;omega)) (fun _ h=>⟨rfl,h⟩) ?_
       clear hO hK hP c_b1
       intro u S w1 hr hP hk hK hO
       replace b1:=b1.keep hk
       have c_b1:=b1.cells
       clear hk hr))
 go_wp2_with fail
 refine (sbit_p ⟨kind,base,loc,n,wr,rd,top⟩ 2 _ (by omega) hb1 (by simp only;omega) hl1 (by simp only;omega)).mono ?_
 rintro e w2 ⟨rfl,hx⟩
 clear c_b1
 replace hK:=hK.trans (Keep.of_ext hx hP.lt hP.le)
 replace b1:=b1.ext hx hP.lt
 have c_b1:=b1.cells
 replace hP:=hP.ext hx
 clear hx
 go_wp2_with fail
 refine tlast hO hK (tromp_write_p B p S ⟨4,base+10,loc+10,n,wr,rd,1⟩ q _ hP (by simp only;omega) (by simp only;omega) (by simp only;omega) (by simp only;omega)) (fun _ h=>⟨rfl,h⟩) ?_
 clear hO hK hP c_b1
 intro u S w1 hr hP hk hK hO
 replace b1:=b1.keep hk
 have c_b1:=b1.cells
 clear hk hr
 go_wp2_with fail
 first | go_end0 | refine bodyPost_ret (results_none rfl _ _ _) rfl ?_
 exact hO.done hP hK
set_option maxHeartbeats 2000000 in
theorem slots_read_p (B p:Nat)(S:TS)(r:Reg)(w:World)(h:Plays B w p S)(hb1:0<=r.base)(hb2:r.base<=59000)(hl1:0<=r.loc)(hl2:r.loc<=59000) :
  Calls Tryz.prog 82 #[.pointer (some ⟨p,0,none⟩),encR r] w (Post encI B p w ((slotsR r.base r.loc).run S)):=by
 generalize hR:Post encI B p w ((slotsR r.base r.loc).run S)=R
 have hO:Owes R encI B p w ((slotsR r.base r.loc).run S):=hR▸owes _ _ _ _ _
 clear hR
 obtain⟨kind,base,loc,n,wr,rd,top⟩:=r
 simp only at hb1 hb2 hl1 hl2 hO
 unfold encR
 obtain⟨b1,hK,hP⟩:=h.entry (.cells #[.int .i64 kind,.int .i64 base,.int .i64 loc,.int .i64 n,.int .i64 wr,.int .i64 rd,.int .i64 top] 87)
 have c_b1:=b1.cells
 clear h
 unfold slotsR at hO
 go_enter Tryz.func82,Tryz.ntmps82
 go_wp2_with fail
 refine (sbit_p ⟨kind,base,loc,n,wr,rd,top⟩ 2 _ (by omega) hb1 (by simp only;omega) hl1 (by simp only;omega)).mono ?_
 rintro e w2 ⟨rfl,hx⟩
 clear c_b1
 replace hK:=hK.trans (Keep.of_ext hx hP.lt hP.le)
 replace b1:=b1.ext hx hP.lt
 have c_b1:=b1.cells
 replace hP:=hP.ext hx
 clear hx
 go_wp2_with fail
 refine tstep hO hK (tromp_read_p B p S ⟨4,base+10,loc+10,n,wr,rd,1⟩ _ hP (by simp only;omega) (by simp only;omega) (by simp only;omega) (by simp only;omega)) (fun _ h=>⟨rfl,h⟩) ?_
 clear hO hK hP c_b1
 intro y S w1 hr hP hk hK hO
 replace b1:=b1.keep hk
 have c_b1:=b1.cells
 clear hk hr
 go_wp2_with fail
 refine (same_p y _).mono ?_
 rintro e w' ⟨rfl,rfl⟩
 have hq:=bit_01 y
 generalize bitM y=q at *
 have hq0:0<=q/\q<=1:=by omega
 go_wp2_with fail
 refine (sbit_p ⟨kind,base,loc,n,wr,rd,top⟩ 3 _ (by omega) hb1 (by simp only;omega) hl1 (by simp only;omega)).mono ?_
 rintro e w2 ⟨rfl,hx⟩
 clear c_b1
 replace hK:=hK.trans (Keep.of_ext hx hP.lt hP.le)
 replace b1:=b1.ext hx hP.lt
 have c_b1:=b1.cells
 replace hP:=hP.ext hx
 clear hx
 go_wp2_with fail
 refine tstep hO hK (tromp_write_p B p S ⟨4,base+13,loc+14,n,wr,rd,1⟩ q _ hP (by simp only;omega) (by simp only;omega) (by simp only;omega) (by simp only;omega)) (fun _ h=>⟨rfl,h⟩) ?_
 clear hO hK hP c_b1
 intro u S w1 hr hP hk hK hO
 replace b1:=b1.keep hk
 have c_b1:=b1.cells
 clear hk hr
 go_wp2_with fail
 replace hP:=hP.drew
 replace hK:=hK.drew
 replace b1:=b1.drew
 go_region_held2 (fun w'=>∀ i:Nat,w'.cell? ⟨w.heap.size,i,none⟩=(#[.int .i64 kind,.int .i64 base,.int .i64 loc,.int .i64 n,.int .i64 wr,.int .i64 rd,.int .i64 top]:Array Value)[i]?) (first | go_keep | exact c_b1)
  (first
    | (go_at_call 114
       refine (slot_p q _ hq).mono ?_
       rintro e w2 ⟨rfl,hx⟩
       clear c_b1
       replace hK:=hK.trans (Keep.of_ext hx hP.lt hP.le)
       replace b1:=b1.ext hx hP.lt
       have c_b1:=b1.cells
       replace hP:=hP.ext hx
       clear hx)
    | (go_at_call 112
       refine (sbit_p ⟨kind,base,loc,n,wr,rd,top⟩ q _ (by omega) hb1 (by simp only;omega) hl1 (by simp only;omega)).mono ?_
       rintro e w2 ⟨rfl,hx⟩
       clear c_b1
       replace hK:=hK.trans (Keep.of_ext hx hP.lt hP.le)
       replace b1:=b1.ext hx hP.lt
       have c_b1:=b1.cells
       replace hP:=hP.ext hx
       clear hx)
    | (go_at_call 81
       refine tstep hO hK (tromp_read_p B p S ⟨4,base+(4+3*q),loc+(2+4*q),n,wr,rd,1⟩ _ hP (by simp only;omega) (by simp only;omega) (by simp only;omega) (by simp only;omega)) (fun _ h=>⟨rfl,h⟩) ?_
       clear hO hK hP c_b1
       intro z S w1 hr hP hk hK hO
       replace b1:=b1.keep hk
       have c_b1:=b1.cells
       clear hk hr)
    | (go_at_call 125
       refine (same_p z _).mono ?_
       rintro e w' ⟨rfl,rfl⟩))
 have hi:=bit_01 z
 generalize bitM z=i at *
 have hi0:0<=i/\i<=1:=by omega
 go_wp2_with fail
 refine (scell_p ⟨kind,base,loc,n,wr,rd,top⟩ q i _ hq hi hb1 (by simp only;omega)).mono ?_
 rintro e w2 ⟨rfl,hx⟩
 clear c_b1
 replace hK:=hK.trans (Keep.of_ext hx hP.lt hP.le)
 replace b1:=b1.ext hx hP.lt
 have c_b1:=b1.cells
 replace hP:=hP.ext hx
 clear hx
 go_wp2_with fail
 refine tlast hO hK (read_p B p S _ _ hP) (fun _ h=>⟨rfl,h⟩) ?_
 clear hO hK hP c_b1
 intro x S w1 hr hP hk hK hO
 replace b1:=b1.keep hk
 have c_b1:=b1.cells
 clear hk hr
 go_wp2_with fail
 exact hO.done hP hK
theorem threads_p (n:Int)(w:World)(h1:1<=n)(h2:n<=8):Calls Tryz.prog 118 #[.int .i64 n] w fun e w'=>e=.returned (.int .i64 n)/\w=w':=by
 go_enter Tryz.func118,Tryz.ntmps118
 go_wp2_with fail
 go_ret
 exact⟨ret_int (by show _=_;omega),rfl⟩
theorem writer_p (r:Reg)(w:World)(h1:1<=r.n)(h2:r.n<=8)(h3:0<=r.wr)(h4:r.wr<r.n):Calls Tryz.prog 115 #[encR r] w fun e w'=>e=.returned (.int .i64 r.wr)/\Ext w w':=by
 obtain⟨kind,base,loc,n,wr,rd,top⟩:=r
 simp only at h1 h2 h3 h4
 have hd:decide (wr<0)=false:=by simpa using h3
 have hd2:decide (n<=wr)=false:=by simpa using h4
 unfold encR
 go_enter Tryz.func115,Tryz.ntmps115
 go_wp2_with fail
 go_quiet ((go_at_call 118;exact Calls.quiet_of_same ((threads_p n _ h1 h2).mono fun _ _ ⟨a,b⟩=>⟨a,b.symm⟩)))
 go_wp2_with fail
 go_ret
 exact⟨rfl,((Ext.refl _).alloc _).drewN _⟩
theorem tslot_p (r:Reg)(j:Int)(w:World)(h1:0<=j)(h2:j<=64)(hb1:0<=r.base)(hb2:r.base<=57000)(hl1:0<=r.loc)(hl2:r.loc<=57000) :
  Calls Tryz.prog 119 #[encR r,.int .i64 j] w fun e w'=>e=.returned (encR { r with kind:=5,base:=r.base+16*j,loc:=r.loc+(2+18*j),top:=1099511627776 })/\Ext w w':=by
 obtain⟨kind,base,loc,n,wr,rd,top⟩:=r
 simp only at hb1 hb2 hl1 hl2
 unfold encR
 have ha:loc+(2+18*j)=loc+2+18*j:=by omega
 simp only [ha]
 clear ha
 go_enter Tryz.func119,Tryz.ntmps119
 go_wp2_with fail
 refine bodyPost_ret (v:=.agg #[.int .i64 5,.int .i64 (base+16*j),.int .i64 (loc+2+18*j),.int .i64 n,.int .i64 wr,.int .i64 rd,.int .i64 1099511627776]) (by simp [results,Tryz.results119,go_sem]) rfl ?_
 exact⟨rfl,((Ext.refl _).alloc _).alloc _⟩
theorem mul_bd (a k:Int)(h1:0<=a/\a<k)(h3:k<=7):0<=a*(k-1)/\a*(k-1)<=36:=by
 have h4:0<=a*(k-1):=Int.mul_nonneg h1.1 (by omega)
 have h5:a*(k-1)<=6*6:=Int.mul_le_mul (by omega) (by omega) (by omega) (by omega)
 omega
theorem tells_bd (k a b:Int)(h1:0<=a/\a<k)(h2:0<=b/\b<k)(h3:k<=7)(_h4:a≠b):0<=tellsM k a b/\tellsM k a b<=60:=by
 have:=mul_bd a k h1 h3
 unfold tellsM
 split <;> omega
theorem tells_p (r:Reg)(k a b:Int)(w:World)(h1:0<=a/\a<k)(h2:0<=b/\b<k)(h3:k<=7)(h4:a≠b)(hb1:0<=r.base)(hb2:r.base<=57000)(hl1:0<=r.loc)(hl2:r.loc<=57000) :
  Calls Tryz.prog 127 #[encR r,.int .i64 k,.int .i64 a,.int .i64 b] w fun e w'=>e=.returned (encR { r with kind:=5,base:=r.base+16*tellsM k a b,loc:=r.loc+(2+18*tellsM k a b),top:=1099511627776 })/\Ext w w':=by
 have hm:=mul_bd a k h1 h3
 have ht:=tells_bd k a b h1 h2 h3 h4
 have hs:=Lib.hid (tslot_p r (tellsM k a b))
 obtain⟨kind,base,loc,n,wr,rd,top⟩:=r
 simp only at hb1 hb2 hl1 hl2
 by_cases hab:a<b
 · have e:tellsM k a b=k+a*(k-1)+(b-1):=by unfold tellsM;rw [if_pos hab]
   have eh:=Lib.hid e
   clear e
   unfold encR at hs ⊢
   generalize tellsM k a b=t at *
   go_enter Tryz.func127,Tryz.ntmps127
   go_wp2_with fail
   rw [<- eh.out]
   refine (hs.out _ ht.1 (by omega) hb1 hb2 hl1 hl2).mono ?_
   rintro e w2 ⟨rfl,hx⟩
   have hz:w2.heap[w.heap.size+1]?=some (.cells #[.int .i64 0,.int .i64 0,.int .i64 0,.int .i64 0,.int .i64 0,.int .i64 0,.int .i64 0] 87):=by
    refine (Below.block hx _ (by simp)).trans ?_
    have:=heap_alloc_new (w.alloc (.cells #[.int .i64 kind,.int .i64 base,.int .i64 loc,.int .i64 n,.int .i64 wr,.int .i64 rd,.int .i64 top] 87)) (.cells #[.int .i64 0,.int .i64 0,.int .i64 0,.int .i64 0,.int .i64 0,.int .i64 0,.int .i64 0] 87)
    rw [World.size_alloc] at this
    exact this
   have hzc:=cell_of_heap hz
   have hzf:=frozen_of_heap hz
   have hxh:=Lib.hid hx
   clear hx hz
   go_wp2_with fail
   refine bodyPost_ret (v:=.agg #[.int .i64 5,.int .i64 (base+16*t),.int .i64 (loc+(2+18*t)),.int .i64 n,.int .i64 wr,.int .i64 rd,.int .i64 1099511627776]) (by simp [results,Tryz.results127,go_sem,hzc]) rfl ?_
   refine⟨rfl,?_⟩
   repeat (refine Ext.setCell ?_ (Nat.le_succ _) _)
   exact (((Ext.refl _).alloc _).alloc _).trans hxh.out
 · have e:tellsM k a b=k+a*(k-1)+b:=by unfold tellsM;rw [if_neg (by omega)]
   have eh:=Lib.hid e
   clear e
   unfold encR at hs ⊢
   generalize tellsM k a b=t at *
   go_enter Tryz.func127,Tryz.ntmps127
   go_wp2_with fail
   rw [<- eh.out]
   refine (hs.out _ ht.1 (by omega) hb1 hb2 hl1 hl2).mono ?_
   rintro e w2 ⟨rfl,hx⟩
   have hz:w2.heap[w.heap.size+1]?=some (.cells #[.int .i64 0,.int .i64 0,.int .i64 0,.int .i64 0,.int .i64 0,.int .i64 0,.int .i64 0] 87):=by
    refine (Below.block hx _ (by simp)).trans ?_
    have:=heap_alloc_new (w.alloc (.cells #[.int .i64 kind,.int .i64 base,.int .i64 loc,.int .i64 n,.int .i64 wr,.int .i64 rd,.int .i64 top] 87)) (.cells #[.int .i64 0,.int .i64 0,.int .i64 0,.int .i64 0,.int .i64 0,.int .i64 0,.int .i64 0] 87)
    rw [World.size_alloc] at this
    exact this
   have hzc:=cell_of_heap hz
   have hzf:=frozen_of_heap hz
   have hxh:=Lib.hid hx
   clear hx hz
   go_wp2_with fail
   refine bodyPost_ret (v:=.agg #[.int .i64 5,.int .i64 (base+16*t),.int .i64 (loc+(2+18*t)),.int .i64 n,.int .i64 wr,.int .i64 rd,.int .i64 1099511627776]) (by simp [results,Tryz.results127,go_sem,hzc]) rfl ?_
   refine⟨rfl,?_⟩
   repeat (refine Ext.setCell ?_ (Nat.le_succ _) _)
   exact (((Ext.refl _).alloc _).alloc _).trans hxh.out
theorem rank_p (r:Reg)(me:Int)(w:World)(h1:1<=r.n)(h2:r.n<=8)(h3:0<=r.wr)(h4:r.wr<r.n)(h5:0<=me/\me<r.n)(h6:me≠r.wr) :
  Calls Tryz.prog 126 #[encR r,.int .i64 me] w fun e w'=>e=.returned (.tuple #[.int .i64 (rankM r.wr me),.bool true])/\Ext w w':=by
 have hw:=Lib.hid (writer_p r)
 obtain⟨kind,base,loc,n,wr,rd,top⟩:=r
 simp only at h1 h2 h3 h4 h5 h6
 have hd1:decide (me<0)=false:=by simpa using h5.1
 have hd2:decide (n<=me)=false:=by simpa using h5.2
 have hd3:(me==wr)=false:=by simpa using h6
 unfold encR at hw ⊢
 go_enter Tryz.func126,Tryz.ntmps126
 go_wp2_with fail
 refine (hw.out _ h1 h2 h3 h4).mono ?_
 rintro e w2 ⟨rfl,hx⟩
 have hc:∀ i:Nat,w2.cell? ⟨w.heap.size,i,none⟩=(#[.int .i64 kind,.int .i64 base,.int .i64 loc,.int .i64 n,.int .i64 wr,.int .i64 rd,.int .i64 top]:Array Value)[i]?:=fun i=>by
  rw [Ext.cell hx (p:=⟨w.heap.size,i,none⟩) (by simp)]
  exact cell_of_heap (heap_alloc_new w _) i
 have hxh:=Lib.hid hx
 clear hx
 go_wp2_with fail
 refine (threads_p n _ h1 h2).mono ?_
 rintro e w' ⟨rfl,rfl⟩
 by_cases hm:wr<me
 · go_wp2_with fail
   go_ret2
   exact⟨by rw [show rankM wr me=me-1 from by unfold rankM;rw [if_pos hm]];rfl,((Ext.refl _).alloc _).trans hxh.out⟩
 · go_wp2_with fail
   go_ret2
   exact⟨by rw [show rankM wr me=me from by unfold rankM;rw [if_neg (by omega)]];rfl,((Ext.refl _).alloc _).trans hxh.out⟩
attribute [local go_sem] Oper.semAt_some
def Gives (P:Program) (gf:Nat) (lb:Array Value) (xs:List Int) (Ok:World->Prop):Prop :=
 ∀ (l:Nat) (J:List Int->World->Prop) (Jp:List PanicEntry->World->Prop) (W:World),(∀ ys W',J ys W'->Ok W') ->
  (∀ y ys W',J (y :: ys) W'->YieldAt Fence.wide 0 P l #[.int .i64 y] W' fun e W2=>(e=.returned (.bool true)/\J ys W2)∨(∃ c,e=.panicked c/\Jp c W2)) ->
  J xs W->CallsIn Fence.wide 0 P gf (#[.func (.yield l) #[] #[]]++lb) W fun e W'=>(∃ v,e=.returned v/\J [] W')∨(∃ c,e=.panicked c/\Jp c W')
set_option maxHeartbeats 1000000 in
theorem ranks_gives (k:Nat)(but:Int)(bk bb:Nat)(hk:k<=8) :
  Gives Tryz.prog 143 #[.pointer (some ⟨bk,0,none⟩),.pointer (some ⟨bb,0,none⟩)] (ranksFrom but k 0) (fun W=>W.cell? ⟨bk,0,none⟩=some (.int .i64 k)/\W.cell? ⟨bb,0,none⟩=some (.int .i64 but)):=by
 intro l J Jp W hOk hY h0
 show CallsIn Fence.wide 0 Tryz.prog 143 #[.func (.yield l) #[] #[],.pointer (some ⟨bk,0,none⟩),.pointer (some ⟨bb,0,none⟩)] W _
 have c0:=(hOk _ _ h0).1
 refine callsIn_of_wp Tryz.func143 rfl trivial ?_ rfl
 simp only [Tryz.ntmps143,List.size_toArray,List.length_cons,List.length_nil,Nat.reduceAdd,Nat.reduceSub,Array.replicate_succ,Array.replicate_zero,List.push_toArray,List.append_toArray,List.nil_append,List.cons_append]
 gi_wp2
 gi_loopw [6] (fun q wr=>∃ i:Nat,q=.int .i64 i/\i<=k/\J (ranksFrom but (k-i) i) wr) (fun q _=>k-(intOf q).toNat)
 case atStart=>exact⟨0,rfl,by omega,h0⟩
 case round =>
  obtain⟨i,rfl,hi,hJ⟩:=hrel
  have c1:=(hOk _ _ hJ).2
  by_cases hik:i<k
  · obtain⟨n,hn⟩:∃ n,k-i=n+1:=⟨k-i-1,by omega⟩
    rw [hn] at hJ
    by_cases hb:(i:Int)=but
    · have hbe:((i:Int) != but)=false:=by simp [hb]
      have hJ2:J (ranksFrom but (k-(i+1)) ((i+1:Nat):Int)) wr:=by
       rw [show k-(i+1)=n from by omega]
       have e:ranksFrom but (n+1) (i:Int)=ranksFrom but n ((i:Int)+1):=by simp [ranksFrom,hb]
       rw [e] at hJ
       exact hJ
      have hJh:=Lib.hid hJ2
      clear hJ hJ2 hb hn hY h0 hOk
      gi_wp2_with fail
      refine⟨fun _ h=>(by cases h),?_⟩
      gi_wp2_with fail
      exact⟨⟨i+1,by go_num,by omega,hJh.out⟩,by simp [intOf];omega⟩
    · have hbe:((i:Int) != but)=true:=by simp [hb]
      have e:ranksFrom but (n+1) (i:Int)=(i:Int) :: ranksFrom but n ((i:Int)+1):=by simp [ranksFrom,hb]
      rw [e] at hJ
      obtain⟨fn,tmps,assign,body,hy,hR⟩:=hY _ _ _ hJ
      have hnh:=Lib.hid hn
      clear hJ hb hn hY h0 hOk e
      gi_wp2_with fail
      refine⟨rfl,hR.mono ?_⟩
      rintro e W3 (⟨rfl,hJ3⟩ | ⟨c,rfl,hJ3⟩)
      · gi_wp2_with fail
        exact⟨⟨i+1,by go_num,by omega,by rw [show k-(i+1)=n from by have:=hnh.out;omega];exact hJ3⟩,by simp [intOf];omega⟩
      · exact⟨rfl,.inr ⟨c,rfl,hJ3⟩⟩
  · obtain rfl:i=k:=by omega
    rw [Nat.sub_self] at hJ
    clear hY h0 hOk
    gi_wp2_with fail
    first | go_end0 | refine bodyPost_ret (results_none rfl _ _ _) rfl ?_
    exact .inl ⟨_,rfl,hJ⟩
end Go.Proofs.YtbphlkaihfbgeaaGreat
namespace Go.Proofs.YtbphlkaihfbgeaaGreat
open Go.RowKit Kv
structure KeepX (X:Nat->Prop) (ix:List Nat) (B p:Nat) (w w':World):Prop where
 below:Below B w w'
 rest:∀ b,b<w.heap.size->¬ ownR ix w p b->¬ X b->w'.heap[b]?=w.heap[b]?/\¬ ownR ix w' p b
section
variable {X:Nat->Prop} {ix:List Nat} {B p:Nat} {w w' w'':World}
theorem Keep.x (h:Keep ix B p w w')(X:Nat->Prop):KeepX X ix B p w w':=⟨h.below,fun b h1 h2 _=>h.rest b h1 h2⟩
theorem KeepX.trans (h:KeepX X ix B p w w')(k:KeepX X ix B p w' w''):KeepX X ix B p w w'' :=
 ⟨h.below.trans k.below,fun b hb ho hx=>by
  obtain⟨h1,h2⟩:=h.rest b hb ho hx
  obtain⟨h3,h4⟩:=k.rest b (Nat.lt_of_lt_of_le hb h.below.size) h2 hx
  exact⟨h3.trans h1,h4⟩⟩
theorem KeepX.after (h:Keep ix B p w w')(k:KeepX X ix B p w' w'')(hX:∀ b,X b->w.heap.size<=b):Keep ix B p w w'' :=
 ⟨h.below.trans k.below,fun b hb ho=>by
  obtain⟨h1,h2⟩:=h.rest b hb ho
  obtain⟨h3,h4⟩:=k.rest b (Nat.lt_of_lt_of_le hb h.size) h2 (fun hx=>by have:=hX b hx;omega)
  exact⟨h3.trans h1,h4⟩⟩
theorem KeepX.held {b:Nat}{o:Obj}(h:Held ix w p b o)(k:KeepX X ix B p w w')(hx:¬ X b):Held ix w' p b o:=by
 obtain⟨h1,h2⟩:=k.rest b h.lt h.2 hx
 exact⟨h1.trans h.1,h2⟩
theorem KeepX.put {l:Nat}{o:Obj}(h:KeepX X ix B p w w')(hl:w.heap.size<=l)(hn:¬ ownR ix w' p l)(hB:B<=w.heap.size):KeepX X ix B p w (w'.putObj l o):=by
 have hp:(w'.putObj l o).heap[p]?=w'.heap[p]?:=World.putObj_heap_other (fun e=>hn (.inl e.symm))
 refine⟨⟨h.below.os,h.below.tape,h.below.output,by have:=h.below.size;simpa using this,fun k hk=>(World.putObj_heap_other (by omega)).trans (h.below.block k hk)⟩,fun b hb ho hx=>?_⟩
 obtain⟨h1,h2⟩:=h.rest b hb ho hx
 exact⟨(World.putObj_heap_other (by omega)).trans h1,fun h'=>h2 ((ownR_same hp b).1 h')⟩
theorem Keep.put {l:Nat}{o:Obj}(h:Keep ix B p w w')(hl:w.heap.size<=l)(hn:¬ ownR ix w' p l)(hB:B<=w.heap.size):Keep ix B p w (w'.putObj l o):=by
 have hp:(w'.putObj l o).heap[p]?=w'.heap[p]?:=World.putObj_heap_other (fun e=>hn (.inl e.symm))
 refine⟨⟨h.below.os,h.below.tape,h.below.output,by have:=h.below.size;simpa using this,fun k hk=>(World.putObj_heap_other (by omega)).trans (h.below.block k hk)⟩,fun b hb ho=>?_⟩
 obtain⟨h1,h2⟩:=h.rest b hb ho
 exact⟨(World.putObj_heap_other (by omega)).trans h1,fun h'=>h2 ((ownR_same hp b).1 h')⟩
theorem Held.put {b l:Nat}{o o':Obj}(h:Held ix w p b o)(hb:b≠l)(hn:¬ ownR ix w p l):Held ix (w.putObj l o') p b o :=
 ⟨(World.putObj_heap_other hb).trans h.1,fun h'=>h.2 ((ownR_same (World.putObj_heap_other (fun e=>hn (.inl e.symm))) b).1 h')⟩
theorem Held.put_same {l:Nat}{o o':Obj}(h:Held ix w p l o):Held ix (w.putObj l o') p l o' :=
 ⟨World.putObj_heap_same h.lt,fun h'=>h.2 ((ownR_same (World.putObj_heap_other (fun e=>h.2 (.inl e.symm))) l).1 h')⟩
end
theorem row_put {w:World}{B e s n l:Nat}{v:Value}{xs:List Value}{o:Obj}(h:w.ownsRow B e s v n xs)(hl:v.ownBlock≠some l):(w.putObj l o).ownsRow B e s v n xs:=by
 refine⟨h.1,?_⟩
 rcases h.2 with h2 | ⟨g,cap,cur,rfl,hb,hg,r⟩
 · exact .inl h2
 · exact .inr ⟨g,cap,cur,rfl,hb,(World.putObj_heap_other (fun e=>hl (by rw [<- e];rfl))).trans hg,r⟩
section
variable {B p:Nat} {w:World} {S:TS}
theorem PMem.put {st:Int}{vA vL vC vN:Value}{L:List Int}{l:Nat}(h:PMem B w p S st vA vL vC vN L)(o:Obj)(hn:¬ ownR [2,3,4] w p l)(hB:B<=l):PMem B (w.putObj l o) p S st vA vL vC vN L :=
 { h with
  heap:=(World.putObj_heap_other (fun e=>hn (.inl e.symm))).trans h.heap
  ans:=by
   obtain⟨A,c,rfl,h1,h2,h3⟩:=h.ans
   refine⟨A,c,rfl,h1,h2,fun hl=>?_⟩
   obtain⟨b,off,rfl,hb,hc⟩:=h3 hl
   have hbB:=h.ansB b rfl
   refine⟨b,off,rfl,by simpa using hb,fun i x hi=>?_⟩
   rw [<- hc i x hi]
   exact World.cell?_of_block (w:=w) (World.putObj_heap_other (show b≠l by omega))
  rowL:=row_put h.rowL (fun e=>hn (ownR_at h.heap (by simp) (i:=2) rfl e))
  rowC:=row_put h.rowC (fun e=>hn (ownR_at h.heap (by simp) (i:=3) rfl e))
  rowN:=row_put h.rowN (fun e=>hn (ownR_at h.heap (by simp) (i:=4) rfl e)) }
theorem Plays.put {l:Nat}(h:Plays B w p S)(o:Obj)(hn:¬ ownR [2,3,4] w p l)(hB:B<=l):Plays B (w.putObj l o) p S:=by
 obtain⟨h0,vA,vL,vC,vN,L,h⟩:=h
 exact⟨h0,vA,vL,vC,vN,L,h.put o hn hB⟩
theorem Stops.put {l:Nat}(h:Stops B w p S)(o:Obj)(hn:¬ ownR [2,3,4] w p l)(hB:B<=l):Stops B (w.putObj l o) p S:=by
 obtain⟨vA,vL,vC,vN,L,h⟩:=h
 exact⟨vA,vL,vC,vN,L,h.put o hn hB⟩
def Shut (D:Nat) (R:Ending->World->Prop) (e:Ending) (W:World):Prop:=W.heap[D]?=some (.deferred (some []))/\R e (W.putObj D (.deferred none))
theorem owes_shut {α:Type}{R:Ending->World->Prop}{enc:α->Value}{w0 W1:World}{r:Option α × TS}{D:Nat}(hO:Owes R enc B p w0 r)(hK:KeepP B p w0 W1)(hD:HeldP W1 p D (.deferred (some [])))(hD0:w0.heap.size<=D)(hB:B<=w0.heap.size) :
  Owes (Shut D R) enc B p W1 r:=by
 intro e W' h
 unfold Post at h
 obtain⟨o,S1⟩:=r
 cases o with
 | some v =>
   obtain⟨rfl,h1,h2⟩:=h
   have hD':=hD.keep h2
   exact⟨hD'.1,hO _ _ ⟨rfl,h1.put _ hD'.2 (by omega),(hK.trans h2).put hD0 hD'.2 hB⟩⟩
 | none =>
   obtain⟨rfl,h1,h2⟩:=h
   have hD':=hD.keep h2
   exact⟨hD'.1,hO _ _ ⟨rfl,h1.put _ hD'.2 (by omega),(hK.trans h2).put hD0 hD'.2 hB⟩⟩
end
def roundQ {σ:Type} (X:Nat->Prop) (B p:Nat) (Js:σ->World->Prop) (r:Option σ × TS) (W:World):Exit->Act->World->Prop
 | .normal,_,W'=>∃ x S,r=(some x,S)/\Plays B W' p S/\KeepX X [2,3,4] B p W W'/\Js x W'
 | .panic c,a,W'=>a.defers=[]/\stopE p=.panicked c/\∃ S,r=(none,S)/\Stops B W' p S/\KeepX X [2,3,4] B p W W'
 | _,_,_=>False
theorem tape_range {σ α:Type}{P:Program}{f gf:FuncId}{fn:Func}{lb:Array Value}{g:Operand}{ps:Array Tmp}{assign body:Code}{Q:Exit->Act->World->Prop}{tmps:Array Value}{w:World}
  {B p:Nat}{w0:World}{S:TS}{R:Ending->World->Prop}{enc:α->Value}{T:Int->σ->Prog σ}{fin:σ->Prog α}{xs:List Int}{x:σ}{Ok:World->Prop}{ds:List Deferred}
  (hf:P.funcs[f]?=some fn)(hg:({ tmps:=tmps,defers:=ds }:Act).eval g=.func (.func gf) #[] lb)(eg:∀ args w,(callFunc gf args).run P w=.ok (.enter gf args) w)(hps:ps.size=1)(hG:Gives P gf lb xs Ok)
  (X:Nat->Prop)(Js:σ->World->Prop)(hX:∀ b,X b->w.heap.size > b/\w0.heap.size<=b)(hB:B<=w.heap.size)
  (hOk:∀ W,KeepX X [2,3,4] B p w W->Ok W)(hJa:∀ x W o,p<W.heap.size->Js x W->Js x (W.alloc o))(hJp:∀ x W l o,w.heap.size<=l->¬ ownR [2,3,4] W p l->Js x W->Js x (W.putObj l o))
  (hO:Owes R enc B p w0 (((forP T xs x).bind fin).run S))(_hK:KeepP B p w0 w)(hP:Plays B w p S)(hJ:Js x w)
  (a₁:Int->Act)
  (hassign:∀ (l:Nat) (y:Int) (W:World) (K:Act->World->Prop),K (a₁ y) W->assign.wpIn (Fence.wide.inRound l) 0 P (Exit.then K (fun _ _ _=>False)) { tmps:=(ps.zip #[.int .i64 y]).foldl (fun t (p,v)=>t.setIfInBounds p v) tmps,defers:=[] } W)
  (hbody:∀ (l:Nat) (y:Int) (x:σ) (S:TS) (W:World),y∈xs->Plays B W p S->KeepX X [2,3,4] B p w W->Js x W->body.wpIn (Fence.wide.inRound l) 0 P (roundQ X B p Js ((T y x).run S) W) (a₁ y) W)
  (hdone:∀ x S W,Owes R enc B p w0 ((fin x).run S)->KeepX X [2,3,4] B p w W->Plays B W p S->Js x W->HeldP W p w.heap.size (.deferred (some []))->Q .normal { tmps:=tmps,defers:={ target:=.collected w.heap.size,args:=#[] } :: ds } W)
  (hpan:∀ S W c,stopE p=.panicked c->Owes R enc B p w0 (none,S)->KeepX X [2,3,4] B p w W->Stops B W p S->HeldP W p w.heap.size (.deferred (some []))->Q (.panic c) { tmps:=tmps,defers:={ target:=.collected w.heap.size,args:=#[] } :: ds } W) :
  WpF P f (Code.rangeFunc g ps assign body) Q { tmps:=tmps,defers:=ds } w:=by
 obtain⟨rec,hrec⟩:∃ rec:LoopState->Loop,rec=fun st=>{ state:=st,pending:=none,fn:=f,tmps:=tmps,params:=ps,assign,body,defers:=w.heap.size }:=⟨_,rfl⟩
 obtain⟨W1,hW1⟩:∃ W1,(w.alloc (.deferred (some []))).alloc (.loop (rec .ready))=W1:=⟨_,rfl⟩
 have hlt:=hP.lt
 have hP1:Plays B W1 p S:=by rw [<- hW1];exact (hP.alloc _).alloc _
 have hD1:HeldP W1 p w.heap.size (.deferred (some [])):=by
  rw [<- hW1];exact Held.alloc (hP.held _) _ (hP.alloc _).lt
 have hL1:HeldP W1 p (w.heap.size+1) (.loop (rec .ready)):=by
  rw [<- hW1];have:=(hP.alloc (.deferred (some []))).held (.loop (rec .ready));rwa [World.size_alloc] at this
 have hJ1:Js x W1:=by rw [<- hW1];exact hJa _ _ _ (hP.alloc _).lt (hJa _ _ _ hlt hJ)
 have hX1:KeepX X [2,3,4] B p w W1:=by
  rw [<- hW1];exact (Keep.trans (Keep.alloc _ hlt hB) (Keep.alloc _ (hP.alloc _).lt (hP.alloc _).le)).x X
 refine wpF_range ⟨w.heap.size+1,[{ target:=.collected w.heap.size,args:=#[] }],W1,{ target:=.fn (.func gf) lb,args:=#[.func (.yield (w.heap.size+1)) #[] #[]] },W1,gf,
  #[.func (.yield (w.heap.size+1)) #[] #[]]++lb,W1,?_,?_,?_,?_⟩
 · rw [<- hW1,hrec];exact run_enterLoop_outer _ _ _ _ _
 · simp only [resolve,hg]
   simp [go_sem]
 · simp [invoke,go_sem,eg]
 · refine (hG (w.heap.size+1)
    (fun ys W=>(∀ y∈ys,y∈xs)/\HeldP W p (w.heap.size+1) (.loop (rec .ready))/\HeldP W p w.heap.size (.deferred (some []))/\KeepX X [2,3,4] B p w W/\∃ x S,Owes R enc B p w0 (((forP T ys x).bind fin).run S)/\Plays B W p S/\Js x W)
    (fun c W=>stopE p=.panicked c/\HeldP W p w.heap.size (.deferred (some []))/\KeepX X [2,3,4] B p w W/\∃ S,Owes R enc B p w0 (none,S)/\Stops B W p S)
    W1 (fun ys W h=>hOk W h.2.2.2.1) ?_ ⟨fun _ h=>h,hL1,hD1,hX1,x,S,hO,hP1,hJ1⟩).mono ?_
   · rintro y ys W ⟨hys,hl,hd,hk,x,S,ho,hpl,hj⟩
     have hy:=run_yield (P:=P) (args:=#[.int .i64 y]) hl.1 (by rw [hrec];exact hps.symm)
     rw [hrec] at hy
     refine⟨f,_,assign,body,hy,roundIn_p hf (hassign _ y W _ ⟨_,run_beginRound hl.1 (by rw [hrec]),?_⟩)⟩
     have hBl:B<=w.heap.size+1:=by omega
     have hl2:HeldP (W.putObj (w.heap.size+1) (.loop { rec .ready with state:=.busy })) p (w.heap.size+1) (.loop { rec .ready with state:=.busy }):=hl.put_same
     have hd2:HeldP (W.putObj (w.heap.size+1) (.loop { rec .ready with state:=.busy })) p w.heap.size (.deferred (some [])):=hd.put (by omega) hl.2
     have hk2:=hk.put (o:=.loop { rec .ready with state:=.busy }) (Nat.le_succ w.heap.size) hl.2 hB
     have hpl2:=hpl.put (.loop { rec .ready with state:=.busy }) hl.2 hBl
     have hj2:=hJp x W (w.heap.size+1) (.loop { rec .ready with state:=.busy }) (Nat.le_succ _) hl.2 hj
     generalize W.putObj (w.heap.size+1) (.loop { rec .ready with state:=.busy })=W2 at *
     have hnX:∀ b,w.heap.size<=b->¬ X b:=fun b hb hx=>by have:=(hX b hx).1;omega
     refine wpIn_mono (hbody _ y x S W2 (hys y (by simp)) hpl2 hk2 hj2) ?_
     rintro e a3 W3 hq
     cases e with
     | normal =>
       obtain⟨x',S',hr,hp3,hk3,hj3⟩:=hq
       have hl3:=KeepX.held hl2 hk3 (hnX _ (Nat.le_succ _))
       have hd3:=KeepX.held hd2 hk3 (hnX _ (Nat.le_refl _))
       have hend:=run_endRound (P:=P) none hl3.1
       refine⟨_,_,hend,.inl ⟨rfl,fun z hz=>hys z (by simp [hz]),?_,?_,?_,x',S',?_,?_,?_⟩⟩
       · have:=hl3.put_same (o':=.loop (rec .ready))
         rw [hrec] at this ⊢
         exact this
       · exact hd3.put (by omega) hl3.2
       · exact (hk2.trans hk3).put (Nat.le_succ _) hl3.2 hB
       · have e:((forP T (y :: ys) x).bind fin)=(T y x).bind fun z=>(forP T ys z).bind fin:=by
          simp only [forP];rw [Prog.bind_assoc]
         rw [e,Prog.run_bind_some hr] at ho
         exact ho
       · exact hp3.put _ hl3.2 hBl
       · exact hJp _ _ _ _ (Nat.le_succ _) hl3.2 hj3
     | panic c =>
       obtain⟨hdf,hc,S',hr,hp3,hk3⟩:=hq
       refine⟨hdf,.inr ⟨c,rfl,hc,KeepX.held hd2 hk3 (hnX _ (Nat.le_refl _)),hk2.trans hk3,S',?_,hp3⟩⟩
       have e:((forP T (y :: ys) x).bind fin)=(T y x).bind fun z=>(forP T ys z).bind fin:=by
        simp only [forP];rw [Prog.bind_assoc]
       rw [e,Prog.run_bind_none hr] at ho
       exact ho
     | exit id=>exact hq.elim
     | goto t=>exact hq.elim
     | ret=>exact hq.elim
     | outgrown=>exact hq.elim
   · rintro e W2 (⟨v,rfl,_,hl,hd,hk,x,S,ho,hpl,hj⟩ | ⟨c,rfl,hc,hd,hk,S,ho,hst⟩)
     · have hend:=run_endLoop (P:=P) hl.1 (by rw [hrec];simp)
       refine⟨_,by rw [hrec] at hend;exact hend,?_⟩
       refine hdone x S _ ho ?_ ?_ ?_ ?_
       · rw [hrec] at hl;exact hk.put (Nat.le_succ _) hl.2 hB
       · exact hpl.put _ hl.2 (by omega)
       · exact hJp _ _ _ _ (Nat.le_succ _) hl.2 hj
       · exact hd.put (by omega) hl.2
     · exact hpan S W2 c hc ho hk hst hd
def noDefers (ops:Array Oper):Bool:=ops.all fun o=>match o.op with | .defer _=>false | _=>true
section
variable {P:Program} {ops:Array Oper} {Q:Exit->Act->World->Prop} {md:Region.Mode} {l n:Nat}
theorem noDefers_spec (h:noDefers ops=true){i:Nat}{o:Oper}(hi:ops[i]?=some o):∀ c,o.op≠.defer c:=by
 intro c hc
 unfold noDefers at h
 rw [Array.all_eq_true] at h
 obtain⟨hlt,he⟩:=Array.getElem?_eq_some_iff.1 hi
 have:=h i hlt
 rw [he,hc] at this
 cases this
theorem wpOpIn_of_wpOp (hd:noDefers ops=true)(hQ:∀ a w,¬ Q .outgrown a w){i:Nat}{K K':Act->World->Prop}(hK:∀ a w,K a w->K' a w){a:Act}{w:World}(h:wpOp P ops Q i K a w) :
  wpOpIn (Fence.wide.inRound l) n P ops Q i K' a w:=by
 have hL:¬ LetsOut Q:=fun ⟨a0,w0,hq⟩=>hQ a0 w0 hq
 unfold wpOp at h
 unfold wpOpIn
 cases ho:ops[i]? with
 | none=>rw [ho] at h;exact hK _ _ h
 | some o =>
   rw [ho] at h
   simp only at h ⊢
   split
   · rename_i hw
     rw [if_pos hw] at h
     rcases h with h | ⟨_,h⟩
     · refine⟨fun _ _=>trivial,?_⟩
       rw [Oper.semAt_eq _ _ _ (noDefers_spec hd ho)]
       unfold Oper.wp at h
       generalize (execOp a.eval o).run P w=r at h
       cases r with
       | ok v w' =>
         cases v <;> simp only [Oper.upon,Oper.uponIn] at h ⊢
         case value v=>exact hK _ _ h
         case skip=>exact hK _ _ h
         case defer d=>exact hK _ _ h
         case enter f args =>
          refine⟨fun hx=>(by cases hx),(callsIn_wide.2 (Calls.mono h fun e w2 he=>?_):CallsIn Fence.wide (n-1) P f args w' _)⟩
          cases e with
          | returned v=>exact hK _ _ he
          | panicked c=>exact he
          | outgrown=>exact he
         case row row args =>
          refine⟨fun hx=>(by cases hx),fun c cs _=>?_⟩
          obtain⟨v,w2,hr,hs⟩:=h c cs
          exact⟨v,w2,hK _ _ hr,stepsIn_wide.2 hs⟩
       | halt x w'=>cases x <;> simp only [Oper.upon,Oper.uponIn] at h ⊢;exact h
     · exact absurd h hL
   · rename_i hw
     rw [if_neg hw] at h
     exact⟨fun _ _=>trivial,hK _ _ h⟩
theorem wpAnyIn_of_wpAny (hd:noDefers ops=true)(hQ:∀ a w,¬ Q .outgrown a w):∀ (fuel:Nat) (listed:Array Bool) (a:Act) (w:World),wpAny P md ops Q fuel listed a w->wpAnyIn (Fence.wide.inRound l) n P md ops Q fuel listed a w
 | 0,_,_,_,h=>h
 | fuel+1,_,_,_,h=>⟨h.1,fun i hi=>wpOpIn_of_wpOp hd hQ (fun a' w' h'=>wpAnyIn_of_wpAny hd hQ fuel _ a' w' h') (h.2 i hi)⟩
theorem wpIn_region_held {id:Nat}{a:Act}{w:World}{S:World->Prop}(hm:P.follows .mixedOrders=true)(hd:noDefers ops=true)(hQ:∀ a w,¬ Q .outgrown a w)(hS:S w.drew)
  (h:S w.drew->wpAnyH P .any ops Q S ops.size (Array.replicate ops.size false) a w.drew):(Code.region id ops true).wpIn (Fence.wide.inRound l) n P Q a w :=
 wpIn_region_any hm (wpAnyIn_of_wpAny hd hQ _ _ _ _ (wpAny_of_held _ _ _ _ (h hS)))
end
theorem wpF_block {P:Program}{f:FuncId}{Q:Exit->Act->World->Prop}{a:Act}{w:World}{id:Nat}{c:Code}(h:WpF P f c (Exit.inBlock id Q) a w):WpF P f (Code.block id c) Q a w:=by
 intro b k cs hro hb
 obtain⟨e,a₁,w₁,hq,harr⟩:=h b (.inBlock id :: k) cs hro hb
 cases e with
 | normal=>exact⟨.normal,a₁,w₁,hq,.head (fenced_wide _ _) stepR_block (StepsIn.trans harr (.one (fenced_wide _ _) stepR_inBlock))⟩
 | exit id' =>
   by_cases hid:id'=id
   · simp only [Exit.inBlock,hid,if_true] at hq
     exact⟨.normal,a₁,w₁,hq,.head (fenced_wide _ _) stepR_block (harr.1 k (by simp [exitTo,hid]))⟩
   · simp only [Exit.inBlock,hid,if_false] at hq
     have this:(id==id')=false:=by simp;exact fun h=>hid h.symm
     have hx:exitTo id' (.inBlock id :: k)=exitTo id' k:=by simp [exitTo,this]
     exact⟨.exit id',a₁,w₁,hq,fun k' hk=>.head (fenced_wide _ _) stepR_block (harr.1 k' (by rw [hx];exact hk)),
      fun hr' hk=>let ⟨k₁,h1,h2⟩:=harr.2 hr' (by rw [hx];exact hk);⟨k₁,h1,.head (fenced_wide _ _) stepR_block h2⟩⟩
 | goto l =>
   have hx:gotoIn l (.inBlock id :: k)=gotoIn l k:=by simp [gotoIn]
   exact⟨_,a₁,w₁,hq,fun k' hk=>.head (fenced_wide _ _) stepR_block (harr.1 k' (by rw [hx];exact hk)),
    fun hr' hk=>let ⟨k₁,h1,h2⟩:=harr.2 hr' (by rw [hx];exact hk);⟨k₁,h1,.head (fenced_wide _ _) stepR_block h2⟩⟩
 | ret=>exact⟨_,a₁,w₁,hq,.of_steps (.one (fenced_wide _ _) stepR_block) harr⟩
 | panic ch=>exact⟨_,a₁,w₁,hq,.of_steps (.one (fenced_wide _ _) stepR_block) harr⟩
 | outgrown=>exact⟨_,a₁,w₁,hq,.of_steps (.one (fenced_wide _ _) stepR_block) harr⟩
end Go.Proofs.YtbphlkaihfbgeaaGreat
