/-
  OnceOneSaid: part 2 of its proof.
-/
import Derived.Test.YtmmmiplmiooioaaGreatJOnceOneSaid1
import Derived.Laws.BitsLemmas
import Derived.ChangeKeysEq
import Derived.Laws.Rows
import Derived.Laws.Cells
import Derived.Deep.MidRow
import Derived.Deep.WholeRow
import Derived.ProofKit
import Derived.Deep.DeepCutAuto
namespace Kv
inductive NB | r | w1 | w2
deriving DecidableEq
inductive NO | o1 | o2 | o3 | o4
deriving DecidableEq
abbrev NP:=OP Bool NB NO
def onM (n me:Nat):OM Bool NB NO where
 base:=0
 n:=n
 me:=me
 enter:=fun b=>if b=true then .w2 else .r
 body:=fun
  | .r=>.rd (n:Int) fun v=>if v=0 then .inl .w1 else if v=2 then .inr .o2 else .inr .o3
  | .w1=>.wr (n:Int) 1 (.inr .o1)
  | .w2=>.wr (n:Int) 2 (.inr .o4)
 aft:=fun
  | .o3=>some false
  | _=>none
 sets:=fun
  | .o1=>some (0,1)
  | .o4=>some (0,0)
  | _=>none
 val:=fun
  | .o1=>1
  | _=>0
def onIs (ph:Nat):NP->Prop
 | .b x=>(ph=0/\x≠.w2)∨(ph=1/\x=.w2)
 | .o y=>(ph=0/\y≠.o4)∨(ph=1/\y=.o4)
 | .e _=>ph=2
 | p=>p.ctx?=some false/\ph=0∨p.ctx?=some true/\ph=1
theorem onIs_ctx {ph:Nat}{p:NP}{c:Bool}(h:p.ctx?=some c):onIs ph p↔(c=false/\ph=0∨c=true/\ph=1):=by
 cases p <;> first | (simp only [OP.ctx?,Option.some.injEq] at h;subst h;simp [onIs,OP.ctx?]) | (cases h)
structure OnS (n:Nat) (pc:Nat->NP) (ph:Nat->Nat) (ones:Nat) (over:Bool) (F:Nat->Int) (X:Int):Prop where
 ok:BOk n pc F
 is:∀ t,t<n->onIs (ph t) (pc t)
 x3:X=0∨X=1∨X=2
 w1:∀ t,t<n->pc t=.b .w1->X=0
 oa:∀ t,t<n->pc t=.o .o1->ones=0/\X≠0
 ob:ones<=1
 oc:X=0->ones=0
 ov1:X=2->over=true
 ov2:∀ t,t<n->pc t=.o .o2->over=true
structure OnC (n:Nat) (M:List Int) (F:Nat->Int) (X:Int):Prop where
 len:M.length=n+1
 fl:∀ t,t<n->M[t]?=some (F t)
 mx:M[n]?=some X
section
variable {n ones t:Nat} {over:Bool} {pc:Nat->NP} {ph:Nat->Nat} {F F':Nat->Int} {X:Int} {M:List Int}
theorem OnS.init (n:Nat):OnS n (fun _=>.st false) (fun _=>0) 0 false (fun _=>0) 0 :=
 ⟨.init n fun _=>false,fun _ _=>.inl ⟨rfl,rfl⟩,.inl rfl,fun _ _ h=>(nomatch h),fun _ _ h=>(nomatch h),by omega,fun _=>rfl,fun h=>by omega,fun _ _ h=>(nomatch h)⟩
theorem OnC.init (n:Nat):OnC n (zeros (n+1)) (fun _=>0) 0 :=
 ⟨by simp [zeros],fun t ht=>by unfold zeros;rw [List.getElem?_replicate,if_pos (by omega)],by unfold zeros;rw [List.getElem?_replicate,if_pos (by omega)]⟩
theorem OnC.flag (h:OnC n M F X)(ht:t<n)(v:Int):OnC n (M.set t v) (fun r=>if r=t then v else F r) X:=by
 refine⟨by rw [List.length_set];exact h.len,fun s hs=>?_,by rw [List.getElem?_set_ne (by omega)];exact h.mx⟩
 by_cases e:s=t
 · subst e
   rw [if_pos rfl,List.getElem?_set_self (by rw [h.len];omega)]
 · rw [if_neg e,List.getElem?_set_ne (Ne.symm e)]
   exact h.fl s hs
theorem OnC.cell (h:OnC n M F X)(v:Int):OnC n (M.set n v) F v :=
 ⟨by rw [List.length_set];exact h.len,fun s hs=>by rw [List.getElem?_set_ne (by omega)];exact h.fl s hs,by rw [List.getElem?_set_self (by rw [h.len];omega)]⟩
theorem OnS.lock (h:OnS n pc ph ones over F X){x:NP}{q:Nat}(hok:BOk n (putP pc t x) F')(hi:onIs q x)(hb:x≠.b .w1/\x≠.o .o1/\(x=.o .o2->over=true)):OnS n (putP pc t x) (fun s=>if s=t then q else ph s) ones over F' X:=by
 refine⟨hok,fun s hs=>?_,h.x3,fun s hs e=>?_,fun s hs e=>?_,h.ob,h.oc,h.ov1,fun s hs e=>?_⟩
 · by_cases e:s=t
   · subst e;rw [putP_self,if_pos rfl];exact hi
   · rw [putP_ne e,if_neg e];exact h.is s hs
 · by_cases e2:s=t
   · subst e2;rw [putP_self] at e;exact absurd e hb.1
   · rw [putP_ne e2] at e;exact h.w1 s hs e
 · by_cases e2:s=t
   · subst e2;rw [putP_self] at e;exact absurd e hb.2.1
   · rw [putP_ne e2] at e;exact h.oa s hs e
 · by_cases e2:s=t
   · subst e2;rw [putP_self] at e;exact hb.2.2 e
   · rw [putP_ne e2] at e;exact h.ov2 s hs e
theorem same_ph (ph:Nat->Nat)(t:Nat):(fun s=>if s=t then ph t else ph s)=ph:=funext fun s=>by
 by_cases e:s=t
 · rw [if_pos e,e]
 · rw [if_neg e]
end
end Kv
namespace Go.Proofs.YtmmmiplmiooioaaGreat
open Go.RowKit Kv
def onL (ph:Nat):List Int:=if ph=1 then [1] else []
structure OnInv (n D j:Nat) (pc:Nat->NP) (ph:Nat->Nat) (ones:Nat) (over:Bool) (F:Nat->Int) (X:Int) (M:List Int) (ans:Nat->List Int):Prop where
 s:OnS n pc ph ones over F X
 c:OnC n M F X
 pos:∀ t,t<n->(ans t).length<=j/\(ph t≠2->NPos (onM n t).ask D (onL (ph t)) (.st (decide (ph t=1))) (ans t) (pc t))
section
variable {n D j ones:Nat} {over:Bool} {pc:Nat->NP} {ph:Nat->Nat} {F:Nat->Int} {X:Int} {M:List Int} {ans:Nat->List Int}
theorem OnInv.start (n D j:Nat)(hD:0<D):OnInv n D j (fun _=>.st false) (fun _=>0) 0 false (fun _=>0) 0 (zeros (n+1)) (fun _=>[]) :=
 ⟨.init n,.init n,fun _ _=>⟨by simp,fun _=>NPos.start hD⟩⟩
theorem OnInv.more (h:OnInv n D j pc ph ones over F X M ans):OnInv n D (j+1) pc ph ones over F X M ans :=
 ⟨h.s,h.c,fun s hs=>⟨by have:=(h.pos s hs).1;omega,(h.pos s hs).2⟩⟩
def overAt (n:Nat) (over:Bool) (kind:Int) (i:Nat) (u:Int):Bool:=if kind=2 then (over||(decide ((i:Int)=n)&&decide (u=2))) else over
theorem OnInv.pick (h:OnInv n D j pc ph ones over F X M ans){t:Nat}(ht:t<n)(h1:ph t≠2)(hj:j+1<D) :
  ∃ (kind:Int) (i:Nat) (u y:Int) (M':List Int) (S1:TS) (l:List Acc),
   (treeN (onM n t).ask D (.st (decide (ph t=1)))).run (TS0 (onL (ph t)) (ans t))=(none,S1)/\S1.acc=l++[⟨kind,i,u⟩]/\l.length=(ans t).length/\i<M.length /\
   (kind=1/\M'=M∨kind=2/\M'=M.set i u)/\M'[i]?=some y /\
   ∃ pc' F' X' S2,
    ((treeN (onM n t).ask D (.st (decide (ph t=1)))).run (TS0 (onL (ph t)) (ans t++[y]))=(none,S2)/\OnInv n D (j+1) pc' ph ones (overAt n over kind i u) F' X' M' (fun s=>if s=t then ans t++[y] else ans s)) ∨
    ∃ v:Nat,(treeN (onM n t).ask D (.st (decide (ph t=1)))).run (TS0 (onL (ph t)) (ans t++[y]))=(some (v:Int),S2)/\v<=1/\(ph t=0->v=0->overAt n over kind i u=true)/\(v=1->S2.loc=(TS0 [1] []).loc) /\
     OnInv n D (j+1) pc' (fun s=>if s=t then 2-v else ph s) (ones+v) (overAt n over kind i u) F' X' M' (fun s=>if s=t then [] else ans s):=by
 obtain⟨p1,p2⟩:=h.pos t ht
 have p2:=p2 h1
 have hlen:=h.c.len
 -- going on
 have goes:∀ (x:NP) (F':Nat->Int) (X':Int) (M':List Int) (y:Int) (o':Bool),(∀ z,x≠.e z)->OnS n (putP pc t x) ph ones o' F' X'->OnC n M' F' X'->NPos (onM n t).ask D (onL (ph t)) (.st (decide (ph t=1))) (ans t++[y]) x ->
   ∃ pc' F' X' S2,((treeN (onM n t).ask D (.st (decide (ph t=1)))).run (TS0 (onL (ph t)) (ans t++[y]))=(none,S2)/\OnInv n D (j+1) pc' ph ones o' F' X' M' (fun s=>if s=t then ans t++[y] else ans s)) ∨
    ∃ v:Nat,(treeN (onM n t).ask D (.st (decide (ph t=1)))).run (TS0 (onL (ph t)) (ans t++[y]))=(some (v:Int),S2)/\v<=1/\(ph t=0->v=0->o'=true)/\(v=1->S2.loc=(TS0 [1] []).loc) /\
     OnInv n D (j+1) pc' (fun s=>if s=t then 2-v else ph s) (ones+v) o' F' X' M' (fun s=>if s=t then [] else ans s):=by
  intro x F' X' M' y o' q1 q2 q3 q4
  obtain⟨S2,hr⟩:=q4.more q1
  refine⟨putP pc t x,F',X',S2,.inl ⟨hr,q2,q3,fun s hs=>?_⟩⟩
  by_cases e:s=t
  · subst e
    rw [if_pos rfl,putP_self]
    exact⟨by simp;omega,fun _=>q4⟩
  · rw [if_neg e,putP_ne e]
    exact h.more.pos s hs
 have hmore:=h.more.pos
 cases h.s.ok.does (M:=onM n t) ht rfl with
 | look jj k hjn hk hne hc hok =>
   obtain⟨⟨S1,l,hr,ha,hl⟩,hn⟩:=p2.rd hk
   have hjn:jj<n:=hjn
   have e0:(onM n t).base+(jj:Int)=jj:=by show (0:Int)+jj=jj;omega
   rw [e0] at ha
   obtain⟨c,hc1,hc2⟩:=hc
   have hi:onIs (ph t) (k (F jj)):=(onIs_ctx hc2).2 ((onIs_ctx hc1).1 (h.s.is t ht))
   have hs:=h.s.lock (q:=ph t) hok hi ⟨fun e=>(hne .o1).1 (by rw [e];trivial),fun e=>(hne .o1).1 (by rw [e];trivial),fun e=>absurd (show (k (F jj)).ins by rw [e];trivial) (hne .o1).1⟩
   rw [same_ph] at hs
   exact⟨1,jj,0,F jj,M,S1,l,hr,ha,hl,by omega,.inl ⟨rfl,rfl⟩,h.c.fl jj hjn,goes _ F X M (F jj) over (fun x=>(hne x).2) hs h.c (hn (F jj) (by omega))⟩
 | tell v s hv hk hcase hok =>
   obtain⟨⟨S1,l,hr,ha,hl⟩,hn⟩:=p2.wr hk
   have hn:=hn v (by omega)
   have e0:(onM n t).base+(t:Int)=t:=by show (0:Int)+t=t;omega
   rw [e0] at ha
   have hov:overAt n over 2 t v=over:=by
    unfold overAt
    rw [if_pos rfl,show decide ((t:Int)=n)=false from by rw [decide_eq_false_iff_not];omega]
    simp
   refine⟨2,t,v,v,M.set t v,S1,l,hr,ha,hl,by omega,.inr ⟨rfl,rfl⟩,List.getElem?_set_self (by omega),?_⟩
   rw [hov]
   rcases hcase with⟨⟨c,hc1,hc2⟩,hni⟩ | ⟨y,hy,hs⟩
   · have hi:onIs (ph t) s:=(onIs_ctx hc2).2 ((onIs_ctx hc1).1 (h.s.is t ht))
     have hq:=h.s.lock (q:=ph t) hok hi ⟨fun e=>hni (by rw [e];trivial),fun e=>hni (by rw [e];trivial),fun e=>absurd (show s.ins by rw [e];trivial) hni⟩
     rw [same_ph] at hq
     exact goes s _ X _ v over (ctx_not hc2).2 hq (h.c.flag ht v) hn
   · have his:=h.s.is t ht
     rw [hy] at his
     have hins:(pc t).ins:=by rw [hy];trivial
     have hpast:∀ j,j<n->j≠t->(pc t).past t j:=fun j _ _=>by rw [hy];trivial
     subst hs
     cases y with
     | o3 =>
       have hi:onIs (ph t) ((onM n t).behind .o3):=by
        rcases his with⟨q,_⟩ | ⟨_,q⟩
        · exact .inl ⟨rfl,q⟩
        · cases q
       have hq:=h.s.lock (q:=ph t) hok hi ⟨fun e=>(nomatch e),fun e=>(nomatch e),fun e=>(nomatch e)⟩
       rw [same_ph] at hq
       exact goes (.st false) _ X _ v over (fun z e=>(nomatch e)) hq (h.c.flag ht v) hn
     | o1 =>
       have hph:ph t=0:=by
        rcases his with⟨q,_⟩ | ⟨_,q⟩
        · exact q
        · cases q
       obtain⟨S2,hr2,_,hloc⟩:=hn.sfin (i:=0) (v:=1) (a:=1) rfl (by omega)
       have hq:=h.s.oa t ht hy
       refine⟨putP pc t (.st true),_,X,S2,.inr ⟨1,hr2,by omega,fun _ e=>(nomatch e),fun _=>?_,⟨?_,h.c.flag ht v,fun s hs=>?_⟩⟩⟩
       · rw [hloc,hph]
         funext i
         show (if i=(0:Int).toNat then (1:Int) else ([]:List Int).getD i 0)=([1]:List Int).getD i 0
         cases i with
         | zero=>rfl
         | succ i=>simp
       · have hok2:BOk n (putP pc t (.st true)) (fun r=>if r=t then v else F r):=h.s.ok.step ht _ (fun s hs=>if_neg hs) (fun q=>q.elim) (fun i _ _ q=>q.elim) trivial
         have h2:=h.s.lock (q:=1) hok2 (.inr ⟨rfl,rfl⟩) ⟨fun e=>(nomatch e),fun e=>(nomatch e),fun e=>(nomatch e)⟩
         refine⟨h2.ok,h2.is,h2.x3,h2.w1,fun s hs e=>?_,by omega,fun e=>absurd e hq.2,h2.ov1,h2.ov2⟩
         by_cases e2:s=t
         · subst e2;rw [putP_self] at e;cases e
         · rw [putP_ne e2] at e
           exact (h.s.ok.alone ht hs (Ne.symm e2) hpast (by rw [e];trivial)).elim
       · by_cases e:s=t
         · subst e
           rw [if_pos rfl,if_pos rfl,putP_self]
           exact⟨by simp,fun _=>NPos.start (by omega)⟩
         · rw [if_neg e,if_neg e,putP_ne e]
           exact hmore s hs
     | o2 =>
       have hph:ph t=0:=by
        rcases his with⟨q,_⟩ | ⟨_,q⟩
        · exact q
        · cases q
       obtain⟨S2,hr2,_,hloc⟩:=hn.fin (a:=0) rfl
       have h2:=h.s.lock (q:=2) hok (show onIs 2 (.e .o2) from rfl) ⟨fun e=>(nomatch e),fun e=>(nomatch e),fun e=>(nomatch e)⟩
       refine⟨putP pc t (.e .o2),_,X,S2,.inr ⟨0,hr2,by omega,fun _ _=>h.s.ov2 t ht hy,fun e=>(nomatch e),⟨h2,h.c.flag ht v,fun s hs=>?_⟩⟩⟩
       by_cases e:s=t
       · subst e
         rw [if_pos rfl,if_pos rfl]
         exact⟨by simp,fun e=>absurd rfl e⟩
       · rw [if_neg e,if_neg e,putP_ne e]
         exact hmore s hs
     | o4 =>
       have hph:ph t=1:=by
        rcases his with⟨_,q⟩ | ⟨q,_⟩
        · exact absurd rfl q
        · exact q
       obtain⟨S2,hr2,_,hloc⟩:=hn.sfin (i:=0) (v:=0) (a:=0) rfl (by omega)
       have h2:=h.s.lock (q:=2) hok (show onIs 2 (.e .o4) from rfl) ⟨fun e=>(nomatch e),fun e=>(nomatch e),fun e=>(nomatch e)⟩
       refine⟨putP pc t (.e .o4),_,X,S2,.inr ⟨0,hr2,by omega,fun e=>by omega,fun e=>(nomatch e),⟨h2,h.c.flag ht v,fun s hs=>?_⟩⟩⟩
       by_cases e:s=t
       · subst e
         rw [if_pos rfl,if_pos rfl]
         exact⟨by simp,fun e=>absurd rfl e⟩
       · rw [if_neg e,if_neg e,putP_ne e]
         exact hmore s hs
 | body x hx hk hpast hone =>
   have hpast:∀ j,j<n->j≠t->(pc t).past t j:=hpast
   have hall:∀ s,s<n->s≠t->¬ (pc s).ins:=fun s hs hne hi=>h.s.ok.alone ht hs (Ne.symm hne) hpast hi
   have hinner:=h.s.ok.inner (M:=onM n t) ht hpast hone
   rw [bask_strip] at hk
   have hx3:=h.s.x3
   cases x with
   | r =>
     have hph:ph t=0:=by
      rcases hx with e | ⟨c,e1,e2⟩
      · have:=h.s.is t ht
        rw [e] at this
        rcases this with⟨q,_⟩ | ⟨_,q⟩
        · exact q
        · cases q
      · rcases (onIs_ctx e1).1 (h.s.is t ht) with⟨q,q2⟩ | ⟨q,_⟩
        · exact q2
        · subst q;cases e2
     obtain⟨⟨S1,l,hr,ha,hl⟩,hn⟩:=p2.rd (c:=(n:Int)) (k:=fun v=>OM.nxt (κ:=Bool) (if v=0 then .inl NB.w1 else if v=2 then .inr NO.o2 else .inr NO.o3)) hk
     have hn:=hn X (by omega)
     refine⟨1,n,0,X,M,S1,l,hr,ha,hl,by omega,.inl ⟨rfl,rfl⟩,h.c.mx,?_⟩
     show ∃ pc' F' X' S2,_∨_
     rcases hx3 with e | e | e
     · subst e
       have hq:=hinner (.inl .w1)
       refine goes (.b .w1) F 0 M 0 over (fun z e=>(nomatch e)) ⟨hq,fun s hs=>?_,.inl rfl,fun _ _ _=>rfl,fun s hs e=>?_,h.s.ob,h.s.oc,h.s.ov1,fun s hs e=>?_⟩ h.c hn
       · by_cases e:s=t
         · subst e;rw [putP_self];exact .inl ⟨hph,by decide⟩
         · rw [putP_ne e];exact h.s.is s hs
       · by_cases e2:s=t
         · subst e2;rw [putP_self] at e;cases e
         · rw [putP_ne e2] at e;exact h.s.oa s hs e
       · by_cases e2:s=t
         · subst e2;rw [putP_self] at e;cases e
         · rw [putP_ne e2] at e;exact h.s.ov2 s hs e
     · subst e
       have hq:=hinner (.inr .o3)
       have h2:=h.s.lock (q:=ph t) hq (show onIs (ph t) (.o .o3) from .inl ⟨hph,by decide⟩) ⟨fun e=>(nomatch e),fun e=>(nomatch e),fun e=>(nomatch e)⟩
       rw [same_ph] at h2
       exact goes (.o .o3) F 1 M 1 over (fun z e=>(nomatch e)) h2 h.c hn
     · subst e
       have hq:=hinner (.inr .o2)
       have h2:=h.s.lock (q:=ph t) hq (show onIs (ph t) (.o .o2) from .inl ⟨hph,by decide⟩) ⟨fun e=>(nomatch e),fun e=>(nomatch e),fun _=>h.s.ov1 rfl⟩
       rw [same_ph] at h2
       exact goes (.o .o2) F 2 M 2 over (fun z e=>(nomatch e)) h2 h.c hn
   | w1 =>
     have hpc:pc t=.b .w1:=by
      rcases hx with e | ⟨c,_,e2⟩
      · exact e
      · cases c <;> cases e2
     have hph:ph t=0:=by
      have:=h.s.is t ht
      rw [hpc] at this
      rcases this with⟨q,_⟩ | ⟨_,q⟩
      · exact q
      · cases q
     have hX:=h.s.w1 t ht hpc
     have ho:=h.s.oc hX
     obtain⟨⟨S1,l,hr,ha,hl⟩,hn⟩:=p2.wr (c:=(n:Int)) (u:=1) (s':=OM.nxt (κ:=Bool) (β:=NB) (.inr NO.o1)) hk
     have hn:=hn 1 (by omega)
     have hov:overAt n over 2 n 1=over:=by unfold overAt;simp
     refine⟨2,n,1,1,M.set n 1,S1,l,hr,ha,hl,by omega,.inr ⟨rfl,rfl⟩,List.getElem?_set_self (by omega),?_⟩
     rw [hov]
     have hq:=hinner (.inr .o1)
     refine goes (.o .o1) F 1 _ 1 over (fun z e=>(nomatch e)) ⟨hq,fun s hs=>?_,.inr (.inl rfl),fun s hs e=>?_,fun s hs e=>⟨ho,by omega⟩,h.s.ob,fun e=>by omega,fun e=>by omega,fun s hs e=>?_⟩ (h.c.cell 1) hn
     · by_cases e:s=t
       · subst e;rw [putP_self];exact .inl ⟨hph,by decide⟩
       · rw [putP_ne e];exact h.s.is s hs
     · by_cases e2:s=t
       · subst e2;rw [putP_self] at e;cases e
       · rw [putP_ne e2] at e;exact absurd (show (pc s).ins by rw [e];trivial) (hall s hs e2)
     · by_cases e2:s=t
       · subst e2;rw [putP_self] at e;cases e
       · rw [putP_ne e2] at e;exact h.s.ov2 s hs e
   | w2 =>
     have hph:ph t=1:=by
      rcases hx with e | ⟨c,e1,e2⟩
      · have:=h.s.is t ht
        rw [e] at this
        rcases this with⟨_,q⟩ | ⟨q,_⟩
        · exact absurd rfl q
        · exact q
      · rcases (onIs_ctx e1).1 (h.s.is t ht) with⟨q,_⟩ | ⟨_,q⟩
        · subst q;cases e2
        · exact q
     obtain⟨⟨S1,l,hr,ha,hl⟩,hn⟩:=p2.wr (c:=(n:Int)) (u:=2) (s':=OM.nxt (κ:=Bool) (β:=NB) (.inr NO.o4)) hk
     have hn:=hn 2 (by omega)
     have hov:overAt n over 2 n 2=true:=by unfold overAt;simp
     refine⟨2,n,2,2,M.set n 2,S1,l,hr,ha,hl,by omega,.inr ⟨rfl,rfl⟩,List.getElem?_set_self (by omega),?_⟩
     rw [hov]
     have hq:=hinner (.inr .o4)
     refine goes (.o .o4) F 2 _ 2 true (fun z e=>(nomatch e)) ⟨hq,fun s hs=>?_,.inr (.inr rfl),fun s hs e=>?_,fun s hs e=>?_,h.s.ob,fun e=>by omega,fun _=>rfl,fun _ _ _=>rfl⟩ (h.c.cell 2) hn
     · by_cases e:s=t
       · subst e;rw [putP_self];exact .inr ⟨hph,rfl⟩
       · rw [putP_ne e];exact h.s.is s hs
     · by_cases e2:s=t
       · subst e2;rw [putP_self] at e;cases e
       · rw [putP_ne e2] at e;exact absurd (show (pc s).ins by rw [e];trivial) (hall s hs e2)
     · by_cases e2:s=t
       · subst e2;rw [putP_self] at e;cases e
       · rw [putP_ne e2] at e;exact absurd (show (pc s).ins by rw [e];trivial) (hall s hs e2)
 | done y hy =>
   have:=h.s.is t ht
   rw [hy] at this
   exact absurd this h1
end
end Go.Proofs.YtmmmiplmiooioaaGreat
namespace Kv
section
variable {κ β ο:Type} {M:OM κ β ο} {D:Nat} {α:Type}
theorem in_step (k:κ)(S:TS)(hS:S.left<D):(treeN M.ask D (.st k)).run S=(((oneA D M.base M.n M.me).bind fun _=>Prog.ret ()).bind fun _=>(M.bask (M.enter k)).tree (treeN M.ask D)).run S:=by
 rw [one_in k S hS,Prog.bind_assoc]
 rfl
theorem out_step (y:ο)(S:TS)(hS:S.left<D):(treeN M.ask D (.o y)).run S=((oneR M.base M.me).bind fun _=>treeN M.ask D (M.behind y)).run S:=one_out y S hS
theorem rd_step {x:β}{c:Int}{k:Int->β ⊕ ο}(hx:M.body x=.rd c k):(M.bask x).tree (treeN M.ask D)=(rd c).bind fun v=>treeN M.ask D (OM.nxt (k v)):=by
 unfold OM.bask
 rw [hx]
 rfl
theorem wr_step {x:β}{c v:Int}{s:β ⊕ ο}(hx:M.body x=.wr c v s):(M.bask x).tree (treeN M.ask D)=(wr c v).bind fun _=>treeN M.ask D (OM.nxt s):=by
 unfold OM.bask
 rw [hx]
 rfl
theorem at_step (x:β)(S:TS)(hS:S.left<D):(treeN M.ask D (.b x)).run S=((M.bask x).tree (treeN M.ask D)).run S:=treeN_ask (ask:=M.ask) (s:=.b x) S hS
theorem set_step {y:ο}{i v:Int}(hy:M.sets y=some (i,v))(S:TS)(hS:S.left<D):(treeN M.ask D (.e y)).run S=((st i v).bind fun _=>Prog.ret (M.val y)).run S:=by
 rw [treeN_ask S hS,show M.ask (.e y)=.st i v (.fin (M.val y)) from by show (match M.sets y with | some (i,v)=>Query.st i v (.fin (M.val y)) | none=>.fin (M.val y))=_;rw [hy]]
 rfl
theorem end_step {y:ο}(hy:M.sets y=none)(S:TS)(hS:S.left<D):(treeN M.ask D (.e y)).run S=(some (M.val y),S):=by
 rw [treeN_ask S hS,show M.ask (.e y)=.fin (M.val y) from by show (match M.sets y with | some (i,v)=>Query.st i v (.fin (M.val y)) | none=>.fin (M.val y))=_;rw [hy]]
 rfl
theorem notes_in1 (D:Nat)(base:Int)(n me:Nat)(h:(oneA D base n me).Notes 4):((oneA D base n me).bind fun _=>Prog.ret ()).Notes 4:=Prog.Notes.bind (n:=4) (m:=0) h fun _=>.ret _ _
theorem notes_oneR (base me:Int):(oneR base me).Notes 1:=Prog.Notes.bind (n:=1) (m:=0) (notes_nt 5) fun _=>notes_wr _ _
end
end Kv
namespace Go.Proofs.YtmmmiplmiooioaaGreat
open Go.RowKit Kv
theorem RegsAt.one {ix:List Nat}{p b z:Nat}{w w':World}{l:List Reg}(h:RegsAt ix w p b l)(o:OneB z w w')(hb:b≠z)(hn:¬ ownR ix w p z):RegsAt ix w' p b l:=by
 refine⟨by rw [o.size];exact h.lt,fun h'=>h.own ((ownR_same (o.block p (fun e=>hn (.inl e.symm))) b).1 h'),fun i u hu=>?_⟩
 exact (World.cell?_of_block (w:=w) (a:=⟨b,i,none⟩) (o.block b hb)).trans (h.cells i u hu)
theorem RegsAt.ne {ix:List Nat}{p b z:Nat}{w:World}{l:List Reg}{cs:Array Value}{T:TypeId}{r:Reg}(h:RegsAt ix w p b l)(hr:l[0]?=some r)(hz:w.heap[z]?=some (.cells cs T (0,0)))(hc:cs.size<7):b≠z:=fun e=>by
 obtain⟨_,_,_,_,_,_,h6⟩:=h.nth hr
 rw [e,cell_of_heap hz] at h6
 have:=(Array.getElem?_eq_some_iff.1 h6).1
 omega
theorem Held.setB {ix:List Nat}{w:World}{p z:Nat}{cs:Array Value}{t:TypeId}(h:Held ix w p z (.cells cs t (0,0)))(i:Nat)(v:Value):Held ix (w.setCell ⟨z,i,none⟩ v) p z (.cells (cs.setIfInBounds i v) t (0,0)) :=
 ⟨heap_setCell h.1 v,fun h'=>h.2 ((ownR_same ((OneB.setCell w z i v).block p (fun e=>h.2 (.inl e.symm))) z).1 h')⟩
def encRp (x:Int):Value:=.agg #[.int .i64 0,.int .i64 x]
@[go_sem] theorem encRp_eq (x:Int):encRp x=.agg #[.int .i64 0,.int .i64 x]:=rfl
theorem results_cell9 {fn:Func}{p:Tmp}{ty:TypeId}(h:fn.results=#[.cell p ty])(tmps:Array Value)(P:Program)(w:World) :
  (results fn tmps).run P w=((asAddr (tmps.getD p undef)).run P w).andThen fun a w1=>(loadVar ty a).run P w1:=by
 simp only [results,h]
 simp [Sem.run_bind,Result.andThen]
set_option maxRecDepth 100000 in
theorem reply_post {fn:Func}{q:Tmp}{R:Ending->World->Prop}{W:World}{z:Nat}{x0 x1:Int}{a:Act}(hfn:fn.results=#[.cell q 39])(hz:W.heap[z]?=some (.cells #[.int .i64 x0,.int .i64 x1] 39 (0,0)))(ha:a.tmps.getD q undef=.pointer (some ⟨z,0,none⟩))
  (hd:a.defers=[])(hR:R (.returned (.agg #[.int .i64 x0,.int .i64 x1])) W):bodyPost Tryz.prog fn R .ret a W:=by
 have hld:(loadVar 39 ⟨z,0,none⟩).run Tryz.prog W=.ok (.agg #[.int .i64 x0,.int .i64 x1]) W:=run_loadVar_row _ _ _ _ _ _ _ hz Tryz.underlying39 rfl (by rfl)
 refine bodyPost_ret (v:=.agg #[.int .i64 x0,.int .i64 x1]) ?_ hd hR
 rw [results_cell9 hfn,ha]
 simp [asAddr,Result.andThen,hld]
theorem held2 {w0 w:World}{B p z:Nat}{S:TS}{a b:Value}{T:TypeId}(hz:HeldP w p z (.cells #[a,b] T (0,0)))(hP:Plays B w p S)(hK:KeepP B p w0 w)(hB:B<=w0.heap.size)(hz0:w0.heap.size<=z)(x0 x1:Value) :
  HeldP ((w.setCell ⟨z,0,none⟩ x0).setCell ⟨z,1,none⟩ x1) p z (.cells #[x0,x1] T (0,0))/\Plays B ((w.setCell ⟨z,0,none⟩ x0).setCell ⟨z,1,none⟩ x1) p S/\KeepP B p w0 ((w.setCell ⟨z,0,none⟩ x0).setCell ⟨z,1,none⟩ x1):=by
 have h1:=hz.setB 0 x0
 have h2:=h1.setB 1 x1
 have o:OneB z w ((w.setCell ⟨z,0,none⟩ x0).setCell ⟨z,1,none⟩ x1):=⟨rfl,rfl,rfl,by simp,fun k hk=>(heap_setCell_ne _ _ hk).trans (heap_setCell_ne _ _ hk)⟩
 exact⟨h2,hP.one o hz.2 (by omega),hK.one o hz0 hz.2 hB⟩
set_option maxRecDepth 100000 in
set_option maxHeartbeats 2000000 in
theorem come_p (B p n D me:Nat)(S:TS)(w:World)(h:Plays B w p S)(h1:1<=n)(h8:n<=8)(hm:me<n)(hD:S.left<D)(hn0:S.nts.length+10*S.left<=90000)(hg:S.got 0=0) :
  Calls Tryz.prog 11 #[.pointer (some ⟨p,0,none⟩),.agg #[.int .i64 0,.int .i64 0,.int .i64 0,.int .i64 0,.int .i64 0,.int .i64 0,.int .i64 0,.int .i64 0,.int .i64 2,.int .i64 n,.int .i64 1,.int .i64 0,.int .i64 0,.int .i64 1,.int .i64 0,.int .i64 0,.int .i64 0,.int .i64 0,.int .i64 0,.int .i64 0,.int .i64 0,.int .i64 n,.int .i64 0],.int .i64 me] w (Post encRp B p w ((treeN (onM n me).ask D (.st false)).run S)):=by
 generalize hR:Post encRp B p w ((treeN (onM n me).ask D (.st false)).run S)=R
 have hO:Owes R encRp B p w ((treeN (onM n me).ask D (.st false)).run S):=hR▸owes _ _ _ _ _
 clear hR
 obtain⟨b1,b2,hK,hP⟩:=h.entry2 (.cells #[.int .i64 0,.int .i64 0,.int .i64 0,.int .i64 0,.int .i64 0,.int .i64 0,.int .i64 0,.int .i64 0,.int .i64 2,.int .i64 n,.int .i64 1,.int .i64 0,.int .i64 0,.int .i64 1,.int .i64 0,.int .i64 0,.int .i64 0,.int .i64 0,.int .i64 0,.int .i64 0,.int .i64 0,.int .i64 n,.int .i64 0] 31) (.cells #[.int .i64 0,.int .i64 0] 39)
 have c_b1:=b1.cells
 have c_b2:=b2.cells
 have hB:=h.le
 clear h
 have hOh:=Lib.hid hO
 clear hO
 go_enter Tryz.func11,Tryz.ntmps11
 go_wp2_with fail
 refine (get_p B p S 0 _ hP).mono ?_
 rintro e w' ⟨rfl,rfl⟩
 rw [hg]
 clear hg
 have hzz:w.heap.size<=w.heap.size+1:=by omega
 generalize hz1:w.heap.size+1=z1 at *
 generalize hz:w.heap.size=z at b1 ⊢
 generalize World.alloc (World.alloc w _) _=W0 at *
 clear c_b1 c_b2 hz hz1
 go_wp2_with fail
 go_loopw [] (fun wr'=>∃ (S2:TS),Plays B wr' p S2/\KeepP B p w wr'/\HeldP wr' p z (.cells #[.int .i64 0,.int .i64 0,.int .i64 0,.int .i64 0,.int .i64 0,.int .i64 0,.int .i64 0,.int .i64 0,.int .i64 2,.int .i64 n,.int .i64 1,.int .i64 0,.int .i64 0,.int .i64 1,.int .i64 0,.int .i64 0,.int .i64 0,.int .i64 0,.int .i64 0,.int .i64 0,.int .i64 0,.int .i64 n,.int .i64 0] 31)/\HeldP wr' p z1 (.cells #[.int .i64 0,.int .i64 0] 39)/\S2.left<D/\S2.nts.length+10*S2.left<=90000/\Hid (Owes R encRp B p w ((treeN (onM n me).ask D (.st false)).run S2))) (fun wr'=>leftW 1 3 wr' p)
 case atStart=>exact⟨S,hP,hK,b1,b2,hD,hn0,hOh⟩
 case round =>
  clear hP hK b1 b2 hD hn0 hOh
  obtain⟨S2,hP,hK,b1,b2,hD,hn0,hO⟩:=hrel
  replace hO:=hO.out
  have hlw:=Lib.hid hP.left
  rw [in_step _ _ hD] at hO
  have hOh:=Lib.hid hO
  clear hO
  have c_b1:=b1.cells
  have hwn:=IntWalk.i64_in ((n:Int)+0) (by omega)
  go_wp2_with fail
  clear c_b1
  refine tstepA (notes_in1 D 0 n me (notes_oneA D 0 n me)) hOh.out hK (ob_in B p n D S2 1 0 0 1 me _ hP h1 h8 hm (by omega) hD (by omega)) (fun _ h=>⟨rfl,h⟩) ?_
  clear hOh hK hP
  intro u S3 wn hrun hlf hla hnn hP hk hK hO
  replace b1:=b1.keep hk;replace b2:=b2.keep hk
  have hD3:S3.left<D:=by omega
  have hn3:S3.nts.length+10*S3.left<=90004:=by omega
  clear hk hrun hla
  rw [rd_step (M:=onM n me) (x:=(onM n me).enter false) rfl] at hO
  have hOh:=Lib.hid hO
  clear hO
  have c_b1:=b1.cells
  go_wp2_with fail
  clear c_b1
  refine tstepA (notes_rd _) hOh.out hK (read_p B p S3 _ _ hP) (fun _ h=>⟨rfl,h⟩) ?_
  clear hOh hK hP
  intro x S4 wn hrun hlf4 hla hnn4 hP hk hK hO
  have hl4:=hla (asks_rd _)
  replace b1:=b1.keep hk;replace b2:=b2.keep hk
  have hD4:S4.left<D:=by omega
  have hn4:S4.nts.length+10*S4.left<=89994:=by omega
  have hn44:S4.nts.length+10*S4.left+6<=90000:=by omega
  clear hk hrun hla
  have c_b1:=b1.cells
  by_cases hx:x=0
  · subst hx
    have hO2:Owes R encRp B p w ((treeN (onM n me).ask D (.b .w1)).run S4):=hO
    rw [at_step _ _ hD4,wr_step (M:=onM n me) (x:=.w1) rfl] at hO2
    have hOh:=Lib.hid hO2
    clear hO hO2
    go_wp2_with fail
    clear c_b1
    refine tstepA (notes_wr _ _) hOh.out hK (write_p B p S4 _ _ _ hP) (fun _ h=>⟨rfl,h⟩) ?_
    clear hOh hK hP
    intro u S5 wn hrun hlf5 hla hnn5 hP hk hK hO
    replace b1:=b1.keep hk;replace b2:=b2.keep hk
    have hD5:S5.left<D:=by omega
    have hn5:S5.nts.length<=100000:=by omega
    clear hk hrun hla
    replace hO:Owes R encRp B p w ((treeN (onM n me).ask D (.o .o1)).run S5):=hO
    rw [out_step _ _ hD5] at hO
    have hOh:=Lib.hid hO
    clear hO
    have c_b1:=b1.cells
    go_wp2_with fail
    clear c_b1
    refine tstepA (notes_oneR _ _) hOh.out hK (ob_out B p n S5 1 0 0 1 me _ hP h8 hm (by omega) hn5) (fun _ h=>⟨rfl,h⟩) ?_
    clear hOh hK hP
    intro u S6 wn hrun hlf6 hla hnn6 hP hk hK hO
    replace b1:=b1.keep hk;replace b2:=b2.keep hk
    have hD6:S6.left<D:=by omega
    clear hk hrun hla
    replace hO:Owes R encRp B p w ((treeN (onM n me).ask D (.e .o1)).run S6):=hO
    rw [set_step (M:=onM n me) (y:=.o1) rfl _ hD6] at hO
    have hOh:=Lib.hid hO
    clear hO
    have c_b1:=b1.cells
    go_wp2_with fail
    clear c_b1
    refine tstep hOh.out hK (setO hP) (fun _ h=>⟨rfl,h⟩) ?_
    clear hOh hK hP
    intro u S7 w7 hr hP hk1 hK hO
    replace b2:=b2.keep hk1
    clear hr hk1 b1
    have c_b2:=b2.cells
    have f_b2:=fun i=>frozen_of_heap b2.1 i
    go_wp2_with fail
    obtain⟨g1,g2,g3⟩:=held2 b2 hP hK hB hzz (.int .i64 0) (.int .i64 1)
    have hf:=hO.done g2 g3
    have c_g1:=g1.cells
    clear hO hP hK b2 c_b2 f_b2 g2 g3
    exact reply_post rfl g1.1 rfl rfl hf
  · have dx:(x==0)=false:=by rw [beq_eq_false_iff_ne];exact hx
    by_cases hx2:x=2
    · subst hx2
      have hO2:Owes R encRp B p w ((treeN (onM n me).ask D (.o .o2)).run S4):=hO
      rw [out_step _ _ hD4] at hO2
      have hOh:=Lib.hid hO2
      clear hO hO2 dx hx
      go_wp2_with fail
      clear c_b1
      refine tstepA (notes_oneR _ _) hOh.out hK (ob_out B p n S4 1 0 0 1 me _ hP h8 hm (by omega) (by omega)) (fun _ h=>⟨rfl,h⟩) ?_
      clear hOh hK hP
      intro u S6 wn hrun hlf6 hla hnn6 hP hk hK hO
      have hD6:S6.left<D:=by omega
      replace b2:=b2.keep hk
      clear hk hrun hla b1
      replace hO:Owes R encRp B p w ((treeN (onM n me).ask D (.e .o2)).run S6):=hO
      rw [end_step (M:=onM n me) (y:=.o2) rfl _ hD6] at hO
      have c_b2:=b2.cells
      have f_b2:=fun i=>frozen_of_heap b2.1 i
      go_wp2_with fail
      obtain⟨g1,g2,g3⟩:=held2 b2 hP hK hB hzz (.int .i64 0) (.int .i64 0)
      have hf:=hO.done g2 g3
      have c_g1:=g1.cells
      clear hO hP hK b2 c_b2 f_b2 g2 g3
      exact reply_post rfl g1.1 rfl rfl hf
    · have dx2:(x==2)=false:=by rw [beq_eq_false_iff_ne];exact hx2
      have hO2:Owes R encRp B p w ((treeN (onM n me).ask D (.o .o3)).run S4):=by
       have e:OM.nxt (κ:=Bool) (if x=0 then .inl NB.w1 else if x=2 then .inr NO.o2 else .inr NO.o3)=.o .o3:=by rw [if_neg hx,if_neg hx2];rfl
       rw [<- e]
       exact hO
      rw [out_step _ _ hD4] at hO2
      have hOh:=Lib.hid hO2
      clear hO hO2 hx hx2
      go_wp2_with fail
      clear c_b1
      refine tstepA (notes_oneR _ _) hOh.out hK (ob_out B p n S4 1 0 0 1 me _ hP h8 hm (by omega) (by omega)) (fun _ h=>⟨rfl,h⟩) ?_
      clear hOh hK hP
      intro u S6 wn hrun hlf6 hla hnn6 hP hk hK hO
      replace b1:=b1.keep hk;replace b2:=b2.keep hk
      have hD6:S6.left<D:=by omega
      have hn6:S6.nts.length+10*S6.left<=90000:=by omega
      clear hk hrun hla
      have hOh:Hid (Owes R encRp B p w ((treeN (onM n me).ask D (.st false)).run S6)):=hO
      have hlw6:=Lib.hid hP.left
      clear hO
      go_wp2_with fail
      refine⟨⟨S6,hP,hK,b1,b2,hD6,hn6,hOh⟩,?_⟩
      rw [hlw.out,hlw6.out]
      omega
set_option maxRecDepth 100000 in
set_option maxHeartbeats 2000000 in
theorem done_p (B p n D me:Nat)(S:TS)(w:World)(h:Plays B w p S)(h1:1<=n)(h8:n<=8)(hm:me<n)(hD:S.left<D)(hn0:S.nts.length+10*S.left<=90000)(hg:S.got 0=1) :
  Calls Tryz.prog 10 #[.pointer (some ⟨p,0,none⟩),.agg #[.int .i64 0,.int .i64 0,.int .i64 0,.int .i64 0,.int .i64 0,.int .i64 0,.int .i64 0,.int .i64 0,.int .i64 2,.int .i64 n,.int .i64 1,.int .i64 0,.int .i64 0,.int .i64 1,.int .i64 0,.int .i64 0,.int .i64 0,.int .i64 0,.int .i64 0,.int .i64 0,.int .i64 0,.int .i64 n,.int .i64 0],.int .i64 me] w (Post encI B p w ((treeN (onM n me).ask D (.st true)).run S)):=by
 generalize hR:Post encI B p w ((treeN (onM n me).ask D (.st true)).run S)=R
 have hO:Owes R encI B p w ((treeN (onM n me).ask D (.st true)).run S):=hR▸owes _ _ _ _ _
 clear hR
 obtain⟨b1,hK,hP⟩:=h.entry (.cells #[.int .i64 0,.int .i64 0,.int .i64 0,.int .i64 0,.int .i64 0,.int .i64 0,.int .i64 0,.int .i64 0,.int .i64 2,.int .i64 n,.int .i64 1,.int .i64 0,.int .i64 0,.int .i64 1,.int .i64 0,.int .i64 0,.int .i64 0,.int .i64 0,.int .i64 0,.int .i64 0,.int .i64 0,.int .i64 n,.int .i64 0] 31)
 have c_b1:=b1.cells
 clear h
 rw [in_step _ _ hD] at hO
 have hOh:=Lib.hid hO
 clear hO
 go_enter Tryz.func10,Tryz.ntmps10
 go_wp2_with fail
 refine (get_p B p S 0 _ hP).mono ?_
 rintro e w' ⟨rfl,rfl⟩
 rw [hg]
 clear hg
 have hwn:=IntWalk.i64_in ((n:Int)+0) (by omega)
 go_wp2_with fail
 generalize w.heap.size=z at *
 generalize World.alloc w _=W0 at *
 clear c_b1
 refine tstepA (notes_in1 D 0 n me (notes_oneA D 0 n me)) hOh.out hK (ob_in B p n D S 1 0 0 1 me _ hP h1 h8 hm (by omega) hD (by omega)) (fun _ h=>⟨rfl,h⟩) ?_
 clear hOh hK hP
 intro u S3 wn hrun hlf hla hnn hP hk hK hO
 replace b1:=b1.keep hk
 have hD3:S3.left<D:=by omega
 have hn3:S3.nts.length+10*S3.left<=90004:=by omega
 clear hk hrun hla
 rw [wr_step (M:=onM n me) (x:=(onM n me).enter true) rfl] at hO
 have hOh:=Lib.hid hO
 clear hO
 have c_b1:=b1.cells
 go_wp2_with fail
 clear c_b1
 refine tstepA (notes_wr _ _) hOh.out hK (write_p B p S3 _ _ _ hP) (fun _ h=>⟨rfl,h⟩) ?_
 clear hOh hK hP
 intro u S5 wn hrun hlf5 hla hnn5 hP hk hK hO
 replace b1:=b1.keep hk
 have hD5:S5.left<D:=by omega
 have hn5:S5.nts.length<=100000:=by omega
 clear hk hrun hla
 replace hO:Owes R encI B p w ((treeN (onM n me).ask D (.o .o4)).run S5):=hO
 rw [out_step _ _ hD5] at hO
 have hOh:=Lib.hid hO
 clear hO
 have c_b1:=b1.cells
 go_wp2_with fail
 clear c_b1
 refine tstepA (notes_oneR _ _) hOh.out hK (ob_out B p n S5 1 0 0 1 me _ hP h8 hm (by omega) hn5) (fun _ h=>⟨rfl,h⟩) ?_
 clear hOh hK hP
 intro u S6 wn hrun hlf6 hla hnn6 hP hk hK hO
 replace b1:=b1.keep hk
 have hD6:S6.left<D:=by omega
 clear hk hrun hla
 replace hO:Owes R encI B p w ((treeN (onM n me).ask D (.e .o4)).run S6):=hO
 rw [set_step (M:=onM n me) (y:=.o4) rfl _ hD6] at hO
 have hOh:=Lib.hid hO
 clear hO
 have c_b1:=b1.cells
 go_wp2_with fail
 clear c_b1
 refine tstep hOh.out hK (setO hP) (fun _ h=>⟨rfl,h⟩) ?_
 clear hOh hK hP
 intro u S7 w7 hr hP hk1 hK hO
 have hf:=hO.done hP hK
 clear hO hP hK hr hk1 b1
 go_wp2_with fail
 first | with_reducible exact hf | (go_simp;exact hf) | (go_ret;exact hf) | (go_ret2;exact hf)
set_option maxRecDepth 100000 in
theorem alloc_obj (w:World)(a:Act)(op:Oper)(h:op.op=.alloc 31):∃ c:Array Value,c.size=23/\(execOp a.eval op).run Tryz.prog w=.ok (.value (.pointer (some ⟨w.heap.size,0,none⟩))) (w.alloc (.cells c 31)):=by
 refine⟨#[.int .i64 0,.int .i64 0,.int .i64 0,.int .i64 0,.int .i64 0,.int .i64 0,.int .i64 0,.int .i64 0,.int .i64 0,.int .i64 0,.int .i64 0,.int .i64 0,.int .i64 0,.int .i64 0,.int .i64 0,.int .i64 0,.int .i64 0,.int .i64 0,.int .i64 0,.int .i64 0,.int .i64 0,.int .i64 0,.int .i64 0],rfl,?_⟩
 unfold execOp
 rw [h]
 go_simp
theorem load_obj {ops:Array Oper}{rest:List Oper}{op0 op:Oper}{a:Act}{w:World}{Q:Exit->Act->World->Prop}(hg0:op0.guard=none)(y:Operand)(ho0:op0.op=.move y)(hgd:op.guard=none)(x:Operand)(ho:op.op=.load 31 x)
  (b:Nat)(hx:(a.put op0.dst (a.eval y)).eval x=.pointer (some ⟨b,0,none⟩)){cs:Array Value}{t:TypeId}{fz:Nat × Nat}(h:w.heap[b]?=some (.cells cs t fz))(hn:cs.size=23)
  (hK:wpList Tryz.prog ops Q rest ((a.put op0.dst (a.eval y)).put op.dst (.agg cs)) w):wpList Tryz.prog ops Q (op0 :: op :: rest) a w:=by
 have hv:(loadVar 31 ⟨b,0,none⟩).run Tryz.prog w=.ok (.agg cs) w:=by
  refine run_loadVar_row _ _ _ _ cs fz _ h Tryz.underlying31 rfl ?_
  rw [hn]
  kernel_rfl
 refine wpList_plain hg0 fun _ hK'=>?_
 unfold Oper.wp execOp
 simp only [ho0,Sem.run_pure]
 refine hK' _ _ ?_
 refine wpList_plain hgd fun _ hK'=>?_
 unfold Oper.wp execOp
 simp only [ho,hx,Instr.loadAt,Instr.sureAddr,Sem.run_bind,Sem.run_pure,Result.andThen_ok,hv]
 exact hK' _ _ hK
theorem new_obj {ops:Array Oper}{rest:List Oper}{op0 op:Oper}{a:Act}{w:World}{Q:Exit->Act->World->Prop}(hg0:op0.guard=none)(ho0:op0.op=.alloc 31)(hgd:op.guard=none)(x y:Operand)(ho:op.op=.store 31 x y)
  (cs:Array Value)(hx:(a.put op0.dst (.pointer (some ⟨w.heap.size,0,none⟩))).eval x=.pointer (some ⟨w.heap.size,0,none⟩))(hy:(a.put op0.dst (.pointer (some ⟨w.heap.size,0,none⟩))).eval y=.agg cs)(hn:cs.size=23)(h1:cs.all (·.oneCell')=true)
  (hK:wpList Tryz.prog ops Q rest ((a.put op0.dst (.pointer (some ⟨w.heap.size,0,none⟩))).put op.dst undef) (w.alloc (.cells cs 31))):wpList Tryz.prog ops Q (op0 :: op :: rest) a w:=by
 obtain⟨c,hc,hal⟩:=alloc_obj w a op0 ho0
 refine wpList_plain hg0 fun _ hK'=>?_
 unfold Oper.wp
 rw [hal]
 refine hK' _ _ ?_
 refine wpList_plain hgd fun _ hK'=>?_
 have hst:=run_storeAt_new (P:=Tryz.prog) w 31 c cs (by rw [hn];kernel_rfl) (by rw [hc,hn]) h1
 unfold Oper.wp execOp
 simp only [ho,hx,hy,Sem.run_bind,hst,Sem.run_pure,Result.andThen_ok]
 exact hK' _ _ hK
theorem heap_setCells_ex (g:Nat)(t:TypeId):∀ (vs:List Value) (o:Nat) (w:World) (cur:Array Value),w.heap[g]?=some (.cells cur t (0,0))->∃ cur',(w.setCells g o vs).heap[g]?=some (.cells cur' t (0,0))/\cur'.size=cur.size
 | [],_,_,cur,h=>⟨cur,h,rfl⟩
 | v :: r,o,w,cur,h=>by
   obtain⟨cur',h1,h2⟩:=heap_setCells_ex g t r (o+1) (w.setCell ⟨g,o,none⟩ v) _ (heap_setCell_same w g o cur t v h)
   exact⟨cur',h1,h2.trans (by simp)⟩
theorem Ext.setCells {w0 w:World}(h:Ext w0 w){g:Nat}(hg:w0.heap.size<=g):∀ (vs:List Value) (o:Nat),Ext w0 (w.setCells g o vs):=by
 intro vs
 induction vs generalizing w with
 | nil=>intro o;exact h
 | cons v r ih=>intro o;exact ih (Below.setCell (p:=⟨g,o,none⟩) h hg v) (o+1)
theorem heap_setCells_all {w:World}{z:Nat}{t:TypeId}{cur:Array Value}(h:w.heap[z]?=some (.cells cur t (0,0)))(vs:List Value)(hl:vs.length=cur.size):(w.setCells z 0 vs).heap[z]?=some (.cells vs.toArray t (0,0)):=by
 obtain⟨cur',h1,h2⟩:=heap_setCells_ex z t vs 0 w cur h
 rw [h1]
 congr 2
 apply Array.ext_getElem?
 intro i
 by_cases hi:i<vs.length
 · have hc:=World.cell?_setCells_in z vs 0 w (fun j hj=>by
    rw [Nat.zero_add,cell_of_heap h]
    have:j<cur.size:=by omega
    simp [this]) i hi
   rw [Nat.zero_add,cell_of_heap h1] at hc
   rw [hc]
   simp [hi]
 · rw [Array.getElem?_eq_none (by omega),Array.getElem?_eq_none (by simpa using hi)]
abbrev obCells (n:Nat):Array Value:=#[.int .i64 0,.int .i64 0,.int .i64 0,.int .i64 0,.int .i64 0,.int .i64 0,.int .i64 0,.int .i64 0,.int .i64 2,.int .i64 n,.int .i64 1,.int .i64 0,.int .i64 0,.int .i64 1,.int .i64 0,.int .i64 0,.int .i64 0,.int .i64 0,.int .i64 0,.int .i64 0,.int .i64 0,.int .i64 n,.int .i64 0]
theorem results_cell8 {fn:Func}{p:Tmp}{ty:TypeId}(h:fn.results=#[.cell p ty])(tmps:Array Value)(P:Program)(w:World) :
  (results fn tmps).run P w=((asAddr (tmps.getD p undef)).run P w).andThen fun a w1=>(loadVar ty a).run P w1:=by
 simp only [results,h]
 simp [Sem.run_bind,Result.andThen]
theorem there_blk8 {w:World}{b:Nat}{cs:Array Value}{t:TypeId}(h:w.heap[b]?=some (.cells cs t (0,0))):w.there b 0 cs.size:=fun j hj=>by
 rw [Nat.zero_add]
 exact⟨by rw [cell_of_heap h];simp [hj],by simp [World.frozen?,h]⟩
@[go_sem] theorem build_thing48 (x:Int) (w:World):(Instr.build 25 #[(4,.int .i64 x)]).run Tryz.prog w=.ok (.agg #[.int .i64 0,.int .i64 0,.int .i64 0,.int .i64 0,.int .i64 x,.int .i64 0,.int .i64 0,.int .i64 0]) w:=run_build w 25 _ _ (by kernel_rfl)
@[go_sem] theorem build_obj358 (x a b c d e f g h:Int) (w:World):(Instr.build 31 #[(0,.agg #[.int .i64 0,.int .i64 0,.int .i64 0,.int .i64 0,.int .i64 x,.int .i64 0,.int .i64 0,.int .i64 0]),(1,.agg #[.int .i64 a,.int .i64 b,.int .i64 c,.int .i64 d,.int .i64 e,.int .i64 f]),(3,.int .i64 g),(4,.int .i64 h)]).run Tryz.prog w=.ok (.agg #[.int .i64 0,.int .i64 0,.int .i64 0,.int .i64 0,.int .i64 x,.int .i64 0,.int .i64 0,.int .i64 0,.int .i64 a,.int .i64 b,.int .i64 c,.int .i64 d,.int .i64 e,.int .i64 f,.int .i64 0,.int .i64 0,.int .i64 0,.int .i64 0,.int .i64 0,.int .i64 0,.int .i64 0,.int .i64 g,.int .i64 h]) w:=run_build w 31 _ _ (by kernel_rfl)
set_option maxRecDepth 100000 in
theorem size8_r (N:Nat)(mode base loc room:Int)(w:World):Calls Tryz.prog 39 #[.agg #[.int .i64 2,.int .i64 N,.int .i64 mode,.int .i64 base,.int .i64 loc,.int .i64 room]] w fun e w'=>e=.returned (.tuple #[.int .i64 N,.int .i64 0])/\Ext w w':=by
 have b1:=Blk.new w (.cells #[.int .i64 2,.int .i64 N,.int .i64 mode,.int .i64 base,.int .i64 loc,.int .i64 room] 27)
 have hX:=(Ext.refl w).alloc (.cells #[.int .i64 2,.int .i64 N,.int .i64 mode,.int .i64 base,.int .i64 loc,.int .i64 room] 27)
 have c_b1:=b1.cells
 go_enter Tryz.func39,Tryz.ntmps39
 go_wp2_with fail
 first | exact⟨rfl,hX⟩ | (go_ret;exact⟨rfl,hX⟩) | (go_ret2;exact⟨rfl,hX⟩)
set_option maxRecDepth 100000 in
theorem put8_r (arg:Int)(N:Nat)(mode base loc room:Int)(w:World) :
  Calls Tryz.prog 8 #[.agg #[.int .i64 2,.int .i64 N,.int .i64 mode,.int .i64 base,.int .i64 loc,.int .i64 room],.int .i64 arg] w fun e w'=>e=.returned (.agg #[.int .i64 0,.int .i64 0,.int .i64 0,.int .i64 0,.int .i64 arg,.int .i64 0,.int .i64 0,.int .i64 0,.int .i64 2,.int .i64 N,.int .i64 mode,.int .i64 0,.int .i64 0,.int .i64 room,.int .i64 0,.int .i64 0,.int .i64 0,.int .i64 0,.int .i64 0,.int .i64 0,.int .i64 0,.int .i64 N,.int .i64 0])/\Ext w w':=by
 have hsz:=fun w=>size8_r N mode 0 0 room w
 have b1:=Blk.new w (.cells #[.int .i64 2,.int .i64 N,.int .i64 mode,.int .i64 0,.int .i64 0,.int .i64 room] 27)
 have hX:=(Ext.refl w).alloc (.cells #[.int .i64 2,.int .i64 N,.int .i64 mode,.int .i64 0,.int .i64 0,.int .i64 room] 27)
 replace b1:=b1.alloc (.cells #[.int .i64 0,.int .i64 0,.int .i64 0,.int .i64 0,.int .i64 0,.int .i64 0,.int .i64 0,.int .i64 0,.int .i64 0,.int .i64 0,.int .i64 0,.int .i64 0,.int .i64 0,.int .i64 0,.int .i64 0,.int .i64 0,.int .i64 0,.int .i64 0,.int .i64 0,.int .i64 0,.int .i64 0,.int .i64 0,.int .i64 0] 31)
 have b2:=Blk.new (w.alloc (.cells #[.int .i64 2,.int .i64 N,.int .i64 mode,.int .i64 0,.int .i64 0,.int .i64 room] 27)) (.cells #[.int .i64 0,.int .i64 0,.int .i64 0,.int .i64 0,.int .i64 0,.int .i64 0,.int .i64 0,.int .i64 0,.int .i64 0,.int .i64 0,.int .i64 0,.int .i64 0,.int .i64 0,.int .i64 0,.int .i64 0,.int .i64 0,.int .i64 0,.int .i64 0,.int .i64 0,.int .i64 0,.int .i64 0,.int .i64 0,.int .i64 0] 31)
 replace hX:=hX.alloc (.cells #[.int .i64 0,.int .i64 0,.int .i64 0,.int .i64 0,.int .i64 0,.int .i64 0,.int .i64 0,.int .i64 0,.int .i64 0,.int .i64 0,.int .i64 0,.int .i64 0,.int .i64 0,.int .i64 0,.int .i64 0,.int .i64 0,.int .i64 0,.int .i64 0,.int .i64 0,.int .i64 0,.int .i64 0,.int .i64 0,.int .i64 0] 31)
 simp only [World.size_alloc] at b2
 go_enter Tryz.func8,Tryz.ntmps8
 go_wp2_with fail
 generalize (World.alloc w (.cells #[.int .i64 2,.int .i64 N,.int .i64 mode,.int .i64 0,.int .i64 0,.int .i64 room] 27)).alloc (.cells #[.int .i64 0,.int .i64 0,.int .i64 0,.int .i64 0,.int .i64 0,.int .i64 0,.int .i64 0,.int .i64 0,.int .i64 0,.int .i64 0,.int .i64 0,.int .i64 0,.int .i64 0,.int .i64 0,.int .i64 0,.int .i64 0,.int .i64 0,.int .i64 0,.int .i64 0,.int .i64 0,.int .i64 0,.int .i64 0,.int .i64 0] 31)=W at *
 refine (hsz _).mono ?_
 rintro e w1 ⟨rfl,hx⟩
 have c_b1:=(b1.ext hx).cells
 replace b2:=b2.ext hx
 replace hX:=hX.trans hx
 clear hx b1 hsz
 go_upto_region 4 with fail
 refine wp_region_lit ?_
 refine wpList_plain rfl fun K hK=>?_
 unfold Oper.wp execOp
 go_simp
 refine hK _ _ ?_
 clear hK K
 refine wpList_plain rfl fun K hK=>?_
 unfold Oper.wp execOp
 go_simp
 refine hK _ _ ?_
 clear hK K
 refine wpList_plain rfl fun K hK=>?_
 unfold Oper.wp execOp
 go_simp
 refine hK _ _ ?_
 clear hK K
 refine wpList_plain rfl fun K hK=>?_
 unfold Oper.wp execOp
 go_simp
 refine hK _ _ ?_
 clear hK K
 refine wpList_plain rfl fun K hK=>?_
 unfold Oper.wp execOp
 go_simp
 refine hK _ _ ?_
 clear hK K
 refine wpList_plain rfl fun K hK=>?_
 unfold Oper.wp execOp
 go_simp
 refine hK _ _ ?_
 clear hK K
 obtain⟨OL,hOL⟩:∃ OL:List Value,OL=[.int .i64 0,.int .i64 0,.int .i64 0,.int .i64 0,.int .i64 arg,.int .i64 0,.int .i64 0,.int .i64 0,.int .i64 2,.int .i64 N,.int .i64 mode,.int .i64 0,.int .i64 0,.int .i64 room,.int .i64 0,.int .i64 0,.int .i64 0,.int .i64 0,.int .i64 0,.int .i64 0,.int .i64 0,.int .i64 N,.int .i64 0]:=⟨_,rfl⟩
 have hst:=there_blk8 b2
 refine wpList_store_mid rfl _ _ _ rfl (w.heap.size+1) 0 OL.toArray rfl (by rw [hOL];rfl) (by rw [hOL];exact hst) (by rw [hOL];kernel_rfl) (by rw [hOL];kernel_rfl) ?_
 have hz:=heap_setCells_all b2 OL (by rw [hOL];rfl)
 have hXs:=hX.setCells (Nat.le_succ w.heap.size) OL 0
 clear hst b2 hX c_b1
 generalize w1.setCells _ _ _=W6 at *
 refine wpList_nil ?_
 have hld:(loadVar 31 ⟨w.heap.size+1,0,none⟩).run Tryz.prog W6=.ok (.agg OL.toArray) W6:=run_loadVar_row _ _ _ _ _ _ _ hz Tryz.underlying31 rfl (by rw [hOL];kernel_rfl)
 rename_i hKK
 refine hKK _ _ ?_
 clear hKK
 refine wp_ret ?_
 refine bodyPost_ret (v:=.agg OL.toArray) ?_ rfl ⟨by rw [hOL],hXs⟩
 rw [results_cell8 (p:=4) (ty:=31) rfl]
 simp [asAddr,Result.andThen,hld,Act.put]
structure BelowX (X:Nat->Prop) (w w':World):Prop where
 os:w'.os=w.os
 tape:w'.tape=w.tape
 output:w'.output=w.output
 size:w.heap.size<=w'.heap.size
 blocks:∀ k,k<w.heap.size->¬ X k->w'.heap[k]?=w.heap[k]?
theorem BelowX.of {X:Nat->Prop}{w w':World}(h:Ext w w'):BelowX X w w':=⟨h.os,h.tape,h.output,h.size,fun k hk _=>h.block k hk⟩
theorem BelowX.refl (X:Nat->Prop)(w:World):BelowX X w w:=BelowX.of (Ext.refl w)
theorem BelowX.trans {X:Nat->Prop}{w w' w'':World}(h:BelowX X w w')(g:BelowX X w' w''):BelowX X w w'' :=
 ⟨g.os.trans h.os,g.tape.trans h.tape,g.output.trans h.output,Nat.le_trans h.size g.size,fun k hk hx=>(g.blocks k (Nat.lt_of_lt_of_le hk h.size) hx).trans (h.blocks k hk hx)⟩
theorem BelowX.set {X:Nat->Prop}{w w':World}(h:BelowX X w w'){b:Nat}(hb:X b)(i:Nat)(v:Value):BelowX X w (w'.setCell ⟨b,i,none⟩ v):=by
 have e:∀ k,k≠b->(w'.setCell ⟨b,i,none⟩ v).heap[k]?=w'.heap[k]?:=fun k hk=>heap_setCell_ne _ _ hk
 exact⟨h.os,h.tape,h.output,by simpa using h.size,fun k hk hx=>(e k (fun hkb=>hx (hkb▸hb))).trans (h.blocks k hk hx)⟩
theorem BelowX.mono {X Y:Nat->Prop}{w w':World}(h:BelowX X w w')(hxy:∀ k,X k->Y k):BelowX Y w w' :=
 ⟨h.os,h.tape,h.output,h.size,fun k hk hx=>h.blocks k hk fun q=>hx (hxy k q)⟩
theorem BelowX.blk {X:Nat->Prop}{w w':World}(h:BelowX X w w'){b:Nat}{o:Obj}(hb:Blk w b o)(hx:¬ X b):Blk w' b o:=(h.blocks b hb.lt hx).trans hb
theorem BelowX.ints {X:Nat->Prop}{w w':World}{v:Value}{l:List Int}(h:BelowX X w w')(hl:Ints w v l)(hx:∀ b,v.ownBlock=some b->¬ X b):Ints w' v l:=by
 obtain⟨A,c,rfl,h1,h2,h3⟩:=hl
 refine⟨A,c,rfl,h1,h2,fun hne=>?_⟩
 obtain⟨b,off,rfl,hb,hc⟩:=h3 hne
 refine⟨b,off,rfl,Nat.lt_of_lt_of_le hb h.size,fun i x hi=>?_⟩
 rw [<- hc i x hi]
 unfold World.cell?
 simp only
 rw [h.blocks b hb (hx b rfl)]
theorem BelowX.grown {X:Nat->Prop}{w w' wr:World}{o:Obj}{row:Option Nat}(h:BelowX X w wr)(hg:(wr.alloc o).grownBy w' row)(hr:∀ b,row=some b->w.heap.size<=b):BelowX X w w':=by
 have h1:=h.trans (BelowX.of ((Ext.refl wr).alloc o))
 exact⟨hg.os.trans h1.os,hg.tape.trans h1.tape,hg.output.trans h1.output,Nat.le_trans h1.size hg.size,fun k hk hx=>(hg.block k (Nat.lt_of_lt_of_le hk h1.size) (fun e=>by have:=hr k e.symm;omega)).trans (h1.blocks k hk hx)⟩
def rowOf (l:List Int):List Value:=l.map (Value.int .i64)
structure ARows (B:Nat) (bs:List Nat) (w:World) (vs:Array Value) (ans:Nat->List Int) (n:Nat):Prop where
 sz:vs.size=n
 ge:B<=w.heap.size
 row:∀ t,t<n->∃ v,vs[t]?=some v/\w.ownsRow B 3 1 v (ans t).length (rowOf (ans t))
 off:∀ (t:Nat) (v:Value) (b:Nat),vs[t]?=some v->v.ownBlock=some b->b ∉ bs
 apart:∀ (t s:Nat) (v u:Value) (b:Nat),t≠s->vs[t]?=some v->vs[s]?=some u->v.ownBlock=some b->u.ownBlock≠some b
section
variable {B n:Nat} {bs:List Nat} {w W:World} {vs:Array Value} {ans:Nat->List Int}
theorem own_ge {v:Value}{k:Nat}{xs:List Value}(h:w.ownsRow B 3 1 v k xs){b:Nat}(hb:v.ownBlock=some b):B<=b/\b<w.heap.size:=by
 rcases h.2 with⟨rfl,_⟩ | ⟨g,cap,cur,rfl,h1,h2,_⟩
 · simp [Value.ownBlock] at hb
 · simp only [Value.ownBlock,Option.some.injEq] at hb
   subst hb
   exact⟨h1,(Array.getElem?_eq_some_iff.1 h2).1⟩
theorem ARows.ints (h:ARows B bs w vs ans n){t:Nat}(ht:t<n):∃ A c,vs[t]?=some (.slice A (ans t).length c)/\Ints w (.slice A (ans t).length c) (ans t)/\w.ownsRow B 3 1 (.slice A (ans t).length c) (ans t).length (rowOf (ans t)):=by
 obtain⟨v,h1,h2⟩:=h.row t ht
 have h3:=IntRow.ints (show IntRow w B v (ans t) from h2)
 obtain⟨A,c,rfl,_⟩:=h3.slice
 exact⟨A,c,h1,h3,h2⟩
theorem ARows.ext (h:ARows B bs w vs ans n)(hx:Ext w W):ARows B bs W vs ans n :=
 { h with
  ge:=Nat.le_trans h.ge hx.size
  row:=fun t ht=>by
   obtain⟨v,h1,h2⟩:=h.row t ht
   exact⟨v,h1,row_ext h2 hx⟩ }
theorem ARows.set (h:ARows B bs w vs ans n){b:Nat}(hb:b∈bs)(i:Nat)(u:Value):ARows B bs (w.setCell ⟨b,i,none⟩ u) vs ans n :=
 { h with
  ge:=by simpa using h.ge
  row:=fun t ht=>by
   obtain⟨v,h1,h2⟩:=h.row t ht
   exact⟨v,h1,row_set h2 fun e=>h.off t v b h1 e hb⟩ }
theorem ARows.more (h:ARows B bs w vs ans n){b:Nat}(hb:w.heap.size<=b):ARows B (b :: bs) w vs ans n :=
 { h with
  off:=fun t v k h1 h2 hk=>by
   have ht:t<n:=by rw [<- h.sz];exact (Array.getElem?_eq_some_iff.1 h1).1
   obtain⟨v',q1,q2⟩:=h.row t ht
   rw [q1] at h1
   injection h1 with h1
   subst h1
   have:=own_ge q2 h2
   rcases List.mem_cons.1 hk with rfl | hk
   · omega
   · exact h.off t _ k q1 h2 hk }
theorem ARows.less {cs:List Nat}(h:ARows B bs w vs ans n)(hc:∀ b∈cs,b∈bs):ARows B cs w vs ans n :=
 { h with off:=fun t v k h1 h2 hk=>h.off t v k h1 h2 (hc k hk) }
theorem ARows.grow (h:ARows B bs w vs ans n){t:Nat}(ht:t<n){v:Value}(hv:vs[t]?=some v){g cap:Nat}{y:Int}
  (hown:W.ownsRow B 3 1 (.slice (some ⟨g,0,none⟩) ((ans t).length+1) cap) ((ans t).length+1) (rowOf (ans t)++[Value.int .i64 y]))(hg:w.grownBy W v.ownBlock)(hat:v.ownBlock=some g∨w.heap.size<=g)(hbs:∀ b∈bs,b<w.heap.size) :
  ARows B bs W (vs.setIfInBounds t (.slice (some ⟨g,0,none⟩) ((ans t).length+1) cap)) (fun s=>if s=t then ans t++[y] else ans s) n:=by
 have hsz:=h.sz
 have fresh:∀ (s:Nat) (u:Value) (b:Nat),vs[s]?=some u->u.ownBlock=some b->B<=b/\b<w.heap.size:=fun s u b h1 h2=>by
  have hs:s<n:=by rw [<- hsz];exact (Array.getElem?_eq_some_iff.1 h1).1
  obtain⟨u',q1,q2⟩:=h.row s hs
  rw [q1] at h1
  injection h1 with h1
  subst h1
  exact own_ge q2 h2
 have other:∀ (s:Nat) (u:Value),s≠t->vs[s]?=some u->u.ownBlock≠some g:=fun s u hs h1 h2=>by
  rcases hat with e | e
  · exact h.apart t s v u g (Ne.symm hs) hv h1 e h2
  · have:=(fresh s u g h1 h2).2
    omega
 have get:∀ s u,(vs.setIfInBounds t (.slice (some ⟨g,0,none⟩) ((ans t).length+1) cap))[s]?=some u->(s=t/\u=.slice (some ⟨g,0,none⟩) ((ans t).length+1) cap)∨(s≠t/\vs[s]?=some u):=fun s u h1=>by
  by_cases e:t=s
  · subst e
    rw [Array.getElem?_setIfInBounds_self_of_lt (by omega)] at h1
    injection h1 with h1
    exact .inl ⟨rfl,h1.symm⟩
  · rw [Array.getElem?_setIfInBounds_ne e] at h1
    exact .inr ⟨Ne.symm e,h1⟩
 refine⟨by simp [hsz],Nat.le_trans h.ge hg.size,fun s hs=>?_,fun s u b h1 h2 hb=>?_,fun s r u u' b hne h1 h1' h2 h2'=>?_⟩
 · by_cases e:s=t
   · subst e
     refine⟨_,Array.getElem?_setIfInBounds_self_of_lt (by omega),?_⟩
     rw [if_pos rfl]
     unfold rowOf at hown ⊢
     rw [List.length_append,List.map_append]
     exact hown
   · obtain⟨u,q1,q2⟩:=h.row s hs
     refine⟨u,by rw [Array.getElem?_setIfInBounds_ne (Ne.symm e)];exact q1,?_⟩
     rw [if_neg e]
     refine q2.kept hg ?_
     cases hu:u.ownBlock with
     | none=>exact .inl rfl
     | some b=>exact .inr fun e2=>h.apart s t u v b e q1 hv hu e2.symm
 · rcases get s u h1 with⟨rfl,rfl⟩ | ⟨hs,h1⟩
   · simp only [Value.ownBlock,Option.some.injEq] at h2
     subst h2
     rcases hat with e | e
     · exact h.off s v g hv e hb
     · have:=hbs g hb
       omega
   · exact h.off s u b h1 h2 hb
 · rcases get s u h1 with⟨rfl,rfl⟩ | ⟨hs,h1⟩
   · simp only [Value.ownBlock,Option.some.injEq] at h2
     subst h2
     rcases get r u' h1' with⟨rfl,_⟩ | ⟨hr,h1'⟩
     · exact hne rfl
     · exact other r u' hr h1' h2'
   · rcases get r u' h1' with⟨hr,rfl⟩ | ⟨hr,h1'⟩
     · simp only [Value.ownBlock,Option.some.injEq] at h2'
       subst h2'
       rename_i hvs
       first | exact other s u (by omega) hvs h2 | exact other s u (by omega) h1 h2
     · exact h.apart s r u u' b hne ‹vs[s]?=some u› h1' h2 h2'
theorem ARows.clear (h:ARows B bs w vs ans n)(t:Nat):ARows B bs w (vs.setIfInBounds t (.slice none 0 0)) (fun s=>if s=t then [] else ans s) n:=by
 have hsz:=h.sz
 have get:∀ s u b,(vs.setIfInBounds t (.slice none 0 0))[s]?=some u->u.ownBlock=some b->s≠t/\vs[s]?=some u:=fun s u b h1 h2=>by
  by_cases e:t=s
  · subst e
    have hl:t<vs.size:=by
     have:=(Array.getElem?_eq_some_iff.1 h1).1
     simpa using this
    rw [Array.getElem?_setIfInBounds_self_of_lt hl] at h1
    injection h1 with h1
    subst h1
    simp [Value.ownBlock] at h2
  · rw [Array.getElem?_setIfInBounds_ne e] at h1
    exact⟨Ne.symm e,h1⟩
 refine⟨by simp [hsz],h.ge,fun s hs=>?_,fun s u b h1 h2=>h.off s u b (get s u b h1 h2).2 h2,fun s r u u' b hne h1 h1' h2 h2'=>h.apart s r u u' b hne (get s u b h1 h2).2 (get r u' b h1' h2').2 h2 h2'⟩
 by_cases e:s=t
 · subst e
   refine⟨.slice none 0 0,Array.getElem?_setIfInBounds_self_of_lt (by omega),?_⟩
   rw [if_pos rfl]
   exact⟨rfl,.inl ⟨rfl,rfl⟩⟩
 · obtain⟨u,q1,q2⟩:=h.row s hs
   refine⟨u,by rw [Array.getElem?_setIfInBounds_ne (Ne.symm e)];exact q1,?_⟩
   rw [if_neg e]
   exact q2
theorem ARows.start (B:Nat)(bs:List Nat)(w:World)(hB:B<=w.heap.size)(n:Nat):ARows B bs w (Array.replicate n (.slice none 0 0)) (fun _=>[]) n:=by
 have get:∀ (s:Nat) u,(Array.replicate n (Value.slice none 0 0))[s]?=some u->u=.slice none 0 0:=fun s u h=>by
  have:=Array.mem_of_getElem? h
  simp at this
  exact this.2
 refine⟨by simp,hB,fun t ht=>⟨.slice none 0 0,by simp [ht],rfl,.inl ⟨rfl,rfl⟩⟩,fun t v b h1 h2=>?_,fun t s v u b _ h1 _ h2=>?_⟩
 · rw [get t v h1] at h2
   simp [Value.ownBlock] at h2
 · rw [get t v h1] at h2
   simp [Value.ownBlock] at h2
end
theorem blk_ne {w:World}{b b' i:Nat}{o:Obj}(h:Blk w b o)(hne:b≠b')(u:Value):Blk (w.setCell ⟨b',i,none⟩ u) b o:=by
 show (w.setCell ⟨b',i,none⟩ u).heap[b]?=_
 rw [heap_setCell_ne _ _ hne]
 exact h
def fours (f:Nat->Int):List Value:=(List.range 4).map fun t=>Value.int .i64 (f t)
theorem fours_at {f:Nat->Int}{t:Nat}(h:t<4):(fours f).toArray[t]?=some (.int .i64 (f t)):=by simp [fours,h]
def putF (f:Nat->Int) (t:Nat) (x:Int):Nat->Int:=fun s=>if s=t then x else f s
theorem fours_put {f:Nat->Int}{t:Nat}{x:Int}(h:t<4):(fours f).toArray.setIfInBounds t (.int .i64 x)=(fours (putF f t x)).toArray:=by
 apply Array.ext_getElem?
 intro i
 by_cases hi:t=i
 · subst hi
   rw [Array.getElem?_setIfInBounds_self_of_lt (by simpa [fours] using h),fours_at h]
   simp [putF]
 · rw [Array.getElem?_setIfInBounds_ne hi]
   by_cases h4:i<4
   · rw [fours_at h4,fours_at h4]
     simp [putF,Ne.symm hi]
   · rw [Array.getElem?_eq_none (by simp [fours];omega),Array.getElem?_eq_none (by simp [fours];omega)]
structure QMem (w0:World) (bn bl bc ba bp:Nat) (on ol:Obj) (wr:World) (M:List Int) (ph:Nat->Int) (ans:Nat->List Int) (vs:Array Value):Prop where
 ext:Ext w0 wr
 kN:Blk wr bn on
 kL:Blk wr bl ol
 kC:Blk wr bc (.cells (M.map (Value.int .i64)).toArray 3)
 kA:Blk wr ba (.cells vs 34)
 kP:Blk wr bp (.cells (fours ph).toArray 35)
 rows:ARows w0.heap.size [bn,bl,bc,ba,bp] wr vs ans 4
 lo:bn<w0.heap.size/\bl<w0.heap.size
 ge:w0.heap.size<=bc/\w0.heap.size<=ba/\w0.heap.size<=bp
 ne:bn≠bl/\bn≠bc/\bn≠ba/\bn≠bp/\bl≠bc/\bl≠ba/\bl≠bp/\bc≠ba/\bc≠bp/\ba≠bp
section
variable {w0 wr W:World} {bn bl bc ba bp:Nat} {on ol:Obj} {M:List Int} {ph:Nat->Int} {ans:Nat->List Int} {vs:Array Value}
theorem QMem.keep (h:QMem w0 bn bl bc ba bp on ol wr M ph ans vs)(hx:Ext wr W):QMem w0 bn bl bc ba bp on ol W M ph ans vs :=
 { h with
  ext:=h.ext.trans hx,kN:=h.kN.ext hx,kL:=h.kL.ext hx,kC:=h.kC.ext hx,kA:=h.kA.ext hx,kP:=h.kP.ext hx,rows:=h.rows.ext hx }
theorem QMem.same (h:QMem w0 bn bl bc ba bp on ol wr M ph ans vs){ph':Nat->Int}(he:∀ t,t<4->ph' t=ph t):QMem w0 bn bl bc ba bp on ol wr M ph' ans vs :=
 { h with
  kP:=by
   have:fours ph'=fours ph:=by
    unfold fours
    refine List.map_congr_left fun t ht=>?_
    rw [he t (by simpa using ht)]
   rw [this]
   exact h.kP }
theorem QMem.clear (h:QMem w0 bn bl bc ba bp on ol wr M ph ans vs)(t:Nat):QMem w0 bn bl bc ba bp on ol (wr.setCell ⟨ba,t,none⟩ (.slice none 0 0)) M ph (fun s=>if s=t then [] else ans s) (vs.setIfInBounds t (.slice none 0 0)):=by
 obtain⟨n1,n2,n3,n4,n5,n6,n7,n8,n9,n10⟩:=h.ne
 exact { h with
  ext:=h.ext.setCell (p:=⟨ba,t,none⟩) h.ge.2.1 _,kN:=blk_ne h.kN n3 _,kL:=blk_ne h.kL n6 _,kC:=blk_ne h.kC n8 _,kP:=blk_ne h.kP (Ne.symm n10) _
  kA:=heap_setCell h.kA _
  rows:=(h.rows.clear t).set (by simp) _ _ }
theorem row_type {w:World}{B k b:Nat}{v:Value}{xs:List Value}{cs:Array Value}{T:TypeId}(h:w.ownsRow B 3 1 v k xs)(hb:Blk w b (.cells cs T))(hT:T≠3):v.ownBlock≠some b:=by
 rcases h.2 with⟨rfl,_⟩ | ⟨g,cap,cur,rfl,h1,h2,_⟩
 · simp [Value.ownBlock]
 · intro e
   simp only [Value.ownBlock,Option.some.injEq] at e
   subst e
   unfold Blk at hb
   rw [h2] at hb
   injection hb with hb
   injection hb with _ hb
   exact hT hb.symm
theorem QMem.far (h:QMem w0 bn bl bc ba bp on ol wr M ph ans vs){bo:Nat}{cs:Array Value}{T:TypeId}(hb:Blk wr bo (.cells cs T))(hT:T≠3)(hg:bc<bo/\ba<bo/\bp<bo){W:World}(hk:∀ b,b≠bo->W.heap[b]?=wr.heap[b]?)(hx:Ext w0 W):QMem w0 bn bl bc ba bp on ol W M ph ans vs:=by
 have g:=h.ge
 have l:=h.lo
 have hl:=hb.lt
 have keep:∀ {b:Nat} {o:Obj},Blk wr b o->b≠bo->Blk W b o:=fun h1 h2=>(hk _ h2).trans h1
 refine { h with ext:=hx,kN:=keep h.kN (by omega),kL:=keep h.kL (by omega),kC:=keep h.kC (by omega),kA:=keep h.kA (by omega),kP:=keep h.kP (by omega),rows:={ h.rows with ge:=hx.size,row:=fun t ht=>?_ } }
 obtain⟨v,q1,q2⟩:=h.rows.row t ht
 have hne:=row_type q2 hb hT
 refine⟨v,q1,?_⟩
 rcases q2.2 with⟨rfl,q3⟩ | ⟨g,cap,cur,rfl,q3,q4,q5⟩
 · exact⟨q2.1,.inl ⟨rfl,q3⟩⟩
 · refine⟨q2.1,.inr ⟨g,cap,cur,rfl,q3,?_,q5⟩⟩
   rw [hk g (fun e=>hne (by simp [Value.ownBlock,e]))]
   exact q4
theorem QMem.grow (h:QMem w0 bn bl bc ba bp on ol wr M ph ans vs){t:Nat}(ht:t<4){v:Value}(hv:vs[t]?=some v){g cap:Nat}{y:Int}
  (hown:W.ownsRow w0.heap.size 3 1 (.slice (some ⟨g,0,none⟩) ((ans t).length+1) cap) ((ans t).length+1) (rowOf (ans t)++[Value.int .i64 y]))(hg:wr.grownBy W v.ownBlock)(hat:v.ownBlock=some g∨wr.heap.size<=g) :
  QMem w0 bn bl bc ba bp on ol (W.setCell ⟨ba,t,none⟩ (.slice (some ⟨g,0,none⟩) ((ans t).length+1) cap)) M ph (fun s=>if s=t then ans t++[y] else ans s) (vs.setIfInBounds t (.slice (some ⟨g,0,none⟩) ((ans t).length+1) cap)):=by
 obtain⟨n1,n2,n3,n4,n5,n6,n7,n8,n9,n10⟩:=h.ne
 have hoff:∀ b,b∈[bn,bl,bc,ba,bp]->v.ownBlock≠some b:=fun b hb e=>h.rows.off t v b hv e hb
 have kept:∀ {b:Nat} {o:Obj},Blk wr b o->b∈[bn,bl,bc,ba,bp]->Blk W b o:=fun hb hm=>grown_heap hb (hoff _ hm) hg
 have hrows:=h.rows.grow ht hv hown hg hat (fun b hb=>by
  simp only [List.mem_cons,List.not_mem_nil,or_false] at hb
  rcases hb with rfl | rfl | rfl | rfl | rfl
  · exact h.kN.lt
  · exact h.kL.lt
  · exact h.kC.lt
  · exact h.kA.lt
  · exact h.kP.lt)
 have hx:Ext w0 W:=by
  have he:=h.ext
  refine⟨hg.os.trans he.os,hg.tape.trans he.tape,hg.output.trans he.output,Nat.le_trans he.size hg.size,fun k hk=>?_⟩
  refine (hg.block k (Nat.lt_of_lt_of_le hk he.size) fun e=>?_).trans (he.block k hk)
  obtain⟨v',q1,q2⟩:=h.rows.row t ht
  rw [hv] at q1
  injection q1 with q1
  subst q1
  have:=(own_ge q2 e.symm).1
  omega
 exact⟨hx.setCell (p:=⟨ba,t,none⟩) h.ge.2.1 _,blk_ne (kept h.kN (by simp)) n3 _,blk_ne (kept h.kL (by simp)) n6 _,blk_ne (kept h.kC (by simp)) n8 _,heap_setCell (kept h.kA (by simp)) _,blk_ne (kept h.kP (by simp)) (Ne.symm n10) _,hrows.set (by simp) _ _,h.lo,h.ge,h.ne⟩
end
abbrev Blocks:=List (Nat × Obj)
structure WMem (w0:World) (fx:Blocks) (ba:Nat) (wr:World) (ans:Nat->List Int) (vs:Array Value):Prop where
 ext:Ext w0 wr
 fix:∀ q,q∈fx->Blk wr q.1 q.2
 kA:Blk wr ba (.cells vs 34)
 rows:ARows w0.heap.size (ba :: fx.map Prod.fst) wr vs ans 4
 ge:w0.heap.size<=ba
 nd:(ba :: fx.map Prod.fst).Nodup
section
variable {w0 wr W:World} {fx f1 f2:Blocks} {ba:Nat} {ans:Nat->List Int} {vs:Array Value}
theorem WMem.keep (h:WMem w0 fx ba wr ans vs)(hx:Ext wr W):WMem w0 fx ba W ans vs :=
 { h with ext:=h.ext.trans hx,fix:=fun q hq=>(h.fix q hq).ext hx,kA:=h.kA.ext hx,rows:=h.rows.ext hx }
theorem WMem.at_ (h:WMem w0 fx ba wr ans vs)(k:Nat){q:Nat × Obj}(hk:fx[k]?=some q):Blk wr q.1 q.2:=h.fix q (List.mem_of_getElem? hk)
theorem WMem.lt (h:WMem w0 fx ba wr ans vs){b:Nat}(hb:b∈ba :: fx.map Prod.fst):b<wr.heap.size:=by
 rcases List.mem_cons.1 hb with rfl | hb
 · exact h.kA.lt
 · obtain⟨q,hq,rfl⟩:=List.mem_map.1 hb
   exact (h.fix q hq).lt
theorem WMem.add (h:WMem w0 fx ba wr ans vs)(hx:Ext wr W){b:Nat}{o:Obj}(hb:Blk W b o)(hg:wr.heap.size<=b):WMem w0 ((b,o) :: fx) ba W ans vs:=by
 refine⟨h.ext.trans hx,fun q hq=>?_,h.kA.ext hx,?_,h.ge,?_⟩
 · rcases List.mem_cons.1 hq with rfl | hq
   · exact hb
   · exact (h.fix q hq).ext hx
 · exact ((h.rows.more hg).ext hx).less fun k hk=>by
    simp only [List.map_cons,List.mem_cons] at hk ⊢
    rcases hk with hk | hk | hk
    · exact .inr (.inl hk)
    · exact .inl hk
    · exact .inr (.inr hk)
 · have h1:=h.nd
   simp only [List.map_cons,List.nodup_cons,List.mem_cons,not_or] at h1 ⊢
   refine⟨⟨fun e=>?_,h1.1⟩,fun e=>?_,h1.2⟩
   · have:=h.lt (b:=ba) (by simp)
     omega
   · have:=h.lt (b:=b) (by simp [e])
     omega
theorem WMem.less (h:WMem w0 fx ba wr ans vs){fy:Blocks}(hs:fy.Sublist fx):WMem w0 fy ba wr ans vs :=
 { h with
  fix:=fun q hq=>h.fix q (hs.subset hq)
  rows:=h.rows.less fun k hk=>by
   simp only [List.mem_cons] at hk ⊢
   rcases hk with hk | hk
   · exact .inl hk
   · exact .inr ((hs.map Prod.fst).subset hk)
  nd:=h.nd.sublist ((hs.map Prod.fst).cons_cons ba) }
theorem WMem.put (h:WMem w0 (f1++f2) ba wr ans vs){b:Nat}{cs:Array Value}{T:TypeId}{f3:Blocks}(hf:f2=(b,.cells cs T) :: f3)(hg:w0.heap.size<=b)(i:Nat)(u:Value):WMem w0 (f1++(b,.cells (cs.setIfInBounds i u) T) :: f3) ba (wr.setCell ⟨b,i,none⟩ u) ans vs:=by
 subst hf
 have hnd:=h.nd
 simp only [List.map_append,List.map_cons,List.nodup_cons,List.mem_append,List.mem_cons,not_or,List.nodup_append] at hnd
 obtain⟨⟨_,hab,_⟩,_,⟨hb2,_⟩,hdis⟩:=hnd
 have hb:=h.fix (b,.cells cs T) (by simp)
 refine⟨h.ext.setCell (p:=⟨b,i,none⟩) hg _,fun q hq=>?_,blk_ne h.kA hab u,?_,h.ge,?_⟩
 · simp only [List.mem_append,List.mem_cons] at hq
   rcases hq with hq | rfl | hq
   · exact blk_ne (h.fix q (by simp [hq])) (fun e=>hdis q.1 (List.mem_map.2 ⟨q,hq,rfl⟩) b (by simp) e) u
   · exact heap_setCell hb u
   · exact blk_ne (h.fix q (by simp [hq])) (fun e=>hb2 (List.mem_map.2 ⟨q,hq,e⟩)) u
 · have:=h.rows.set (b:=b) (by simp) i u
   simpa using this
 · have:=h.nd
   simpa using this
theorem WMem.clear (h:WMem w0 fx ba wr ans vs)(t:Nat):WMem w0 fx ba (wr.setCell ⟨ba,t,none⟩ (.slice none 0 0)) (fun s=>if s=t then [] else ans s) (vs.setIfInBounds t (.slice none 0 0)):=by
 have hnd:=h.nd
 rw [List.nodup_cons] at hnd
 exact { h with
  ext:=h.ext.setCell (p:=⟨ba,t,none⟩) h.ge _
  fix:=fun q hq=>blk_ne (h.fix q hq) (fun e=>hnd.1 (List.mem_map.2 ⟨q,hq,e⟩)) _
  kA:=heap_setCell h.kA _
  rows:=(h.rows.clear t).set (by simp) _ _ }
theorem WMem.grow (h:WMem w0 fx ba wr ans vs){t:Nat}(ht:t<4){v:Value}(hv:vs[t]?=some v){g cap:Nat}{y:Int}
  (hown:W.ownsRow w0.heap.size 3 1 (.slice (some ⟨g,0,none⟩) ((ans t).length+1) cap) ((ans t).length+1) (rowOf (ans t)++[Value.int .i64 y]))(hg:wr.grownBy W v.ownBlock)(hat:v.ownBlock=some g∨wr.heap.size<=g) :
  WMem w0 fx ba (W.setCell ⟨ba,t,none⟩ (.slice (some ⟨g,0,none⟩) ((ans t).length+1) cap)) (fun s=>if s=t then ans t++[y] else ans s) (vs.setIfInBounds t (.slice (some ⟨g,0,none⟩) ((ans t).length+1) cap)):=by
 have hnd:=h.nd
 rw [List.nodup_cons] at hnd
 have hoff:∀ b,b∈ba :: fx.map Prod.fst->v.ownBlock≠some b:=fun b hb e=>h.rows.off t v b hv e hb
 have kept:∀ {b:Nat} {o:Obj},Blk wr b o->b∈ba :: fx.map Prod.fst->Blk W b o:=fun hb hm=>grown_heap hb (hoff _ hm) hg
 have hrows:=h.rows.grow ht hv hown hg hat (fun b hb=>h.lt hb)
 have hx:Ext w0 W:=by
  have he:=h.ext
  refine⟨hg.os.trans he.os,hg.tape.trans he.tape,hg.output.trans he.output,Nat.le_trans he.size hg.size,fun k hk=>?_⟩
  refine (hg.block k (Nat.lt_of_lt_of_le hk he.size) fun e=>?_).trans (he.block k hk)
  obtain⟨v',q1,q2⟩:=h.rows.row t ht
  rw [hv] at q1
  injection q1 with q1
  subst q1
  have:=(own_ge q2 e.symm).1
  omega
 refine⟨hx.setCell (p:=⟨ba,t,none⟩) h.ge _,fun q hq=>?_,heap_setCell (kept h.kA (by simp)) _,hrows.set (by simp) _ _,h.ge,h.nd⟩
 exact blk_ne (kept (h.fix q hq) (List.mem_cons_of_mem _ (List.mem_map.2 ⟨q,hq,rfl⟩))) (fun e=>hnd.1 (List.mem_map.2 ⟨q,hq,e⟩)) _
theorem WMem.grown (h:WMem w0 fx ba wr ans vs){t:Nat}{v:Value}(hv:vs[t]?=some v)(hg:wr.grownBy W v.ownBlock){q:Nat × Obj}(hq:q∈fx):Blk W q.1 q.2 :=
 grown_heap (h.fix q hq) (fun e=>h.rows.off t v q.1 hv e (List.mem_cons_of_mem _ (List.mem_map.2 ⟨q,hq,rfl⟩))) hg
theorem WMem.grownAt (h:WMem w0 fx ba wr ans vs){t:Nat}{v:Value}(hv:vs[t]?=some v)(hg:wr.grownBy W v.ownBlock)(k:Nat){q:Nat × Obj}(hk:fx[k]?=some q):Blk W q.1 q.2:=h.grown hv hg (List.mem_of_getElem? hk)
theorem WMem.grownA (h:WMem w0 fx ba wr ans vs){t:Nat}{v:Value}(hv:vs[t]?=some v)(hg:wr.grownBy W v.ownBlock):Blk W ba (.cells vs 34) :=
 grown_heap h.kA (fun e=>h.rows.off t v ba hv e (by simp)) hg
theorem WMem.row (h:WMem w0 fx ba wr ans vs){t:Nat}(ht:t<4):∃ A c,vs[t]?=some (.slice A (ans t).length c)/\Ints wr (.slice A (ans t).length c) (ans t)/\wr.ownsRow w0.heap.size 3 1 (.slice A (ans t).length c) (ans t).length (rowOf (ans t)):=h.rows.ints ht
theorem WMem.ne (h:WMem w0 fx ba wr ans vs){b:Nat}{o:Obj}(hb:(b,o)∈fx):b≠ba:=fun e=>by
 have hnd:=h.nd
 rw [List.nodup_cons] at hnd
 exact hnd.1 (List.mem_map.2 ⟨(b,o),hb,e⟩)
theorem WMem.start (hx:Ext w0 W)(hf:∀ q,q∈fx->Blk W q.1 q.2)(hA:Blk W ba (.cells #[.slice none 0 0,.slice none 0 0,.slice none 0 0,.slice none 0 0] 34))(hge:w0.heap.size<=ba)(hnd:(ba :: fx.map Prod.fst).Nodup) :
  WMem w0 fx ba W (fun _=>[]) (Array.replicate 4 (.slice none 0 0)) :=
 ⟨hx,hf,hA,ARows.start _ _ _ hx.size 4,hge,hnd⟩
theorem WMem.putAt (h:WMem w0 fx ba wr ans vs)(k:Nat){b:Nat}{cs:Array Value}{T:TypeId}(hk:fx[k]?=some (b,.cells cs T))(hg:w0.heap.size<=b)(i:Nat)(u:Value):WMem w0 (fx.set k (b,.cells (cs.setIfInBounds i u) T)) ba (wr.setCell ⟨b,i,none⟩ u) ans vs:=by
 obtain⟨hkl,hk⟩:=List.getElem?_eq_some_iff.1 hk
 have e:fx=fx.take k++(b,.cells cs T) :: fx.drop (k+1):=by
  rw [<- hk,List.getElem_cons_drop,List.take_append_drop]
 rw [List.set_eq_take_append_cons_drop,if_pos hkl]
 rw [e] at h
 exact h.put rfl hg i u
abbrev iCells (M:List Int):Obj:=.cells (M.map (Value.int .i64)).toArray 3
abbrev fCells (f:Nat->Int):Obj:=.cells (fours f).toArray 35
theorem WMem.setI (h:WMem w0 fx ba wr ans vs)(k:Nat){b:Nat}{M:List Int}(hk:fx[k]?=some (b,iCells M))(hg:w0.heap.size<=b)(i:Nat)(u:Int):WMem w0 (fx.set k (b,iCells (M.set i u))) ba (wr.setCell ⟨b,i,none⟩ (.int .i64 u)) ans vs:=by
 have q:=h.putAt k hk hg i (.int .i64 u)
 unfold iCells
 rw [List.map_set,<- List.setIfInBounds_toArray]
 exact q
theorem WMem.setF (h:WMem w0 fx ba wr ans vs)(k:Nat){b:Nat}{f:Nat->Int}(hk:fx[k]?=some (b,fCells f))(hg:w0.heap.size<=b){t:Nat}(ht:t<4)(x:Int):WMem w0 (fx.set k (b,fCells (putF f t x))) ba (wr.setCell ⟨b,t,none⟩ (.int .i64 x)) ans vs:=by
 have q:=h.putAt k hk hg t (.int .i64 x)
 unfold fCells
 rw [<- fours_put ht]
 exact q
theorem WMem.perm (h:WMem w0 fx ba wr ans vs){fy:Blocks}(hp:fx.Perm fy):WMem w0 fy ba wr ans vs :=
 { h with
  fix:=fun q hq=>h.fix q (hp.mem_iff.2 hq)
  rows:=h.rows.less fun k hk=>by
   simp only [List.mem_cons] at hk ⊢
   rcases hk with hk | hk
   · exact .inl hk
   · exact .inr ((hp.map Prod.fst).mem_iff.2 hk)
  nd:=((hp.map Prod.fst).cons ba).nodup_iff.1 h.nd }
theorem WMem.rowAdd (h:WMem w0 fx ba wr ans vs)(hx:Ext wr W){E:Option Addr}{k:Nat}{l:List Int}(hI:Ints W (.slice E l.length k) l)(hown:∀ b,(Value.slice E l.length k).ownBlock=some b->wr.heap.size<=b) :
  ∃ gx:Blocks,WMem w0 (gx++fx) ba W ans vs/\∀ W',(∀ q,q∈gx->Blk W' q.1 q.2)->Ints W' (.slice E l.length k) l:=by
 obtain⟨A,c,he,h1,h2,h3⟩:=id hI
 injection he with e1 e2 e3
 subst e1 e3
 by_cases hl:l=[]
 · subst hl
   exact⟨[],h.keep hx,fun W' _=>⟨E,k,rfl,h1,h2,fun e=>absurd rfl e⟩⟩
 · obtain⟨b,o,rfl,hb,hc⟩:=h3 hl
   obtain⟨ob,hob⟩:∃ ob,W.heap[b]?=some ob:=⟨_,Array.getElem?_eq_getElem hb⟩
   refine⟨[(b,ob)],h.add hx hob (hown b rfl),fun W' hq=>?_⟩
   have hB:Blk W' b ob:=hq (b,ob) (by simp)
   refine⟨_,k,rfl,h1,h2,fun _=>⟨b,o,rfl,hB.lt,fun i x hi=>?_⟩⟩
   rw [<- hc i x hi]
   exact World.cell?_of_block (w:=W) (a:=⟨b,o+i,none⟩) ((show W'.heap[b]?=some ob from hB).trans hob.symm)
theorem fours_same {f g:Nat->Int}(h:∀ t,t<4->f t=g t):fours f=fours g:=by
 unfold fours
 refine List.map_congr_left fun t ht=>?_
 rw [h t (by simpa using ht)]
end
def EndAtR (B:Nat) (w w':World) (bg bo:Nat) (v1 v2:Value) (d:Bool) (S:TS):Prop :=
 w'.heap[bg]?=some (.cells #[v1,v2] 39 (0,0))/\(∃ vC vN vs,w'.heap[bo]?=some (.cells #[.bool d,vC,vN,vs] 46 (0,0))/\Outs w' (.agg #[.bool d,vC,vN,vs]) d S/\(∀ b,vs.ownBlock=some b->B<=b)/\(∀ b,vC.ownBlock=some b->B<=b))/\Below B w w'
set_option maxRecDepth 100000 in
set_option maxHeartbeats 1000000 in
theorem end_okR (B p:Nat)(S:TS)(bm bg bo:Nat)(v1 v2:Value)(w:World)(h:Plays B w p S)(hm:HeldP w p bm (.cells #[.pointer (some ⟨p,0,none⟩)] 36 (0,0)))(hg:HeldP w p bg (.cells #[v1,v2] 39 (0,0)))
  (ho:HeldP w p bo (.cells #[.bool false,.slice none 0 0,.slice none 0 0,.slice none 0 0] 46 (0,0)))(hB2:B<=bo) :
  CallsD Tryz.prog 47 #[.pointer (some ⟨bm,0,none⟩),.pointer (some ⟨bg,0,none⟩),.pointer (some ⟨bo,0,none⟩)] .returning w fun e u' w'=>e=.returned (.tuple #[])/\u'=.returning/\EndAtR B w w' bg bo v1 v2 true S:=by
 obtain⟨h1,vA,vL,vC,vN,L,h⟩:=h
 have hc:=cell_of_heap h.heap
 have hfz:=frozen_of_heap h.heap
 have cm:=hm.cells
 refine callsD_of_wpS Tryz.func47 rfl fun c₀ cs hu=>?_
 simp only [Tryz.ntmps47,List.size_toArray,List.length_cons,List.length_nil,Nat.reduceAdd,Nat.reduceSub,Array.replicate_succ,Array.replicate_zero,List.push_toArray,List.append_toArray,List.nil_append,List.cons_append]
 apply wpS_seq
 refine wpS_of_wp ?_
 go_wp2_with fail
 simp only [Exit.thenS]
 apply wpS_seq
 refine wpS_of_wp ?_
 go_wp2_with fail
 simp only [Exit.thenS]
 obtain⟨HM,HK⟩:=h.state 0
 have hmh:=Lib.hid (hm.keep HK)
 have hgh:=Lib.hid (hg.keep HK).1
 have hoh:=Lib.hid (ho.keep HK)
 have hq:=cell_of_heap HM.heap
 have cm2:=hmh.out.cells
 have HMh:=Lib.hid HM
 have hbel:=Lib.hid HK.below
 clear HM HK hc hfz cm hm hg ho h
 generalize w.setCell ⟨p,0,none⟩ (.int .i64 0)=W at *
 apply wpS_seq
 apply wpS_seq
 apply wpS_region
 simp [wpOpsS,go_sem,recoverD,hu,Exit.thenS]
 refine wpS_of_wp ?_
 go_wp2_with fail
 simp only [Exit.thenS]
 refine wpS_of_wp ?_
 go_wp2_with fail
 have hI:Ints W vL L:=IntRow.ints HMh.out.rowL
 obtain⟨Al,cl,rfl,q1,q2⟩:=hI.slice
 have hIh:=Lib.hid hI
 obtain⟨Ac,cc,rfl,-,-,-⟩:=vals_row HMh.out.rowC
 obtain⟨An,cn,rfl,-,-,-⟩:=vals_row HMh.out.rowN
 have hlen:=HMh.out.locN
 have hplt:=HMh.out.lt
 have hmlt:=hmh.out.lt
 clear hI
 have hpo:p≠bo:=fun e=>hoh.out.2 (.inl e.symm)
 have hmo:bm≠bo:=fun e=>by
  have h1:=hmh.out.1
  rw [e,hoh.out.1] at h1
  injection h1 with h1
  injection h1 with _ h2
  cases h2
 have hlo:(Value.slice Al L.length cl).ownBlock≠some bo:=row_not HMh.out.rowL hoh.out.1 (by decide)
 have hS:∀ w',Near W bo 4 46 w'->((∀ i,w'.cell? ⟨p,i,none⟩=(#[.int .i64 0,vA,.slice Al L.length cl,.slice Ac S.acc.length cc,.slice An S.nts.length cn]:Array Value)[i]?)/\(∀ i,w'.cell? ⟨bm,i,none⟩=(#[.pointer (some ⟨p,0,none⟩)]:Array Value)[i]?)/\(∀ i,w'.cell? ⟨bo,i,none⟩=(#[cellD w' bo 0,cellD w' bo 1,cellD w' bo 2,cellD w' bo 3]:Array Value)[i]?)/\(∀ i,w'.frozen? ⟨bo,i,none⟩=false)/\Near W bo 4 46 w'):=fun w' hx =>
  ⟨fun i=>(hx.cell hplt hpo).trans (hq i),fun i=>(hx.cell hmlt hmo).trans (cm2 i),hx.four,hx.frozen,hx⟩
 have hN:Near W bo 4 46 W:=Near.new hoh.out.1 rfl
 go_region_held2 (fun w'=>(∀ i,w'.cell? ⟨p,i,none⟩=(#[.int .i64 0,vA,.slice Al L.length cl,.slice Ac S.acc.length cc,.slice An S.nts.length cn]:Array Value)[i]?)/\(∀ i,w'.cell? ⟨bm,i,none⟩=(#[.pointer (some ⟨p,0,none⟩)]:Array Value)[i]?)/\(∀ i,w'.cell? ⟨bo,i,none⟩=(#[cellD w' bo 0,cellD w' bo 1,cellD w' bo 2,cellD w' bo 3]:Array Value)[i]?)/\(∀ i,w'.frozen? ⟨bo,i,none⟩=false)/\Near W bo 4 46 w') (first | exact hS _ hN.drew | (refine hS _ ?_;(repeat refine Near.set ?_ _ _);exact hN.drew.ext h2))
  (first
    | (go_at_call 48
       refine (tshort_p Al cl L _ (hIh.out.ext (Ext.refl W).drew) q1 q2 (by omega)).mono ?_
       rintro e w' ⟨v',rfl,h1,h2⟩
       obtain⟨As,cs,rfl,hs1,hs2⟩:=h1.ints.slice))
 have f3:∀ b,(Value.slice As (shortL L).length cs).ownBlock=some b->B<=b:=fun b hb=>by
  have q1:=(h1.lt b hb).1
  have q2:=HMh.out.ge
  have q3:=HMh.out.lt
  rw [World.size_drew] at q1
  omega
 have f4:∀ b,(Value.slice Ac S.acc.length cc).ownBlock=some b->B<=b:=fun b hb=>(HMh.out.rowC.lt b hb).1
 obtain⟨f1,f2⟩:=end_out (d:=true) HMh.out hoh.out.1 ((Ext.refl W).drew.trans h2) h1
 have fg:bg≠bo:=fun e=>by
  have h1:=hgh.out
  rw [e,hoh.out.1] at h1
  injection h1 with h1
  injection h1 with _ h2
  cases h2
 refine⟨rfl,FrameMode.returning,(by cases c₀;simp only at hu;subst hu;rfl),.tuple #[],(by simp [results,Tryz.results47,go_sem]),rfl,rfl,?_,⟨_,_,_,f1,f2,f3,f4⟩,?_⟩
 · rw [heap_setCell_ne _ _ fg,heap_setCell_ne _ _ fg,heap_setCell_ne _ _ fg,heap_setCell_ne _ _ fg]
   exact (Below.block ((Ext.refl W).drew.trans h2) bg (Array.getElem?_eq_some_iff.1 hgh.out).1).trans hgh.out
 · exact ((((hN.drew.ext h2).set _ _).set _ _).set _ _ |>.set _ _).below hbel.out hB2 (by have:=HMh.out.ge;omega)
set_option maxRecDepth 100000 in
set_option maxHeartbeats 1000000 in
theorem end_stopR (B p:Nat)(S:TS)(bm bg bo:Nat)(v1 v2:Value)(older:List PanicEntry)(w:World)(h:Stops B w p S)(hm:HeldP w p bm (.cells #[.pointer (some ⟨p,0,none⟩)] 36 (0,0)))(hg:HeldP w p bg (.cells #[v1,v2] 39 (0,0)))
  (ho:HeldP w p bo (.cells #[.bool false,.slice none 0 0,.slice none 0 0,.slice none 0 0] 46 (0,0)))(hB1:B<=bg)(hB2:B<=bo) :
  CallsD Tryz.prog 47 #[.pointer (some ⟨bm,0,none⟩),.pointer (some ⟨bg,0,none⟩),.pointer (some ⟨bo,0,none⟩)] (.panicking ({ v:=.iface 90 (.agg #[.pointer (some ⟨p,0,none⟩)]),recovered:=false } :: older)) w fun e u' w' =>
   e=.returned (.tuple #[])/\u'=.panicking ({ v:=.iface 90 (.agg #[.pointer (some ⟨p,0,none⟩)]),recovered:=true } :: older)/\EndAtR B w w' bg bo (.int .i64 0) (.int .i64 0) false S:=by
 obtain⟨vA,vL,vC,vN,L,h⟩:=h
 have hc:=cell_of_heap h.heap
 have hfz:=frozen_of_heap h.heap
 have cm:=hm.cells
 refine callsD_of_wpS Tryz.func47 rfl fun c₀ cs hu=>?_
 simp only [Tryz.ntmps47,List.size_toArray,List.length_cons,List.length_nil,Nat.reduceAdd,Nat.reduceSub,Array.replicate_succ,Array.replicate_zero,List.push_toArray,List.append_toArray,List.nil_append,List.cons_append]
 apply wpS_seq
 refine wpS_of_wp ?_
 go_wp2_with fail
 simp only [Exit.thenS]
 apply wpS_seq
 refine wpS_of_wp ?_
 go_wp2_with fail
 simp only [Exit.thenS]
 obtain⟨HM,HK⟩:=h.state 0
 have hm2:=hm.keep HK
 have hg2:=hg.keep HK
 have ho2:=ho.keep HK
 clear hc hfz cm hm hg ho h
 generalize w.setCell ⟨p,0,none⟩ (.int .i64 0)=W0 at *
 have hX:=(Ext.refl W0).alloc (.cells #[.agg #[.pointer (some ⟨p,0,none⟩)]] 90)
 have hq0:=cell_of_heap HM.heap
 have cm0:=hm2.cells
 have hqa:Hid (∀ O,∀ i,(W0.alloc O).cell? ⟨bm,i,none⟩=(#[.pointer (some ⟨p,0,none⟩)]:Array Value)[i]?):=Lib.hid fun O i=>(((Ext.refl W0).alloc O).cell (p:=⟨bm,i,none⟩) hm2.lt).trans (hm2.cells i)
 have cma:=hqa.out
 have fga:=frozen_of_heap hg2.1
 have cg0:=hg2.cells
 have W0lt:=hg2.lt
 have fgb:Hid (∀ O i,(W0.alloc O).frozen? ⟨bg,i,none⟩=false):=Lib.hid fun O i=>frozen_of_heap ((Below.block ((Ext.refl W0).alloc O) bg hg2.lt).trans hg2.1) i
 have cgb:Hid (∀ O i,(W0.alloc O).cell? ⟨bg,i,none⟩=(#[v1,v2]:Array Value)[i]?):=Lib.hid fun O i=>(((Ext.refl W0).alloc O).cell (p:=⟨bg,i,none⟩) hg2.lt).trans (hg2.cells i)
 have fgb':=fgb.out
 have cgb':=cgb.out
 have HMh0:=Lib.hid HM
 have HKh:=Lib.hid HK
 have hmh0:=Lib.hid hm2
 have hgh0:=Lib.hid hg2
 have hoh0:=Lib.hid ho2
 clear HM HK hm2 hg2 ho2
 apply wpS_seq
 apply wpS_seq
 apply wpS_region
 simp [wpOpsS,go_sem,recoverD,hu,Exit.thenS]
 refine wpS_of_wp ?_
 go_wp2_with fail
 simp only [Exit.thenS]
 refine wpS_of_wp ?_
 go_wp2_with fail
 have hgp:=hgh0.out.2
 have hmg:bm≠bg:=fun e=>by
  have h1:=hmh0.out.1
  rw [e,hgh0.out.1] at h1
  injection h1 with h1
  injection h1 with _ h2
  cases h2
 have hog:bo≠bg:=fun e=>by
  have h1:=hoh0.out.1
  rw [e,hgh0.out.1] at h1
  injection h1 with h1
  injection h1 with _ h2
  cases h2
 have HM1:=(HMh0.out.setO hgp hB1 0 (.int .i64 0)).setO (b:=bg) (fun h'=>hgp ((ownR_same (heap_setCell_ne _ _ (fun e=>hgp (.inl e.symm))) _).1 h')) hB1 1 (.int .i64 0)
 have hgp2:¬ ownR [2,3,4] (W0.setCell ⟨bg,0,none⟩ (.int .i64 0)) p bg:=fun h'=>hgp ((ownR_same (heap_setCell_ne _ _ (fun e=>hgp (.inl e.symm))) _).1 h')
 have hm1:=(hmh0.out.setO hmg hgp 0 (.int .i64 0)).setO hmg hgp2 1 (.int .i64 0)
 have ho1:=(hoh0.out.setO hog hgp 0 (.int .i64 0)).setO hog hgp2 1 (.int .i64 0)
 have hg1:=heap_setCell (i:=1) (heap_setCell (i:=0) hgh0.out.1 (.int .i64 0)) (.int .i64 0)
 have hb1:Below B w ((W0.setCell ⟨bg,0,none⟩ (.int .i64 0)).setCell ⟨bg,1,none⟩ (.int .i64 0)):=Below.setCell (Below.setCell HKh.out.below (by show B<=bg;exact hB1) _) (by show B<=bg;exact hB1) _
 have HMh:=Lib.hid (HM1.ext (((Ext.refl _).alloc (.cells #[.pointer (some ⟨p,0,none⟩)] 90)).alloc (.cells #[.int .i64 0,.int .i64 0] 39)))
 have hmh:=Lib.hid (hm1.ext (((Ext.refl _).alloc (.cells #[.pointer (some ⟨p,0,none⟩)] 90)).alloc (.cells #[.int .i64 0,.int .i64 0] 39)) HM1.lt)
 have hoh:=Lib.hid (ho1.ext (((Ext.refl _).alloc (.cells #[.pointer (some ⟨p,0,none⟩)] 90)).alloc (.cells #[.int .i64 0,.int .i64 0] 39)) HM1.lt)
 have hgh:=Lib.hid ((Below.block (((Ext.refl _).alloc (.cells #[.pointer (some ⟨p,0,none⟩)] 90)).alloc (.cells #[.int .i64 0,.int .i64 0] 39)) bg (Array.getElem?_eq_some_iff.1 hg1).1).trans hg1)
 have hbel:=Lib.hid (Below.alloc (Below.alloc hb1 (by have:=HM1.ge;have:=HM1.lt;omega) (.cells #[.pointer (some ⟨p,0,none⟩)] 90)) (by have:=HM1.ge;have:=HM1.lt;simp only [World.size_alloc] at *;omega) (.cells #[.int .i64 0,.int .i64 0] 39))
 clear hX hq0 cm0 hqa cma fga cg0 fgb cgb fgb' cgb' HMh0 hmh0 hgh0 hoh0 HKh HM1 hm1 ho1 hg1 hb1 hgp hgp2 W0lt
 generalize (World.alloc (World.alloc ((W0.setCell ⟨bg,0,none⟩ (.int .i64 0)).setCell ⟨bg,1,none⟩ (.int .i64 0)) (.cells #[.pointer (some ⟨p,0,none⟩)] 90)) (.cells #[.int .i64 0,.int .i64 0] 39))=W at *
 have hq:=cell_of_heap HMh.out.heap
 have cm2:=hmh.out.cells
 have hI:Ints W vL L:=IntRow.ints HMh.out.rowL
 obtain⟨Al,cl,rfl,q1,q2⟩:=hI.slice
 have hIh:=Lib.hid hI
 obtain⟨Ac,cc,rfl,-,-,-⟩:=vals_row HMh.out.rowC
 obtain⟨An,cn,rfl,-,-,-⟩:=vals_row HMh.out.rowN
 have hlen:=HMh.out.locN
 have hplt:=HMh.out.lt
 have hmlt:=hmh.out.lt
 clear hI
 have hpo:p≠bo:=fun e=>hoh.out.2 (.inl e.symm)
 have hmo:bm≠bo:=fun e=>by
  have h1:=hmh.out.1
  rw [e,hoh.out.1] at h1
  injection h1 with h1
  injection h1 with _ h2
  cases h2
 have hlo:(Value.slice Al L.length cl).ownBlock≠some bo:=row_not HMh.out.rowL hoh.out.1 (by decide)
 have hS:∀ w',Near W bo 4 46 w'->((∀ i,w'.cell? ⟨p,i,none⟩=(#[.int .i64 0,vA,.slice Al L.length cl,.slice Ac S.acc.length cc,.slice An S.nts.length cn]:Array Value)[i]?)/\(∀ i,w'.cell? ⟨bm,i,none⟩=(#[.pointer (some ⟨p,0,none⟩)]:Array Value)[i]?)/\(∀ i,w'.cell? ⟨bo,i,none⟩=(#[cellD w' bo 0,cellD w' bo 1,cellD w' bo 2,cellD w' bo 3]:Array Value)[i]?)/\(∀ i,w'.frozen? ⟨bo,i,none⟩=false)/\Near W bo 4 46 w'):=fun w' hx =>
  ⟨fun i=>(hx.cell hplt hpo).trans (hq i),fun i=>(hx.cell hmlt hmo).trans (cm2 i),hx.four,hx.frozen,hx⟩
 have hN:Near W bo 4 46 W:=Near.new hoh.out.1 rfl
 go_region_held2 (fun w'=>(∀ i,w'.cell? ⟨p,i,none⟩=(#[.int .i64 0,vA,.slice Al L.length cl,.slice Ac S.acc.length cc,.slice An S.nts.length cn]:Array Value)[i]?)/\(∀ i,w'.cell? ⟨bm,i,none⟩=(#[.pointer (some ⟨p,0,none⟩)]:Array Value)[i]?)/\(∀ i,w'.cell? ⟨bo,i,none⟩=(#[cellD w' bo 0,cellD w' bo 1,cellD w' bo 2,cellD w' bo 3]:Array Value)[i]?)/\(∀ i,w'.frozen? ⟨bo,i,none⟩=false)/\Near W bo 4 46 w') (first | exact hS _ hN.drew | (refine hS _ ?_;(repeat refine Near.set ?_ _ _);exact hN.drew.ext h2))
  (first
    | (go_at_call 48
       refine (tshort_p Al cl L _ (hIh.out.ext (Ext.refl W).drew) q1 q2 (by omega)).mono ?_
       rintro e w' ⟨v',rfl,h1,h2⟩
       obtain⟨As,cs,rfl,hs1,hs2⟩:=h1.ints.slice))
 have f3:∀ b,(Value.slice As (shortL L).length cs).ownBlock=some b->B<=b:=fun b hb=>by
  have q1:=(h1.lt b hb).1
  have q2:=HMh.out.ge
  have q3:=HMh.out.lt
  rw [World.size_drew] at q1
  omega
 have f4:∀ b,(Value.slice Ac S.acc.length cc).ownBlock=some b->B<=b:=fun b hb=>(HMh.out.rowC.lt b hb).1
 obtain⟨f1,f2⟩:=end_out (d:=false) HMh.out hoh.out.1 ((Ext.refl W).drew.trans h2) h1
 have fg:bg≠bo:=fun e=>by
  have h1:=hgh.out
  rw [e,hoh.out.1] at h1
  injection h1 with h1
  injection h1 with _ h2
  cases h2
 refine⟨rfl,FrameMode.panicking ({ v:=.iface 90 (.agg #[.pointer (some ⟨p,0,none⟩)]),recovered:=true } :: older),(by cases c₀;simp only at hu;subst hu;rfl),.tuple #[],(by simp [results,Tryz.results47,go_sem]),rfl,rfl,?_,⟨_,_,_,f1,f2,f3,f4⟩,?_⟩
 · rw [heap_setCell_ne _ _ fg,heap_setCell_ne _ _ fg,heap_setCell_ne _ _ fg,heap_setCell_ne _ _ fg]
   exact (Below.block ((Ext.refl W).drew.trans h2) bg (Array.getElem?_eq_some_iff.1 hgh.out).1).trans hgh.out
 · exact ((((hN.drew.ext h2).set _ _).set _ _).set _ _ |>.set _ _).below hbel.out hB2 (by have:=HMh.out.ge;omega)
set_option maxRecDepth 100000 in
set_option maxHeartbeats 1000000 in
theorem play_reply {α:Type}(f1 f2:α->Int)(enc:α->Value)(henc:∀ a,enc a=.agg #[.int .i64 (f1 a),.int .i64 (f2 a)])(f:FuncId)(cap:Array Value)(T:Prog α)(Al:Option Addr)(cl:Nat)(L:List Int)(Aa:Option Addr)(ca:Nat)(ans:List Int)(w:World)(h:Ints w (.slice Al L.length cl) L)(hl:L.length<=32768)(ha:Ints w (.slice Aa ans.length ca) ans)(hn:ans.length<=maxAns)
  (hb:∀ b,(Value.slice Aa ans.length ca).ownBlock=some b->b<w.heap.size)
  (hcf:∀ (args:Array Value) (w:World),(callFunc f args).run Tryz.prog w=.ok (.enter f args) w)
  (hdo:∀ w1 p,Ext w w1->Plays w.heap.size w1 p (TS0 L ans)->Calls Tryz.prog f (#[.pointer (some ⟨p,0,none⟩)]++cap) w1 (Post enc w.heap.size p w1 (T.run (TS0 L ans)))) :
  Calls Tryz.prog 12 #[.func (.func f) #[] cap,.slice Al L.length cl,.slice Aa ans.length ca] w fun e w'=>∃ v,e=.returned (.tuple #[.agg #[.int .i64 (((T.run (TS0 L ans)).1.map f1).getD 0),.int .i64 (((T.run (TS0 L ans)).1.map f2).getD 0)],v])/\Outs w' v (T.run (TS0 L ans)).1.isSome (T.run (TS0 L ans)).2/\(∃ d vC vN vs,v=.agg #[.bool d,vC,vN,vs]/\(∀ b,vs.ownBlock=some b->w.heap.size<=b)/\∀ b,vC.ownBlock=some b->w.heap.size<=b)/\Ext w w':=by
 obtain⟨q1,q2⟩:L.length<=cl/\cl<=9223372036854775807:=by
  obtain⟨A',c',he,q1,q2,_⟩:=h
  injection he with e1 e2 e3
  subst e3
  exact⟨q1,q2⟩
 generalize hR:(fun e w'=>∃ v,e=Ending.returned (.tuple #[.agg #[.int .i64 (((T.run (TS0 L ans)).1.map f1).getD 0),.int .i64 (((T.run (TS0 L ans)).1.map f2).getD 0)],v])/\Outs w' v (T.run (TS0 L ans)).1.isSome (T.run (TS0 L ans)).2/\(∃ d vC vN vs,v=.agg #[.bool d,vC,vN,vs]/\(∀ b,vs.ownBlock=some b->w.heap.size<=b)/\∀ b,vC.ownBlock=some b->w.heap.size<=b)/\Ext w w')=R
 have hfin:∀ v w',Outs w' v (T.run (TS0 L ans)).1.isSome (T.run (TS0 L ans)).2->(∃ d vC vN vs,v=.agg #[.bool d,vC,vN,vs]/\(∀ b,vs.ownBlock=some b->w.heap.size<=b)/\∀ b,vC.ownBlock=some b->w.heap.size<=b)->Ext w w'->R (.returned (.tuple #[.agg #[.int .i64 (((T.run (TS0 L ans)).1.map f1).getD 0),.int .i64 (((T.run (TS0 L ans)).1.map f2).getD 0)],v])) w':=fun v w' h1 h3 h2=>hR▸⟨v,rfl,h1,h3,h2⟩
 clear hR
 have hmf:∀ (fn:Fn) (first cap:Array Value) (w:World),(Instr.makeFunc fn first cap).run Tryz.prog w=.ok (.func fn first cap) w:=fun _ _ _ _=>rfl
 go_enter_defers Tryz.func12,Tryz.ntmps12
 go_wp2_with fail
 obtain⟨hx,g1,g2,g3,g4⟩:=four_boxes w (.cells #[.int .i64 0,.int .i64 0] 39) (.cells #[.bool false,.slice none 0 0,.slice none 0 0,.slice none 0 0] 46) (.cells #[.int .i64 1,.slice Aa ans.length ca,.slice none 0 0,.slice none 0 0,.slice none 0 0] 87) (.cells #[.pointer (some ⟨w.heap.size+1+1,0,none⟩)] 36)
 generalize hW:World.alloc (World.alloc (World.alloc (World.alloc w _) _) _) _=W at *
 clear hW
 have hI:=h.ext hx
 have cm:=cell_of_heap g4
 have hN:Near W (w.heap.size+1+1) 5 87 W:=Near.new g3 rfl
 have hmlt:=(Array.getElem?_eq_some_iff.1 g4).1
 have hmin:min (L.length:Int) 32768=(L.length:Int):=by omega
 have hS:∀ w',Near W (w.heap.size+1+1) 5 87 w'->((∀ i,w'.cell? ⟨w.heap.size+1+1+1,i,none⟩=(#[.pointer (some ⟨w.heap.size+1+1,0,none⟩)]:Array Value)[i]?)/\(∀ i,w'.cell? ⟨w.heap.size+1+1,i,none⟩=(#[cellD w' (w.heap.size+1+1) 0,cellD w' (w.heap.size+1+1) 1,cellD w' (w.heap.size+1+1) 2,cellD w' (w.heap.size+1+1) 3,cellD w' (w.heap.size+1+1) 4]:Array Value)[i]?)/\(∀ i,w'.frozen? ⟨w.heap.size+1+1,i,none⟩=false)):=fun w' hx =>
  ⟨fun i=>(hx.cell hmlt (by omega)).trans (cm i),hx.five,hx.frozen⟩
 go_region_held3 (fun w'=>(∀ i,w'.cell? ⟨w.heap.size+1+1+1,i,none⟩=(#[.pointer (some ⟨w.heap.size+1+1,0,none⟩)]:Array Value)[i]?)/\(∀ i,w'.cell? ⟨w.heap.size+1+1,i,none⟩=(#[cellD w' (w.heap.size+1+1) 0,cellD w' (w.heap.size+1+1) 1,cellD w' (w.heap.size+1+1) 2,cellD w' (w.heap.size+1+1) 3,cellD w' (w.heap.size+1+1) 4]:Array Value)[i]?)/\(∀ i,w'.frozen? ⟨w.heap.size+1+1,i,none⟩=false)) (first | exact hS _ hN.drew | (refine hS _ ?_;(repeat refine Near.set ?_ _ _);exact hN.drew.ext h2))
  (first
    | (go_at_call 46
       refine (clone_any Al cl L _ (hI.ext (Ext.refl W).drew) (by omega)).mono ?_
       rintro e w' ⟨v',rfl,h1,h2⟩
       obtain⟨As,cs,rfl,hs1,hs2⟩:=h1.ints.slice))
 obtain⟨hP,hH,hE⟩:=play_start (p:=w.heap.size+1+1) hx (by omega) g3 ((Ext.refl W).drew.trans h2) h1 hl ha hn hb
 have hbg:=hH _ _ g1 (by omega)
 have hbo:=hH _ _ g2 (by omega)
 have hbm:=hH _ _ g4 (by omega)
 clear hH g1 g2 g3 g4 hS hN h1 h2 hI cm hmin hmlt
 rename_i hh
 clear hh
 have hT:=hdo _ _ hE hP
 clear hdo
 generalize World.setCell _ _ _=W2 at *
 have cbm:=hbm.cells
 have hnf:(binOp .neq 42 (.func (.func f) #[] cap) .nilFunc).run Tryz.prog W2=.ok (.bool true) W2:=by kernel_rfl
 go_wp2_with fail
 generalize hr:T.run (TS0 L ans)=r at hT hfin
 obtain⟨o,S⟩:=r
 clear hr
 cases o with
 | some a =>
   refine hT.mono ?_
   rintro e w3 ⟨rfl,hP3,hK3⟩
   rw [henc]
   have hbg3:=hbg.keep hK3
   have hbo3:=hbo.keep hK3
   have hbm3:=hbm.keep hK3
   have hE3:Ext w w3:=Below.trans hE hK3.below
   clear hbg hbo hbm hE hK3 hT hP cbm hnf henc
   have cbg:=hbg3.cells
   have fbg:=frozen_of_heap hbg3.1
   have cbo:=hbo3.cells
   have fbo:=frozen_of_heap hbo3.1
   go_wp2_with fail
   have fgo:w.heap.size≠w.heap.size+1:=by omega
   have hg4:=heap_setCell (i:=1) (heap_setCell (i:=0) hbg3.1 (.int .i64 (f1 a))) (.int .i64 (f2 a))
   have hgp2:¬ ownR [2,3,4] (w3.setCell ⟨w.heap.size,0,none⟩ (.int .i64 (f1 a))) (w.heap.size+1+1) w.heap.size:=fun h'=>hbg3.2 ((ownR_same (heap_setCell_ne _ _ (by omega)) _).1 h')
   have hP4:Plays w.heap.size ((w3.setCell ⟨w.heap.size,0,none⟩ (.int .i64 (f1 a))).setCell ⟨w.heap.size,1,none⟩ (.int .i64 (f2 a))) (w.heap.size+1+1) S:=by
    obtain⟨q,vA,vL,vC,vN,L',hM⟩:=hP3
    exact⟨q,vA,vL,vC,vN,L',(hM.setO hbg3.2 (Nat.le_refl _) _ _).setO hgp2 (Nat.le_refl _) _ _⟩
   have hbm4:=(hbm3.setO (b:=w.heap.size) (by omega) hbg3.2 0 (.int .i64 (f1 a))).setO (b:=w.heap.size) (by omega) hgp2 1 (.int .i64 (f2 a))
   have hbo4:=(hbo3.setO (b:=w.heap.size) (by omega) hbg3.2 0 (.int .i64 (f1 a))).setO (b:=w.heap.size) (by omega) hgp2 1 (.int .i64 (f2 a))
   have hbg4:HeldP ((w3.setCell ⟨w.heap.size,0,none⟩ (.int .i64 (f1 a))).setCell ⟨w.heap.size,1,none⟩ (.int .i64 (f2 a))) (w.heap.size+1+1) w.heap.size (.cells #[.int .i64 (f1 a),.int .i64 (f2 a)] 39 (0,0)):=⟨hg4,fun h'=>hgp2 ((ownR_same (heap_setCell_ne _ _ (by omega)) _).1 h')⟩
   have hE4:Ext w ((w3.setCell ⟨w.heap.size,0,none⟩ (.int .i64 (f1 a))).setCell ⟨w.heap.size,1,none⟩ (.int .i64 (f2 a))):=(hE3.setCell (p:=⟨w.heap.size,0,none⟩) (Nat.le_refl _) _).setCell (Nat.le_refl _) _
   clear hP3 hbg3 hbo3 hbm3 hE3 cbg fbg cbo fbo hg4 hgp2
   generalize World.setCell (World.setCell w3 _ _) _ _=w4 at *
   generalize hbq:w.heap.size+1=bo at hbm4 hbo4 hP4 ⊢
   have fgo1:w.heap.size≠bo:=by omega
   have fgo2:bo≠w.heap.size:=by omega
   clear fgo
   have cbg:=hbg4.cells
   have fbg:=frozen_of_heap hbg4.1
   have cbo:=hbo4.cells
   have fbo:=frozen_of_heap hbo4.1
   go_region
   all_goals
    generalize hW5:World.drew _=W5
    have hsm:SameW w4 W5:=by
     have e1:=hbg4.1
     have e2:=hbo4.1
     rw [<- hW5]
     repeat first | with_reducible exact SameW.refl _ | with_reducible refine SameW.drew2 ?_ | with_reducible refine SameW.set ?_ e2 (by simp;done) | with_reducible refine SameW.set ?_ e1 (by simp;done) | with_reducible refine SameW.set ?_ e2 rfl | with_reducible refine SameW.set ?_ e1 rfl
    clear hW5 cbg fbg cbo fbo
    have hP5:=hP4.ext hsm.ext
    have hbm5:=hbm4.ext hsm.ext hP4.lt
    have hbg5:=hbg4.ext hsm.ext (by rw [hbq];exact hP4.lt)
    have hbo5:=hbo4.ext hsm.ext hP4.lt
    have hE5:Ext w W5:=hE4.trans hsm.ext
    clear hP4 hbm4 hbg4 hbo4 hE4 hsm
    go_wp2_with fail
    refine leaves_cons (f:=47) (args:=#[.pointer (some ⟨bo+1+1,0,none⟩),.pointer (some ⟨w.heap.size,0,none⟩),.pointer (some ⟨bo,0,none⟩)]) (by simp) (by simp [go_sem]) ?_
    refine (end_okR w.heap.size _ S _ _ _ _ _ _ hP5 hbm5 (by rw [<- hbq];exact hbg5) hbo5 (by omega)).mono ?_
    rintro e u' w4 ⟨rfl,rfl,hg,⟨vC,vN,vs,ho,hO,hvs,hvc⟩,hB⟩
    have cg:=cell_of_heap hg
    have co:=cell_of_heap ho
    have cg0:=cg 0
    have cg1:=cg 1
    have co0:=co 0
    have co1:=co 1
    have co2:=co 2
    have co3:=co 3
    refine⟨.tuple #[.agg #[.int .i64 (f1 a),.int .i64 (f2 a)],.agg #[.bool true,vC,vN,vs]],?_,hfin _ _ hO ⟨_,vC,vN,vs,rfl,hvs,hvc⟩ (Below.trans hE5 hB)⟩
    simp [results,Tryz.results12,go_sem,cg0,cg1,co0,co1,co2,co3]
 | none =>
   refine hT.mono ?_
   rintro e w3 ⟨rfl,hP3,hK3⟩
   have hbg3:=hbg.keep hK3
   have hbo3:=hbo.keep hK3
   have hbm3:=hbm.keep hK3
   have hE3:Ext w w3:=Below.trans hE hK3.below
   clear hbg hbo hbm hE hK3 hT hP cbm hnf
   refine leaves_cons (f:=47) (args:=#[.pointer (some ⟨w.heap.size+1+1+1,0,none⟩),.pointer (some ⟨w.heap.size,0,none⟩),.pointer (some ⟨w.heap.size+1,0,none⟩)]) (by simp) (by simp [go_sem]) ?_
   refine (end_stopR w.heap.size _ S _ _ _ _ _ [] _ hP3 hbm3 hbg3 hbo3 (Nat.le_refl _) (by omega)).mono ?_
   rintro e u' w4 ⟨rfl,rfl,hg,⟨vC,vN,vs,ho,hO,hvs,hvc⟩,hB⟩
   have cg:=cell_of_heap hg
   have co:=cell_of_heap ho
   have cg0:=cg 0
   have cg1:=cg 1
   have co0:=co 0
   have co1:=co 1
   have co2:=co 2
   have co3:=co 3
   refine⟨.tuple #[.agg #[.int .i64 0,.int .i64 0],.agg #[.bool false,vC,vN,vs]],?_,hfin _ _ hO ⟨_,vC,vN,vs,rfl,hvs,hvc⟩ (Below.trans hE3 hB)⟩
   simp [results,Tryz.results12,go_sem,cg0,cg1,co0,co1,co2,co3]
end Go.Proofs.YtmmmiplmiooioaaGreat
namespace Kv
end Kv
namespace Go.Proofs.YtmmmiplmiooioaaGreat
open Go.RowKit Kv
@[go_sem] theorem build_lock3 (a b c:Int) (w:World):(Instr.build 27 #[(0,.int .i64 a),(1,.int .i64 b),(2,.int .i64 c)]).run Tryz.prog w=.ok (.agg #[.int .i64 a,.int .i64 b,.int .i64 c,.int .i64 0,.int .i64 0,.int .i64 0]) w:=run_build w 27 _ _ (by kernel_rfl)
@[go_sem] theorem build_acc3 (a b c:Int) (w:World):(Instr.build 50 #[(0,.int .i64 a),(1,.int .i64 b),(2,.int .i64 c)]).run Tryz.prog w=.ok (.agg #[.int .i64 a,.int .i64 b,.int .i64 c]) w:=run_build w 50 _ _ (by kernel_rfl)
end Go.Proofs.YtmmmiplmiooioaaGreat
namespace Kv
def Query.all {σ:Type} (P:σ->Prop) (V:Int->Prop):Query σ->Prop
 | .rd _ k=>∀ v,P (k v)
 | .wr _ _ s=>P s
 | .fin a=>V a
 | .nt _ t=>t.all P V
 | .st _ _ t=>t.all P V
theorem Query.all_run {σ:Type}{P:σ->Prop}{V:Int->Prop}{F:σ->Prog Int}(hF:∀ s S S1 v,P s->(F s).run S=(some v,S1)->V v):∀ (q:Query σ) (S S1:TS) (v:Int),q.all P V->(q.tree F).run S=(some v,S1)->V v
 | .rd c k,S,S1,v,h,hr=>by
   simp only [Query.tree,Prog.run] at hr
   cases hn:S.next with
   | none=>rw [hn] at hr;cases hr
   | some x=>rw [hn] at hr;exact hF _ _ _ _ (h x) hr
 | .wr c u s,S,S1,v,h,hr=>by
   simp only [Query.tree,Prog.run] at hr
   cases hn:S.next with
   | none=>rw [hn] at hr;cases hr
   | some x=>rw [hn] at hr;exact hF _ _ _ _ h hr
 | .fin a,S,S1,v,h,hr=>by
   have hr:((some a,S):Option Int × TS)=(some v,S1):=hr
   injection hr with hr _
   injection hr with hr
   exact hr▸h
 | .nt n t,S,S1,v,h,hr=>Query.all_run hF t _ S1 v h hr
 | .st i u t,S,S1,v,h,hr=>Query.all_run hF t _ S1 v h hr
theorem treeN_all {σ:Type}{ask:σ->Query σ}{P:σ->Prop}{V:Int->Prop}(h0:V 0)(h:∀ s,P s->(ask s).all P V):∀ (f:Nat) (s:σ) (S S1:TS) (v:Int),P s->(treeN ask f s).run S=(some v,S1)->V v
 | 0,s,S,S1,v,_,hr=>by
   have hr:((some 0,S):Option Int × TS)=(some v,S1):=hr
   injection hr with hr _
   injection hr with hr
   exact hr▸h0
 | f+1,s,S,S1,v,hs,hr=>Query.all_run (fun s S S1 v=>treeN_all h0 h f s S S1 v) (ask s) S S1 v (h s hs) hr
def onDone:NP->Prop
 | .b x=>x=.w2
 | .o y=>y=.o4
 | .e y=>y=.o4
 | p=>p.ctx?=some true
theorem onDone_ctx {p:NP}(h:p.ctx?=some true):onDone p:=by
 cases p <;> first | exact h | (cases h;done)
theorem onDone_all (n me:Nat)(p:NP)(h:onDone p):((onM n me).ask p).all onDone (fun v=>v=0):=by
 have hi:∀ k:Bool,k=true->((onM n me).iask k).all onDone (fun v=>v=0):=fun k e=>by subst e;rfl
 have hd:∀ (k:Bool) j,k=true->((onM n me).dask k j).all onDone (fun v=>v=0):=fun k j e=>by
  subst e
  intro v
  dsimp only
  split
  · exact onDone_ctx (down_ctx _ _ _)
  · exact onDone_ctx rfl
 cases p with
 | st k=>injection h with h;subst h;exact onDone_ctx (up_ctx _ _ _)
 | ag k=>injection h with h;subst h;exact onDone_ctx (up_ctx _ _ _)
 | u k j =>
   injection h with h;subst h
   intro v
   dsimp only
   split
   · exact onDone_ctx (up_ctx _ _ _)
   · exact onDone_ctx rfl
 | bk k j=>injection h with h;subst h;exact onDone_ctx rfl
 | z k j =>
   injection h with h;subst h
   intro v
   dsimp only
   split <;> exact onDone_ctx rfl
 | dn k =>
   injection h with h;subst h
   show (if me+1<n then (onM n me).dask true (me+1) else (onM n me).iask true).all onDone (fun v=>v=0)
   split
   · exact hd _ _ rfl
   · exact hi _ rfl
 | d k j=>injection h with h;subst h;exact hd _ _ rfl
 | i k=>injection h with h;subst h;exact hi _ rfl
 | b x=>cases h;rfl
 | o y=>cases h;rfl
 | e y=>cases h;rfl
theorem done_zero {n me D:Nat}{S S1:TS}{v:Int}(h:(treeN (onM n me).ask D (.st true)).run S=(some v,S1)):v=0:=treeN_all (P:=onDone) (V:=fun v=>v=0) rfl (onDone_all n me) D (.st true) S S1 v (show (OP.st true:NP).ctx?=some true from rfl) h
end Kv
namespace Go.Proofs.YtmmmiplmiooioaaGreat
open Go.RowKit Kv
def encHeld (_:Unit):Value:=.agg #[.int .i64 10,.int .i64 0]
@[go_sem] theorem encHeld_eq (x:Unit):encHeld x=.agg #[.int .i64 10,.int .i64 0]:=rfl
set_option maxRecDepth 100000 in
theorem comeh_p (B p n me:Nat)(S:TS)(w:World)(h:Plays B w p S)(hg:S.got 0=1) :
  Calls Tryz.prog 11 #[.pointer (some ⟨p,0,none⟩),.agg (obCells n),.int .i64 me] w (Post encHeld B p w ((Prog.ret ()).run S)):=by
 generalize hR:Post encHeld B p w ((Prog.ret ()).run S)=R
 have hO:Owes R encHeld B p w ((Prog.ret ()).run S):=hR▸owes _ _ _ _ _
 clear hR
 obtain⟨b1,b2,hK,hP⟩:=h.entry2 (.cells (obCells n) 31) (.cells #[.int .i64 0,.int .i64 0] 39)
 have c_b1:=b1.cells
 have c_b2:=b2.cells
 have hB:=h.le
 clear h
 go_enter Tryz.func11,Tryz.ntmps11
 go_wp2_with fail
 refine (get_p B p S 0 _ hP).mono ?_
 rintro e w' ⟨rfl,rfl⟩
 rw [hg]
 clear hg c_b1 b1
 have hzz:w.heap.size<=w.heap.size+1:=by omega
 generalize w.heap.size+1=z1 at *
 generalize World.alloc (World.alloc w _) _=W0 at *
 have f_b2:=fun i=>frozen_of_heap b2.1 i
 go_wp2_with fail
 obtain⟨g1,g2,g3⟩:=held2 b2 hP hK hB hzz (.int .i64 10) (.int .i64 0)
 have hf:=hO.done (v:=()) g2 g3
 clear hO hP hK b2 c_b2 f_b2 g2 g3
 exact reply_post rfl g1.1 rfl rfl hf
set_option maxRecDepth 100000 in
theorem donen_p (B p n me:Nat)(S:TS)(w:World)(h:Plays B w p S)(hg:S.got 0=0) :
  Calls Tryz.prog 10 #[.pointer (some ⟨p,0,none⟩),.agg (obCells n),.int .i64 me] w (Post encI B p w ((Prog.ret 9).run S)):=by
 generalize hR:Post encI B p w ((Prog.ret 9).run S)=R
 have hO:Owes R encI B p w ((Prog.ret 9).run S):=hR▸owes _ _ _ _ _
 clear hR
 obtain⟨b1,hK,hP⟩:=h.entry (.cells (obCells n) 31)
 have c_b1:=b1.cells
 clear h
 go_enter Tryz.func10,Tryz.ntmps10
 go_wp2_with fail
 refine (get_p B p S 0 _ hP).mono ?_
 rintro e w' ⟨rfl,rfl⟩
 rw [hg]
 clear hg c_b1 b1
 have hf:=hO.done (v:=(9:Int)) hP hK
 clear hO hP hK
 go_wp2_with fail
 first | with_reducible exact hf | (go_simp;exact hf) | (go_ret;exact hf) | (go_ret2;exact hf)
set_option maxRecDepth 100000 in
theorem oncl (B p n me ph D:Nat)(S:TS)(bo bt bp:Nat)(w:World)(h:Plays B w p S)(h1:1<=n)(h8:n<=8)(hm:me<n)(hm4:me<4)(hph:ph<=1)(hD:S.left<D)(hn0:S.nts.length+10*S.left<=90000)(hg:S.got 0=ph)
  (g1:Blk w bo (.cells (obCells n) 31))(c2:w.cell? ⟨bt,0,none⟩=some (.int .i64 me))(c3:w.cell? ⟨bp,me,none⟩=some (.int .i64 ph))(l1:bt<w.heap.size/\bp<w.heap.size) :
  Calls Tryz.prog 9 #[.pointer (some ⟨p,0,none⟩),.pointer (some ⟨bp,0,none⟩),.pointer (some ⟨bt,0,none⟩),.pointer (some ⟨bo,0,none⟩)] w (Post encRp B p w ((treeN (onM n me).ask D (.st (decide (ph=1)))).run S)):=by
 generalize hR:Post encRp B p w ((treeN (onM n me).ask D (.st (decide (ph=1)))).run S)=R
 have hO:Owes R encRp B p w ((treeN (onM n me).ask D (.st (decide (ph=1)))).run S):=hR▸owes _ _ _ _ _
 clear hR
 have hB:=h.le
 have b3:=h.held (.cells #[.int .i64 0,.int .i64 0] 39)
 have hK:=Keep.alloc (ix:=[2,3,4]) (B:=B) (.cells #[.int .i64 0,.int .i64 0] 39) h.lt h.le
 have hP:=h.alloc (.cells #[.int .i64 0,.int .i64 0] 39)
 have g2:=g1.alloc (.cells #[.int .i64 0,.int .i64 0] 39)
 have hx:=(Ext.refl w).alloc (.cells #[.int .i64 0,.int .i64 0] 39)
 have c4:=(hx.cell (p:=⟨bt,0,none⟩) l1.1).trans c2
 have c5:=(hx.cell (p:=⟨bp,me,none⟩) l1.2).trans c3
 have hzz:w.heap.size<=w.heap.size:=Nat.le_refl _
 have hm4i:(me:Int)<4:=by omega
 clear h g1 c2 c3 hx l1
 obtain rfl | rfl:ph=0∨ph=1:=by omega
 · have hq:=come_p B p n D me S _ hP h1 h8 hm hD hn0 hg
   replace hO:Owes R encRp B p w ((treeN (onM n me).ask D (.st false)).run S):=hO
   go_enter Tryz.func9,Tryz.ntmps9
   go_upto_region 3 with fail
   generalize hz:w.heap.size=z at b3 ⊢
   have hzh:=Lib.hid (show w.heap.size<=z by omega)
   have hBh:=Lib.hid hB
   generalize World.alloc w _=W0 at *
   clear hz hzz hB
   refine wp_region_lit ?_
   refine load_obj rfl _ rfl rfl _ rfl bo rfl g2 rfl ?_
   try simp only [put_pack]
   go_wp2_with fail
   clear c4 c5
   refine tlast hO hK hq (fun _ h=>⟨rfl,h⟩) ?_
   intro v S1 w1 hr hP1 hk1 hK1 hO1
   replace b3:=b3.keep hk1
   clear hr hk1 hO hq g2 hP hK
   have c_b3:=b3.cells
   have f_b3:=fun i=>frozen_of_heap b3.1 i
   go_wp2_with fail
   obtain⟨q1,q2,q3⟩:=held2 b3 hP1 hK1 hBh.out hzh.out (.int .i64 0) (.int .i64 v)
   have hf:=hO1.done q2 q3
   clear hO1 hP1 hK1 b3 c_b3 f_b3 q2 q3
   exact reply_post rfl q1.1 rfl rfl hf
 · have hq:=done_p B p n D me S _ hP h1 h8 hm hD hn0 hg
   replace hO:Owes R encRp B p w ((treeN (onM n me).ask D (.st true)).run S):=hO
   go_enter Tryz.func9,Tryz.ntmps9
   go_upto_region 2 with fail
   generalize hz:w.heap.size=z at b3 ⊢
   have hzh:=Lib.hid (show w.heap.size<=z by omega)
   have hBh:=Lib.hid hB
   generalize World.alloc w _=W0 at *
   clear hz hzz hB
   refine wp_region_lit ?_
   refine load_obj rfl _ rfl rfl _ rfl bo rfl g2 rfl ?_
   try simp only [put_pack]
   go_wp2_with fail
   clear c4 c5
   refine tlast hO hK hq (fun _ h=>⟨rfl,h⟩) ?_
   intro v S1 w1 hr hP1 hk1 hK1 hO1
   obtain rfl:v=0:=done_zero hr
   replace b3:=b3.keep hk1
   clear hr hk1 hO hq g2 hP hK
   have c_b3:=b3.cells
   have f_b3:=fun i=>frozen_of_heap b3.1 i
   go_wp2_with fail
   obtain⟨q1,q2,q3⟩:=held2 b3 hP1 hK1 hBh.out hzh.out (.int .i64 0) (.int .i64 0)
   have hf:=hO1.done q2 q3
   clear hO1 hP1 hK1 b3 c_b3 f_b3 q2 q3
   exact reply_post rfl q1.1 rfl rfl hf
set_option maxRecDepth 100000 in
theorem onal1 (B p D:Nat)(S:TS)(bo:Nat)(w:World)(h:Plays B w p S)(hD:S.left<D)(hn0:S.nts.length+10*S.left<=90000)(hg:S.got 0=0)(g1:Blk w bo (.cells (obCells 1) 31)) :
  Calls Tryz.prog 31 #[.pointer (some ⟨p,0,none⟩),.pointer (some ⟨bo,0,none⟩)] w (Post encRp B p w ((treeN (onM 1 0).ask D (.st false)).run S)):=by
 generalize hR:Post encRp B p w ((treeN (onM 1 0).ask D (.st false)).run S)=R
 have hO:Owes R encRp B p w ((treeN (onM 1 0).ask D (.st false)).run S):=hR▸owes _ _ _ _ _
 clear hR
 have hB:=h.le
 have b3:=h.held (.cells #[.int .i64 0,.int .i64 0] 39)
 have hK:=Keep.alloc (ix:=[2,3,4]) (B:=B) (.cells #[.int .i64 0,.int .i64 0] 39) h.lt h.le
 have hP:=h.alloc (.cells #[.int .i64 0,.int .i64 0] 39)
 have g2:=g1.alloc (.cells #[.int .i64 0,.int .i64 0] 39)
 clear h g1
 have hq:=come_p B p 1 D 0 S _ hP (by decide) (by decide) (by decide) hD hn0 hg
 go_enter Tryz.func31,Tryz.ntmps31
 go_upto_region 1 with fail
 generalize hz:w.heap.size=z at b3 ⊢
 have hzh:=Lib.hid (show w.heap.size<=z by omega)
 have hBh:=Lib.hid hB
 generalize World.alloc w _=W0 at *
 clear hz hB
 refine wp_region_lit ?_
 refine load_obj rfl _ rfl rfl _ rfl bo rfl g2 rfl ?_
 try simp only [put_pack]
 go_wp2_with fail
 refine tlast hO hK hq (fun _ h=>⟨rfl,h⟩) ?_
 intro v S1 w1 hr hP1 hk1 hK1 hO1
 replace b3:=b3.keep hk1
 clear hr hk1 hO hq g2 hP hK
 have c_b3:=b3.cells
 have f_b3:=fun i=>frozen_of_heap b3.1 i
 go_wp2_with fail
 obtain⟨q1,q2,q3⟩:=held2 b3 hP1 hK1 hBh.out hzh.out (.int .i64 0) (.int .i64 v)
 have hf:=hO1.done q2 q3
 clear hO1 hP1 hK1 b3 c_b3 f_b3 q2 q3
 exact reply_post rfl q1.1 rfl rfl hf
set_option maxRecDepth 100000 in
theorem onal2 (B p D:Nat)(S:TS)(bo:Nat)(w:World)(h:Plays B w p S)(hD:S.left<D)(hn0:S.nts.length+10*S.left<=90000)(hg:S.got 0=0)(g1:Blk w bo (.cells (obCells 1) 31)) :
  Calls Tryz.prog 32 #[.pointer (some ⟨p,0,none⟩),.pointer (some ⟨bo,0,none⟩)] w (Post encRp B p w ((treeN (onM 1 0).ask D (.st false)).run S)):=by
 generalize hR:Post encRp B p w ((treeN (onM 1 0).ask D (.st false)).run S)=R
 have hO:Owes R encRp B p w ((treeN (onM 1 0).ask D (.st false)).run S):=hR▸owes _ _ _ _ _
 clear hR
 have hB:=h.le
 have b3:=h.held (.cells #[.int .i64 0,.int .i64 0] 39)
 have hK:=Keep.alloc (ix:=[2,3,4]) (B:=B) (.cells #[.int .i64 0,.int .i64 0] 39) h.lt h.le
 have hP:=h.alloc (.cells #[.int .i64 0,.int .i64 0] 39)
 have g2:=g1.alloc (.cells #[.int .i64 0,.int .i64 0] 39)
 clear h g1
 have hq:=come_p B p 1 D 0 S _ hP (by decide) (by decide) (by decide) hD hn0 hg
 go_enter Tryz.func32,Tryz.ntmps32
 go_upto_region 1 with fail
 generalize hz:w.heap.size=z at b3 ⊢
 have hzh:=Lib.hid (show w.heap.size<=z by omega)
 have hBh:=Lib.hid hB
 generalize World.alloc w _=W0 at *
 clear hz hB
 refine wp_region_lit ?_
 refine load_obj rfl _ rfl rfl _ rfl bo rfl g2 rfl ?_
 try simp only [put_pack]
 go_wp2_with fail
 refine tlast hO hK hq (fun _ h=>⟨rfl,h⟩) ?_
 intro v S1 w1 hr hP1 hk1 hK1 hO1
 replace b3:=b3.keep hk1
 clear hr hk1 hO hq g2 hP hK
 have c_b3:=b3.cells
 have f_b3:=fun i=>frozen_of_heap b3.1 i
 go_wp2_with fail
 obtain⟨q1,q2,q3⟩:=held2 b3 hP1 hK1 hBh.out hzh.out (.int .i64 0) (.int .i64 v)
 have hf:=hO1.done q2 q3
 clear hO1 hP1 hK1 b3 c_b3 f_b3 q2 q3
 exact reply_post rfl q1.1 rfl rfl hf
set_option maxRecDepth 100000 in
theorem onal3 (B p D:Nat)(S:TS)(bo:Nat)(w:World)(h:Plays B w p S)(_hD:S.left<D)(_hn0:S.nts.length+10*S.left<=90000)(hg:S.got 0=1)(g1:Blk w bo (.cells (obCells 1) 31)) :
  Calls Tryz.prog 33 #[.pointer (some ⟨p,0,none⟩),.pointer (some ⟨bo,0,none⟩)] w (Post encHeld B p w ((Prog.ret ()).run S)):=by
 generalize hR:Post encHeld B p w ((Prog.ret ()).run S)=R
 have hO:Owes R encHeld B p w ((Prog.ret ()).run S):=hR▸owes _ _ _ _ _
 clear hR
 have hB:=h.le
 have b3:=h.held (.cells #[.int .i64 0,.int .i64 0] 39)
 have hK:=Keep.alloc (ix:=[2,3,4]) (B:=B) (.cells #[.int .i64 0,.int .i64 0] 39) h.lt h.le
 have hP:=h.alloc (.cells #[.int .i64 0,.int .i64 0] 39)
 have g2:=g1.alloc (.cells #[.int .i64 0,.int .i64 0] 39)
 clear h g1
 have hq:=comeh_p B p 1 0 S _ hP hg
 go_enter Tryz.func33,Tryz.ntmps33
 go_upto_region 1 with fail
 generalize hz:w.heap.size=z at b3 ⊢
 have hzh:=Lib.hid (show w.heap.size<=z by omega)
 have hBh:=Lib.hid hB
 generalize World.alloc w _=W0 at *
 clear hz hB
 refine wp_region_lit ?_
 refine load_obj rfl _ rfl rfl _ rfl bo rfl g2 rfl ?_
 try simp only [put_pack]
 go_wp2_with fail
 refine tlast hO hK hq (fun _ h=>⟨rfl,h⟩) ?_
 intro v S1 w1 hr hP1 hk1 hK1 hO1
 replace b3:=b3.keep hk1
 clear hr hk1 hO hq g2 hP hK
 have c_b3:=b3.cells
 have f_b3:=fun i=>frozen_of_heap b3.1 i
 go_wp2_with fail
 obtain⟨q1,q2,q3⟩:=held2 b3 hP1 hK1 hBh.out hzh.out (.int .i64 10) (.int .i64 0)
 have hf:=hO1.done q2 q3
 clear hO1 hP1 hK1 b3 c_b3 f_b3 q2 q3
 exact reply_post rfl q1.1 rfl rfl hf
set_option maxRecDepth 100000 in
theorem onal4 (B p D:Nat)(S:TS)(bo:Nat)(w:World)(h:Plays B w p S)(hD:S.left<D)(hn0:S.nts.length+10*S.left<=90000)(hg:S.got 0=1)(g1:Blk w bo (.cells (obCells 1) 31)) :
  Calls Tryz.prog 35 #[.pointer (some ⟨p,0,none⟩),.pointer (some ⟨bo,0,none⟩)] w (Post encI B p w ((treeN (onM 1 0).ask D (.st true)).run S)):=by
 have hq:=done_p B p 1 D 0 S w h (by decide) (by decide) (by decide) hD hn0 hg
 generalize hR:Post encI B p w ((treeN (onM 1 0).ask D (.st true)).run S)=R
 have hO:Owes R encI B p w ((treeN (onM 1 0).ask D (.st true)).run S):=hR▸owes _ _ _ _ _
 clear hR
 have hK:=Keep.refl [2,3,4] B p w
 go_enter Tryz.func35,Tryz.ntmps35
 go_upto_region 1 with fail
 refine wp_region_lit ?_
 refine load_obj rfl _ rfl rfl _ rfl bo rfl g1 rfl ?_
 try simp only [put_pack]
 go_wp2_with fail
 refine tlast hO hK hq (fun _ h=>⟨rfl,h⟩) ?_
 intro v S1 w1 hr hP1 hk1 hK1 hO1
 have hf:=hO1.done hP1 hK1
 clear hO1 hP1 hK1 hr hk1 hO h hK hq g1
 go_wp2_with fail
 first | exact hf | (go_ret;exact hf)
set_option maxRecDepth 100000 in
theorem onal5 (B p D:Nat)(S:TS)(bo:Nat)(w:World)(h:Plays B w p S)(_hD:S.left<D)(_hn0:S.nts.length+10*S.left<=90000)(hg:S.got 0=0)(g1:Blk w bo (.cells (obCells 1) 31)) :
  Calls Tryz.prog 36 #[.pointer (some ⟨p,0,none⟩),.pointer (some ⟨bo,0,none⟩)] w (Post encI B p w ((Prog.ret 9).run S)):=by
 have hq:=donen_p B p 1 0 S w h hg
 generalize hR:Post encI B p w ((Prog.ret 9).run S)=R
 have hO:Owes R encI B p w ((Prog.ret 9).run S):=hR▸owes _ _ _ _ _
 clear hR
 have hK:=Keep.refl [2,3,4] B p w
 go_enter Tryz.func36,Tryz.ntmps36
 go_upto_region 1 with fail
 refine wp_region_lit ?_
 refine load_obj rfl _ rfl rfl _ rfl bo rfl g1 rfl ?_
 try simp only [put_pack]
 go_wp2_with fail
 refine tlast hO hK hq (fun _ h=>⟨rfl,h⟩) ?_
 intro v S1 w1 hr hP1 hk1 hK1 hO1
 have hf:=hO1.done hP1 hK1
 clear hO1 hP1 hK1 hr hk1 hO h hK hq g1
 go_wp2_with fail
 first | exact hf | (go_ret;exact hf)
set_option maxRecDepth 100000 in
theorem strips39 (w:World):Calls Tryz.prog 37 #[] w fun e w'=>∃ A,e=.returned (.slice A 1 1)/\Ext w w':=by
 go_enter Tryz.func37,Tryz.ntmps37
 go_wp2_with fail
 go_ret
 exact⟨_,rfl,(Ext.refl w).alloc _⟩
theorem locals39 (w:World):Calls Tryz.prog 38 #[] w fun e w'=>e=.returned (.int .i64 1)/\Ext w w':=by
 go_enter Tryz.func38,Tryz.ntmps38
 go_wp2_with fail
 go_ret
 exact⟨rfl,Ext.refl w⟩
end Go.Proofs.YtmmmiplmiooioaaGreat
